/- The walk of the reader of answers: told, of a lease. -/
import Derived.Test.YtcobfoiajdbahaaDoorWQRd
import Derived.Test.YtcobfoiajdbahaaDoorWQTell
import Derived.Test.YtcobfoiajdbahaaDoorWQBox
namespace Go.Proofs.YtcobfoiajdbahaaDoor
open Go.RowKit
set_option linter.unusedVariables false
set_option linter.unusedSimpArgs false
set_option maxRecDepth 100000 in
set_option maxHeartbeats 16000000 in
theorem told_lease (g : Nat) (q : P.Qs) (op : Nat) (hop : 5 ≤ op ∧ op ≤ 7) (w : World) (hs : q.1.length ≤ 1000000000) (hx : RdX w g q) :
    Calls Tryd.prog 67 #[.pointer (some ⟨g, 0, none⟩), .int .u8 (op : Nat)] w fun e w' => e = .returned (anV (P.qTold op q).1 none 0 none 0 none 0) ∧ RdX w' g (P.qTold op q).2 ∧ But g w w' := by
  have hlt := hx.lt
  have hA := (Below.refl w.heap.size w).alloc (Nat.le_refl _) (.cells #[.int .u8 0, .int .u64 0, .int .u64 0, .string ⟨#[]⟩, .int .u64 0, .int .u8 0, .int .u64 0, .int .u64 0, .int .i64 0, .bool false, .bool false, .bool false, .int .u64 0, .slice none 0 0, .slice none 0 0, .slice none 0 0] 36)
  have hz0 := Bx.fresh w 36 #[.int .u8 0, .int .u64 0, .int .u64 0, .string ⟨#[]⟩, .int .u64 0, .int .u8 0, .int .u64 0, .int .u64 0, .int .i64 0, .bool false, .bool false, .bool false, .int .u64 0, .slice none 0 0, .slice none 0 0, .slice none 0 0]
  have hx0 := hx.up hA
  have hne : w.heap.size ≠ g := by omega
  have hle := P.qA_le q
  have HA := Lib.hid (fun wx (h : RdX wx g q) => addr_any g q wx hs h)
  have HL := Lib.hid (fun wx (h : RdX wx g (P.qA q).2) => lease_any g (P.qA q).2 wx (by omega) h)
  have Hk := Lib.hid (show P.qTold op q = ({ P.noAn with a := (P.qA q).1, owner := (P.qL (P.qA q).2).1.1, til := (P.qL (P.qA q).2).1.2 }, (P.qL (P.qA q).2).2) by unfold P.qTold; rw [if_pos hop])
  generalize P.qTold op q = res at *
  generalize P.qL (P.qA q).2 = l at *
  generalize P.qA q = a at *
  obtain ⟨a, q1⟩ := a
  obtain ⟨⟨o, t⟩, q2⟩ := l
  simp only at HA HL Hk hle
  go_enter Tryd.func67, Tryd.ntmps67
  rcases (show op = 5 ∨ op = 6 ∨ op = 7 by omega) with hop | hop | hop
  · have t5 : ((op : Int) == 5) = true := beq_iff_eq.2 (by omega)
    clear hop
    go_wp2_with (first
      | (go_at_call 52; (with_reducible refine (HA.out _ hx0).mono ?_); rintro e w1 ⟨rfl, hx1, hb1⟩; have hz1 := hz0.but hb1 hne)
      | (refine wpList_stB (by rfl) _ _ _ (by rfl) hz1 _ _ (by rfl) (by rfl) 3 16 (by rfl) (by rfl) (by decide) infoAd (by rfl) (by rfl) ?_; intro w2 hz' hb2; have hz2 : Bx w2 w.heap.size 36 #[.int .u8 (a.fam : Nat), V64 a.hi, V64 a.lo, .string ⟨#[]⟩, .int .u64 0, .int .u8 0, .int .u64 0, .int .u64 0, .int .i64 0, .bool false, .bool false, .bool false, .int .u64 0, .slice none 0 0, .slice none 0 0, .slice none 0 0] := hz'; clear hz'; have hx2 := hx1.ofBut hb2 (Ne.symm hne))
      | (go_at_call 89; (with_reducible refine (HL.out _ hx2).mono ?_); rintro e w3 ⟨rfl, hx3, hb3⟩; have hz3 := hz2.but hb3 hne)
      | (refine wpList_stB (by rfl) _ _ _ (by rfl) hz3 _ _ (by rfl) (by rfl) 2 16 (by rfl) (by rfl) (by decide) infoLe (by rfl) (by rfl) ?_; intro w4 hz' hb4; have hz4 : Bx w4 w.heap.size 36 #[.int .u8 (a.fam : Nat), V64 a.hi, V64 a.lo, S o, V64 t, .int .u8 0, .int .u64 0, .int .u64 0, .int .i64 0, .bool false, .bool false, .bool false, .int .u64 0, .slice none 0 0, .slice none 0 0, .slice none 0 0] := hz'; clear hz'; have hx4 := hx3.ofBut hb4 (Ne.symm hne))
      | (refine wpList_ldB (by rfl) _ _ (by rfl) hz4 (by rfl) structAns 16 infoAns (by rfl) ?_)
      | (refine wpList_stB (by rfl) _ _ _ (by rfl) hz4 _ _ (by rfl) (by rfl) 16 16 (by rfl) (by rfl) (by decide) infoAns (by rfl) (by rfl) ?_; intro w5 hz' hb5; have hz5 : Bx w5 w.heap.size 36 #[.int .u8 (a.fam : Nat), V64 a.hi, V64 a.lo, S o, V64 t, .int .u8 0, .int .u64 0, .int .u64 0, .int .i64 0, .bool false, .bool false, .bool false, .int .u64 0, .slice none 0 0, .slice none 0 0, .slice none 0 0] := hz'; clear hz'; have hx5 := hx4.ofBut hb5 (Ne.symm hne)))
    have hge : w.heap.size ≤ w.heap.size := Nat.le_refl _
    exact bodyPost_ret (results_box rfl (by rfl) (loadB hz5 structAns infoAns rfl)) rfl ⟨by rw [Hk.out]; rfl, by rw [Hk.out]; exact hx5, ((((((But.of hA).trans hb1).after hb2 hge).trans hb3).after hb4 hge).after hb5 hge)⟩
  · have t5 : ((op : Int) == 5) = false := beq_eq_false_iff_ne.2 (by omega)
    have t6 : ((op : Int) == 6) = true := beq_iff_eq.2 (by omega)
    clear hop
    go_wp2_with (first
      | (go_at_call 52; (with_reducible refine (HA.out _ hx0).mono ?_); rintro e w1 ⟨rfl, hx1, hb1⟩; have hz1 := hz0.but hb1 hne)
      | (refine wpList_stB (by rfl) _ _ _ (by rfl) hz1 _ _ (by rfl) (by rfl) 3 16 (by rfl) (by rfl) (by decide) infoAd (by rfl) (by rfl) ?_; intro w2 hz' hb2; have hz2 : Bx w2 w.heap.size 36 #[.int .u8 (a.fam : Nat), V64 a.hi, V64 a.lo, .string ⟨#[]⟩, .int .u64 0, .int .u8 0, .int .u64 0, .int .u64 0, .int .i64 0, .bool false, .bool false, .bool false, .int .u64 0, .slice none 0 0, .slice none 0 0, .slice none 0 0] := hz'; clear hz'; have hx2 := hx1.ofBut hb2 (Ne.symm hne))
      | (go_at_call 89; (with_reducible refine (HL.out _ hx2).mono ?_); rintro e w3 ⟨rfl, hx3, hb3⟩; have hz3 := hz2.but hb3 hne)
      | (refine wpList_stB (by rfl) _ _ _ (by rfl) hz3 _ _ (by rfl) (by rfl) 2 16 (by rfl) (by rfl) (by decide) infoLe (by rfl) (by rfl) ?_; intro w4 hz' hb4; have hz4 : Bx w4 w.heap.size 36 #[.int .u8 (a.fam : Nat), V64 a.hi, V64 a.lo, S o, V64 t, .int .u8 0, .int .u64 0, .int .u64 0, .int .i64 0, .bool false, .bool false, .bool false, .int .u64 0, .slice none 0 0, .slice none 0 0, .slice none 0 0] := hz'; clear hz'; have hx4 := hx3.ofBut hb4 (Ne.symm hne))
      | (refine wpList_ldB (by rfl) _ _ (by rfl) hz4 (by rfl) structAns 16 infoAns (by rfl) ?_)
      | (refine wpList_stB (by rfl) _ _ _ (by rfl) hz4 _ _ (by rfl) (by rfl) 16 16 (by rfl) (by rfl) (by decide) infoAns (by rfl) (by rfl) ?_; intro w5 hz' hb5; have hz5 : Bx w5 w.heap.size 36 #[.int .u8 (a.fam : Nat), V64 a.hi, V64 a.lo, S o, V64 t, .int .u8 0, .int .u64 0, .int .u64 0, .int .i64 0, .bool false, .bool false, .bool false, .int .u64 0, .slice none 0 0, .slice none 0 0, .slice none 0 0] := hz'; clear hz'; have hx5 := hx4.ofBut hb5 (Ne.symm hne)))
    have hge : w.heap.size ≤ w.heap.size := Nat.le_refl _
    exact bodyPost_ret (results_box rfl (by rfl) (loadB hz5 structAns infoAns rfl)) rfl ⟨by rw [Hk.out]; rfl, by rw [Hk.out]; exact hx5, ((((((But.of hA).trans hb1).after hb2 hge).trans hb3).after hb4 hge).after hb5 hge)⟩
  · have t5 : ((op : Int) == 5) = false := beq_eq_false_iff_ne.2 (by omega)
    have t6 : ((op : Int) == 6) = false := beq_eq_false_iff_ne.2 (by omega)
    have t7 : ((op : Int) == 7) = true := beq_iff_eq.2 (by omega)
    clear hop
    go_wp2_with (first
      | (go_at_call 52; (with_reducible refine (HA.out _ hx0).mono ?_); rintro e w1 ⟨rfl, hx1, hb1⟩; have hz1 := hz0.but hb1 hne)
      | (refine wpList_stB (by rfl) _ _ _ (by rfl) hz1 _ _ (by rfl) (by rfl) 3 16 (by rfl) (by rfl) (by decide) infoAd (by rfl) (by rfl) ?_; intro w2 hz' hb2; have hz2 : Bx w2 w.heap.size 36 #[.int .u8 (a.fam : Nat), V64 a.hi, V64 a.lo, .string ⟨#[]⟩, .int .u64 0, .int .u8 0, .int .u64 0, .int .u64 0, .int .i64 0, .bool false, .bool false, .bool false, .int .u64 0, .slice none 0 0, .slice none 0 0, .slice none 0 0] := hz'; clear hz'; have hx2 := hx1.ofBut hb2 (Ne.symm hne))
      | (go_at_call 89; (with_reducible refine (HL.out _ hx2).mono ?_); rintro e w3 ⟨rfl, hx3, hb3⟩; have hz3 := hz2.but hb3 hne)
      | (refine wpList_stB (by rfl) _ _ _ (by rfl) hz3 _ _ (by rfl) (by rfl) 2 16 (by rfl) (by rfl) (by decide) infoLe (by rfl) (by rfl) ?_; intro w4 hz' hb4; have hz4 : Bx w4 w.heap.size 36 #[.int .u8 (a.fam : Nat), V64 a.hi, V64 a.lo, S o, V64 t, .int .u8 0, .int .u64 0, .int .u64 0, .int .i64 0, .bool false, .bool false, .bool false, .int .u64 0, .slice none 0 0, .slice none 0 0, .slice none 0 0] := hz'; clear hz'; have hx4 := hx3.ofBut hb4 (Ne.symm hne))
      | (refine wpList_ldB (by rfl) _ _ (by rfl) hz4 (by rfl) structAns 16 infoAns (by rfl) ?_)
      | (refine wpList_stB (by rfl) _ _ _ (by rfl) hz4 _ _ (by rfl) (by rfl) 16 16 (by rfl) (by rfl) (by decide) infoAns (by rfl) (by rfl) ?_; intro w5 hz' hb5; have hz5 : Bx w5 w.heap.size 36 #[.int .u8 (a.fam : Nat), V64 a.hi, V64 a.lo, S o, V64 t, .int .u8 0, .int .u64 0, .int .u64 0, .int .i64 0, .bool false, .bool false, .bool false, .int .u64 0, .slice none 0 0, .slice none 0 0, .slice none 0 0] := hz'; clear hz'; have hx5 := hx4.ofBut hb5 (Ne.symm hne)))
    have hge : w.heap.size ≤ w.heap.size := Nat.le_refl _
    exact bodyPost_ret (results_box rfl (by rfl) (loadB hz5 structAns infoAns rfl)) rfl ⟨by rw [Hk.out]; rfl, by rw [Hk.out]; exact hx5, ((((((But.of hA).trans hb1).after hb2 hge).trans hb3).after hb4 hge).after hb5 hge)⟩
end Go.Proofs.YtcobfoiajdbahaaDoor
