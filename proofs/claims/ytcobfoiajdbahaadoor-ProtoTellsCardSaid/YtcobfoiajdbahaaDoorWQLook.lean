/- The walk of the reader of answers: a look; told of any Op. -/
import Derived.Test.YtcobfoiajdbahaaDoorWQTold3
import Derived.Test.YtcobfoiajdbahaaDoorWQTold4
import Derived.Test.YtcobfoiajdbahaaDoorWQTold5
import Derived.Test.YtcobfoiajdbahaaDoorWQAwake
namespace Go.Proofs.YtcobfoiajdbahaaDoor
open Go.RowKit
set_option linter.unusedVariables false
set_option linter.unusedSimpArgs false
set_option maxRecDepth 100000 in
set_option maxHeartbeats 16000000 in
theorem look_any (g : Nat) (q : P.Qs) (w : World) (hs : q.1.length ≤ 1000000) (hx : RdX w g q) :
    Calls Tryd.prog 90 #[.pointer (some ⟨g, 0, none⟩)] w fun e w' => e = .returned (anV (P.qLk q).1 none 0 none 0 none 0) ∧ RdX w' g (P.qLk q).2 ∧ But g w w' := by
  have hlt := hx.lt
  have hA := (Below.refl w.heap.size w).alloc (Nat.le_refl _) (.cells #[.int .u8 0, .int .u64 0, .int .u64 0, .string ⟨#[]⟩, .int .u64 0, .int .u8 0, .int .u64 0, .int .u64 0, .int .i64 0, .bool false, .bool false, .bool false, .int .u64 0, .slice none 0 0, .slice none 0 0, .slice none 0 0] 36)
  have hz0 := Bx.fresh w 36 #[.int .u8 0, .int .u64 0, .int .u64 0, .string ⟨#[]⟩, .int .u64 0, .int .u8 0, .int .u64 0, .int .u64 0, .int .i64 0, .bool false, .bool false, .bool false, .int .u64 0, .slice none 0 0, .slice none 0 0, .slice none 0 0]
  have hx0 := hx.up hA
  have hne : w.heap.size ≠ g := by omega
  have hle := P.qB_le 0 7 q
  have hmost := P.qB_most 0 7 q
  have HB := Lib.hid (fun wx (h : RdX wx g q) => show Calls Tryd.prog 55 #[.pointer (some ⟨g, 0, none⟩), .int .i64 0, .int .i64 7] wx fun e w' => e = .returned (.int .i64 ((P.qB 0 7 q).1 : Nat)) ∧ RdX w' g (P.qB 0 7 q).2 ∧ But g wx w' from byte_any g q 0 7 (by omega) wx (by omega) h)
  have Hq := Lib.hid (show P.qB 0 7 q = ((P.qB 0 7 q).1, (P.qB 0 7 q).2) from rfl)
  generalize (P.qB 0 7 q).2 = q1 at *
  generalize hn : (P.qB 0 7 q).1 = n at *
  clear hn
  have HX := Lib.hid (fun wx (h : RdX wx g q1) => prefix_any g q1 wx (by omega) h)
  have hle2 := P.qX_le q1
  have HL1 := Lib.hid (fun wx (h : RdX wx g q1) => lease_any g q1 wx (by omega) h)
  have HL2 := Lib.hid (fun wx (h : RdX wx g (P.qX q1).2) => lease_any g (P.qX q1).2 wx (by omega) h)
  rcases (show n = 0 ∨ n = 1 ∨ n = 2 ∨ n = 3 ∨ n = 4 ∨ n = 5 ∨ n = 6 ∨ n = 7 by omega) with rfl | rfl | rfl | rfl | rfl | rfl | rfl | rfl
  · rw [show (((0 : Nat)) : Int) = 0 from rfl] at HB
    have hn1 : bits .and .i64 0 1 = 0 := by decide
    have hn2 : bits .and .i64 0 2 = 0 := by decide
    have hn4 : bits .and .i64 0 4 = 0 := by decide
    have Hk := Lib.hid (show P.qLk q = ({ P.noAn with has := false, held := false, live := false, pool := P.noX, owner := [], til := 0 }, q1) by unfold P.qLk; rw [Hq.out]; simp)
    clear Hq
    go_enter Tryd.func90, Tryd.ntmps90
    go_wp2_with (first
      | (go_at_call 55; (with_reducible refine (HB.out _ hx0).mono ?_); rintro e w1 ⟨rfl, hxw1, hb1⟩; have hzw1 := hz0.but hb1 hne)
      | (refine wpList_stV (by rfl) _ _ _ (by rfl) hzw1 _ _ (by rfl) (by rfl) (by rfl) (by rfl) 16 (by rfl) (by decide) infoBool (by rfl) ?_; intro w2 hz' hbw2; have hzw2 : Bx w2 w.heap.size 36 #[.int .u8 0, .int .u64 0, .int .u64 0, .string ⟨#[]⟩, .int .u64 0, .int .u8 0, .int .u64 0, .int .u64 0, .int .i64 0, .bool false, .bool false, .bool false, .int .u64 0, .slice none 0 0, .slice none 0 0, .slice none 0 0] := hz'; clear hz'; have hxw2 := Bx.but hxw1 hbw2 (Ne.symm hne))
      | (refine wpList_stV (by rfl) _ _ _ (by rfl) hzw2 _ _ (by rfl) (by rfl) (by rfl) (by rfl) 16 (by rfl) (by decide) infoBool (by rfl) ?_; intro w3 hz' hbw3; have hzw3 : Bx w3 w.heap.size 36 #[.int .u8 0, .int .u64 0, .int .u64 0, .string ⟨#[]⟩, .int .u64 0, .int .u8 0, .int .u64 0, .int .u64 0, .int .i64 0, .bool false, .bool false, .bool false, .int .u64 0, .slice none 0 0, .slice none 0 0, .slice none 0 0] := hz'; clear hz'; have hxw3 := Bx.but hxw2 hbw3 (Ne.symm hne))
      | (refine wpList_stV (by rfl) _ _ _ (by rfl) hzw3 _ _ (by rfl) (by rfl) (by rfl) (by rfl) 16 (by rfl) (by decide) infoBool (by rfl) ?_; intro w4 hz' hbw4; have hzw4 : Bx w4 w.heap.size 36 #[.int .u8 0, .int .u64 0, .int .u64 0, .string ⟨#[]⟩, .int .u64 0, .int .u8 0, .int .u64 0, .int .u64 0, .int .i64 0, .bool false, .bool false, .bool false, .int .u64 0, .slice none 0 0, .slice none 0 0, .slice none 0 0] := hz'; clear hz'; have c9 := hzw4.cell 9; have c11 := hzw4.cell 11; simp only [List.getElem?_toArray, List.getElem?_cons_succ, List.getElem?_cons_zero] at c9 c11; have hxw4 := Bx.but hxw3 hbw4 (Ne.symm hne))
      | (refine wpList_ldB (by rfl) _ _ (by rfl) hzw4 (by rfl) structAns 16 infoAns (by rfl) ?_)
      | (refine wpList_stB (by rfl) _ _ _ (by rfl) hzw4 _ _ (by rfl) (by rfl) 16 16 (by rfl) (by rfl) (by decide) infoAns (by rfl) (by rfl) ?_; intro w9 hz' hbw9; have hzw9 : Bx w9 w.heap.size 36 #[.int .u8 0, .int .u64 0, .int .u64 0, .string ⟨#[]⟩, .int .u64 0, .int .u8 0, .int .u64 0, .int .u64 0, .int .i64 0, .bool false, .bool false, .bool false, .int .u64 0, .slice none 0 0, .slice none 0 0, .slice none 0 0] := hz'; clear hz'; have hxw9 := Bx.but hxw4 hbw9 (Ne.symm hne)))
    exact bodyPost_ret (results_box rfl (by rfl) (loadB hzw9 structAns infoAns rfl)) rfl ⟨by rw [Hk.out]; rfl, by rw [Hk.out]; exact hxw9, (((((But.of hA).trans hb1).after hbw2 (Nat.le_refl _)).after hbw3 (Nat.le_refl _)).after hbw4 (Nat.le_refl _)).after hbw9 (Nat.le_refl _)⟩
  · rw [show (((1 : Nat)) : Int) = 1 from rfl] at HB
    have hn1 : bits .and .i64 1 1 = 1 := by decide
    have hn2 : bits .and .i64 1 2 = 0 := by decide
    have hn4 : bits .and .i64 1 4 = 0 := by decide
    have Hk := Lib.hid (show P.qLk q = ({ P.noAn with has := true, held := false, live := false, pool := (P.qX q1).1, owner := [], til := 0 }, (P.qX q1).2) by unfold P.qLk; rw [Hq.out]; simp)
    clear Hq
    generalize P.qX q1 = xx at *
    obtain ⟨x, qf⟩ := xx
    simp only at HX  Hk
    go_enter Tryd.func90, Tryd.ntmps90
    go_wp2_with (first
      | (go_at_call 55; (with_reducible refine (HB.out _ hx0).mono ?_); rintro e w1 ⟨rfl, hxw1, hb1⟩; have hzw1 := hz0.but hb1 hne)
      | (refine wpList_stV (by rfl) _ _ _ (by rfl) hzw1 _ _ (by rfl) (by rfl) (by rfl) (by rfl) 16 (by rfl) (by decide) infoBool (by rfl) ?_; intro w2 hz' hbw2; have hzw2 : Bx w2 w.heap.size 36 #[.int .u8 0, .int .u64 0, .int .u64 0, .string ⟨#[]⟩, .int .u64 0, .int .u8 0, .int .u64 0, .int .u64 0, .int .i64 0, .bool true, .bool false, .bool false, .int .u64 0, .slice none 0 0, .slice none 0 0, .slice none 0 0] := hz'; clear hz'; have hxw2 := Bx.but hxw1 hbw2 (Ne.symm hne))
      | (refine wpList_stV (by rfl) _ _ _ (by rfl) hzw2 _ _ (by rfl) (by rfl) (by rfl) (by rfl) 16 (by rfl) (by decide) infoBool (by rfl) ?_; intro w3 hz' hbw3; have hzw3 : Bx w3 w.heap.size 36 #[.int .u8 0, .int .u64 0, .int .u64 0, .string ⟨#[]⟩, .int .u64 0, .int .u8 0, .int .u64 0, .int .u64 0, .int .i64 0, .bool true, .bool false, .bool false, .int .u64 0, .slice none 0 0, .slice none 0 0, .slice none 0 0] := hz'; clear hz'; have hxw3 := Bx.but hxw2 hbw3 (Ne.symm hne))
      | (refine wpList_stV (by rfl) _ _ _ (by rfl) hzw3 _ _ (by rfl) (by rfl) (by rfl) (by rfl) 16 (by rfl) (by decide) infoBool (by rfl) ?_; intro w4 hz' hbw4; have hzw4 : Bx w4 w.heap.size 36 #[.int .u8 0, .int .u64 0, .int .u64 0, .string ⟨#[]⟩, .int .u64 0, .int .u8 0, .int .u64 0, .int .u64 0, .int .i64 0, .bool true, .bool false, .bool false, .int .u64 0, .slice none 0 0, .slice none 0 0, .slice none 0 0] := hz'; clear hz'; have c9 := hzw4.cell 9; have c11 := hzw4.cell 11; simp only [List.getElem?_toArray, List.getElem?_cons_succ, List.getElem?_cons_zero] at c9 c11; have hxw4 := Bx.but hxw3 hbw4 (Ne.symm hne))
      | (go_at_call 51; (with_reducible refine (HX.out _ hxw4).mono ?_); rintro e w5 ⟨rfl, hxw5, hb5⟩; have hzw5 := hzw4.but hb5 hne)
      | (refine wpList_stB (by rfl) _ _ _ (by rfl) hzw5 _ _ (by rfl) (by rfl) 4 16 (by rfl) (by rfl) (by decide) infoPx (by rfl) (by rfl) ?_; intro w6 hz' hbw6; have hzw6 : Bx w6 w.heap.size 36 #[.int .u8 0, .int .u64 0, .int .u64 0, .string ⟨#[]⟩, .int .u64 0, .int .u8 (x.a.fam : Nat), V64 x.a.hi, V64 x.a.lo, .int .i64 x.bits, .bool true, .bool false, .bool false, .int .u64 0, .slice none 0 0, .slice none 0 0, .slice none 0 0] := hz'; clear hz'; have d11 := hzw6.cell 11; simp only [List.getElem?_toArray, List.getElem?_cons_succ, List.getElem?_cons_zero] at d11; have hxw6 := Bx.but hxw5 hbw6 (Ne.symm hne))
      | (refine wpList_ldB (by rfl) _ _ (by rfl) hzw6 (by rfl) structAns 16 infoAns (by rfl) ?_)
      | (refine wpList_stB (by rfl) _ _ _ (by rfl) hzw6 _ _ (by rfl) (by rfl) 16 16 (by rfl) (by rfl) (by decide) infoAns (by rfl) (by rfl) ?_; intro w9 hz' hbw9; have hzw9 : Bx w9 w.heap.size 36 #[.int .u8 0, .int .u64 0, .int .u64 0, .string ⟨#[]⟩, .int .u64 0, .int .u8 (x.a.fam : Nat), V64 x.a.hi, V64 x.a.lo, .int .i64 x.bits, .bool true, .bool false, .bool false, .int .u64 0, .slice none 0 0, .slice none 0 0, .slice none 0 0] := hz'; clear hz'; have hxw9 := Bx.but hxw6 hbw9 (Ne.symm hne)))
    exact bodyPost_ret (results_box rfl (by rfl) (loadB hzw9 structAns infoAns rfl)) rfl ⟨by rw [Hk.out]; rfl, by rw [Hk.out]; exact hxw9, (((((((But.of hA).trans hb1).after hbw2 (Nat.le_refl _)).after hbw3 (Nat.le_refl _)).after hbw4 (Nat.le_refl _)).trans hb5).after hbw6 (Nat.le_refl _)).after hbw9 (Nat.le_refl _)⟩
  · rw [show (((2 : Nat)) : Int) = 2 from rfl] at HB
    have hn1 : bits .and .i64 2 1 = 0 := by decide
    have hn2 : bits .and .i64 2 2 = 2 := by decide
    have hn4 : bits .and .i64 2 4 = 0 := by decide
    have Hk := Lib.hid (show P.qLk q = ({ P.noAn with has := false, held := true, live := false, pool := P.noX, owner := [], til := 0 }, q1) by unfold P.qLk; rw [Hq.out]; simp)
    clear Hq
    go_enter Tryd.func90, Tryd.ntmps90
    go_wp2_with (first
      | (go_at_call 55; (with_reducible refine (HB.out _ hx0).mono ?_); rintro e w1 ⟨rfl, hxw1, hb1⟩; have hzw1 := hz0.but hb1 hne)
      | (refine wpList_stV (by rfl) _ _ _ (by rfl) hzw1 _ _ (by rfl) (by rfl) (by rfl) (by rfl) 16 (by rfl) (by decide) infoBool (by rfl) ?_; intro w2 hz' hbw2; have hzw2 : Bx w2 w.heap.size 36 #[.int .u8 0, .int .u64 0, .int .u64 0, .string ⟨#[]⟩, .int .u64 0, .int .u8 0, .int .u64 0, .int .u64 0, .int .i64 0, .bool false, .bool false, .bool false, .int .u64 0, .slice none 0 0, .slice none 0 0, .slice none 0 0] := hz'; clear hz'; have hxw2 := Bx.but hxw1 hbw2 (Ne.symm hne))
      | (refine wpList_stV (by rfl) _ _ _ (by rfl) hzw2 _ _ (by rfl) (by rfl) (by rfl) (by rfl) 16 (by rfl) (by decide) infoBool (by rfl) ?_; intro w3 hz' hbw3; have hzw3 : Bx w3 w.heap.size 36 #[.int .u8 0, .int .u64 0, .int .u64 0, .string ⟨#[]⟩, .int .u64 0, .int .u8 0, .int .u64 0, .int .u64 0, .int .i64 0, .bool false, .bool true, .bool false, .int .u64 0, .slice none 0 0, .slice none 0 0, .slice none 0 0] := hz'; clear hz'; have hxw3 := Bx.but hxw2 hbw3 (Ne.symm hne))
      | (refine wpList_stV (by rfl) _ _ _ (by rfl) hzw3 _ _ (by rfl) (by rfl) (by rfl) (by rfl) 16 (by rfl) (by decide) infoBool (by rfl) ?_; intro w4 hz' hbw4; have hzw4 : Bx w4 w.heap.size 36 #[.int .u8 0, .int .u64 0, .int .u64 0, .string ⟨#[]⟩, .int .u64 0, .int .u8 0, .int .u64 0, .int .u64 0, .int .i64 0, .bool false, .bool true, .bool false, .int .u64 0, .slice none 0 0, .slice none 0 0, .slice none 0 0] := hz'; clear hz'; have c9 := hzw4.cell 9; have c11 := hzw4.cell 11; simp only [List.getElem?_toArray, List.getElem?_cons_succ, List.getElem?_cons_zero] at c9 c11; have hxw4 := Bx.but hxw3 hbw4 (Ne.symm hne))
      | (refine wpList_ldB (by rfl) _ _ (by rfl) hzw4 (by rfl) structAns 16 infoAns (by rfl) ?_)
      | (refine wpList_stB (by rfl) _ _ _ (by rfl) hzw4 _ _ (by rfl) (by rfl) 16 16 (by rfl) (by rfl) (by decide) infoAns (by rfl) (by rfl) ?_; intro w9 hz' hbw9; have hzw9 : Bx w9 w.heap.size 36 #[.int .u8 0, .int .u64 0, .int .u64 0, .string ⟨#[]⟩, .int .u64 0, .int .u8 0, .int .u64 0, .int .u64 0, .int .i64 0, .bool false, .bool true, .bool false, .int .u64 0, .slice none 0 0, .slice none 0 0, .slice none 0 0] := hz'; clear hz'; have hxw9 := Bx.but hxw4 hbw9 (Ne.symm hne)))
    exact bodyPost_ret (results_box rfl (by rfl) (loadB hzw9 structAns infoAns rfl)) rfl ⟨by rw [Hk.out]; rfl, by rw [Hk.out]; exact hxw9, (((((But.of hA).trans hb1).after hbw2 (Nat.le_refl _)).after hbw3 (Nat.le_refl _)).after hbw4 (Nat.le_refl _)).after hbw9 (Nat.le_refl _)⟩
  · rw [show (((3 : Nat)) : Int) = 3 from rfl] at HB
    have hn1 : bits .and .i64 3 1 = 1 := by decide
    have hn2 : bits .and .i64 3 2 = 2 := by decide
    have hn4 : bits .and .i64 3 4 = 0 := by decide
    have Hk := Lib.hid (show P.qLk q = ({ P.noAn with has := true, held := true, live := false, pool := (P.qX q1).1, owner := [], til := 0 }, (P.qX q1).2) by unfold P.qLk; rw [Hq.out]; simp)
    clear Hq
    generalize P.qX q1 = xx at *
    obtain ⟨x, qf⟩ := xx
    simp only at HX  Hk
    go_enter Tryd.func90, Tryd.ntmps90
    go_wp2_with (first
      | (go_at_call 55; (with_reducible refine (HB.out _ hx0).mono ?_); rintro e w1 ⟨rfl, hxw1, hb1⟩; have hzw1 := hz0.but hb1 hne)
      | (refine wpList_stV (by rfl) _ _ _ (by rfl) hzw1 _ _ (by rfl) (by rfl) (by rfl) (by rfl) 16 (by rfl) (by decide) infoBool (by rfl) ?_; intro w2 hz' hbw2; have hzw2 : Bx w2 w.heap.size 36 #[.int .u8 0, .int .u64 0, .int .u64 0, .string ⟨#[]⟩, .int .u64 0, .int .u8 0, .int .u64 0, .int .u64 0, .int .i64 0, .bool true, .bool false, .bool false, .int .u64 0, .slice none 0 0, .slice none 0 0, .slice none 0 0] := hz'; clear hz'; have hxw2 := Bx.but hxw1 hbw2 (Ne.symm hne))
      | (refine wpList_stV (by rfl) _ _ _ (by rfl) hzw2 _ _ (by rfl) (by rfl) (by rfl) (by rfl) 16 (by rfl) (by decide) infoBool (by rfl) ?_; intro w3 hz' hbw3; have hzw3 : Bx w3 w.heap.size 36 #[.int .u8 0, .int .u64 0, .int .u64 0, .string ⟨#[]⟩, .int .u64 0, .int .u8 0, .int .u64 0, .int .u64 0, .int .i64 0, .bool true, .bool true, .bool false, .int .u64 0, .slice none 0 0, .slice none 0 0, .slice none 0 0] := hz'; clear hz'; have hxw3 := Bx.but hxw2 hbw3 (Ne.symm hne))
      | (refine wpList_stV (by rfl) _ _ _ (by rfl) hzw3 _ _ (by rfl) (by rfl) (by rfl) (by rfl) 16 (by rfl) (by decide) infoBool (by rfl) ?_; intro w4 hz' hbw4; have hzw4 : Bx w4 w.heap.size 36 #[.int .u8 0, .int .u64 0, .int .u64 0, .string ⟨#[]⟩, .int .u64 0, .int .u8 0, .int .u64 0, .int .u64 0, .int .i64 0, .bool true, .bool true, .bool false, .int .u64 0, .slice none 0 0, .slice none 0 0, .slice none 0 0] := hz'; clear hz'; have c9 := hzw4.cell 9; have c11 := hzw4.cell 11; simp only [List.getElem?_toArray, List.getElem?_cons_succ, List.getElem?_cons_zero] at c9 c11; have hxw4 := Bx.but hxw3 hbw4 (Ne.symm hne))
      | (go_at_call 51; (with_reducible refine (HX.out _ hxw4).mono ?_); rintro e w5 ⟨rfl, hxw5, hb5⟩; have hzw5 := hzw4.but hb5 hne)
      | (refine wpList_stB (by rfl) _ _ _ (by rfl) hzw5 _ _ (by rfl) (by rfl) 4 16 (by rfl) (by rfl) (by decide) infoPx (by rfl) (by rfl) ?_; intro w6 hz' hbw6; have hzw6 : Bx w6 w.heap.size 36 #[.int .u8 0, .int .u64 0, .int .u64 0, .string ⟨#[]⟩, .int .u64 0, .int .u8 (x.a.fam : Nat), V64 x.a.hi, V64 x.a.lo, .int .i64 x.bits, .bool true, .bool true, .bool false, .int .u64 0, .slice none 0 0, .slice none 0 0, .slice none 0 0] := hz'; clear hz'; have d11 := hzw6.cell 11; simp only [List.getElem?_toArray, List.getElem?_cons_succ, List.getElem?_cons_zero] at d11; have hxw6 := Bx.but hxw5 hbw6 (Ne.symm hne))
      | (refine wpList_ldB (by rfl) _ _ (by rfl) hzw6 (by rfl) structAns 16 infoAns (by rfl) ?_)
      | (refine wpList_stB (by rfl) _ _ _ (by rfl) hzw6 _ _ (by rfl) (by rfl) 16 16 (by rfl) (by rfl) (by decide) infoAns (by rfl) (by rfl) ?_; intro w9 hz' hbw9; have hzw9 : Bx w9 w.heap.size 36 #[.int .u8 0, .int .u64 0, .int .u64 0, .string ⟨#[]⟩, .int .u64 0, .int .u8 (x.a.fam : Nat), V64 x.a.hi, V64 x.a.lo, .int .i64 x.bits, .bool true, .bool true, .bool false, .int .u64 0, .slice none 0 0, .slice none 0 0, .slice none 0 0] := hz'; clear hz'; have hxw9 := Bx.but hxw6 hbw9 (Ne.symm hne)))
    exact bodyPost_ret (results_box rfl (by rfl) (loadB hzw9 structAns infoAns rfl)) rfl ⟨by rw [Hk.out]; rfl, by rw [Hk.out]; exact hxw9, (((((((But.of hA).trans hb1).after hbw2 (Nat.le_refl _)).after hbw3 (Nat.le_refl _)).after hbw4 (Nat.le_refl _)).trans hb5).after hbw6 (Nat.le_refl _)).after hbw9 (Nat.le_refl _)⟩
  · rw [show (((4 : Nat)) : Int) = 4 from rfl] at HB
    have hn1 : bits .and .i64 4 1 = 0 := by decide
    have hn2 : bits .and .i64 4 2 = 0 := by decide
    have hn4 : bits .and .i64 4 4 = 4 := by decide
    have Hk := Lib.hid (show P.qLk q = ({ P.noAn with has := false, held := false, live := true, pool := P.noX, owner := (P.qL q1).1.1, til := (P.qL q1).1.2 }, (P.qL q1).2) by unfold P.qLk; rw [Hq.out]; simp)
    clear Hq
    generalize P.qL q1 = ll at *
    obtain ⟨⟨ow, ti⟩, qf⟩ := ll
    simp only at HL1 Hk
    go_enter Tryd.func90, Tryd.ntmps90
    go_wp2_with (first
      | (go_at_call 55; (with_reducible refine (HB.out _ hx0).mono ?_); rintro e w1 ⟨rfl, hxw1, hb1⟩; have hzw1 := hz0.but hb1 hne)
      | (refine wpList_stV (by rfl) _ _ _ (by rfl) hzw1 _ _ (by rfl) (by rfl) (by rfl) (by rfl) 16 (by rfl) (by decide) infoBool (by rfl) ?_; intro w2 hz' hbw2; have hzw2 : Bx w2 w.heap.size 36 #[.int .u8 0, .int .u64 0, .int .u64 0, .string ⟨#[]⟩, .int .u64 0, .int .u8 0, .int .u64 0, .int .u64 0, .int .i64 0, .bool false, .bool false, .bool false, .int .u64 0, .slice none 0 0, .slice none 0 0, .slice none 0 0] := hz'; clear hz'; have hxw2 := Bx.but hxw1 hbw2 (Ne.symm hne))
      | (refine wpList_stV (by rfl) _ _ _ (by rfl) hzw2 _ _ (by rfl) (by rfl) (by rfl) (by rfl) 16 (by rfl) (by decide) infoBool (by rfl) ?_; intro w3 hz' hbw3; have hzw3 : Bx w3 w.heap.size 36 #[.int .u8 0, .int .u64 0, .int .u64 0, .string ⟨#[]⟩, .int .u64 0, .int .u8 0, .int .u64 0, .int .u64 0, .int .i64 0, .bool false, .bool false, .bool false, .int .u64 0, .slice none 0 0, .slice none 0 0, .slice none 0 0] := hz'; clear hz'; have hxw3 := Bx.but hxw2 hbw3 (Ne.symm hne))
      | (refine wpList_stV (by rfl) _ _ _ (by rfl) hzw3 _ _ (by rfl) (by rfl) (by rfl) (by rfl) 16 (by rfl) (by decide) infoBool (by rfl) ?_; intro w4 hz' hbw4; have hzw4 : Bx w4 w.heap.size 36 #[.int .u8 0, .int .u64 0, .int .u64 0, .string ⟨#[]⟩, .int .u64 0, .int .u8 0, .int .u64 0, .int .u64 0, .int .i64 0, .bool false, .bool false, .bool true, .int .u64 0, .slice none 0 0, .slice none 0 0, .slice none 0 0] := hz'; clear hz'; have c9 := hzw4.cell 9; have c11 := hzw4.cell 11; simp only [List.getElem?_toArray, List.getElem?_cons_succ, List.getElem?_cons_zero] at c9 c11; have hxw4 := Bx.but hxw3 hbw4 (Ne.symm hne))
      | (go_at_call 89; (with_reducible refine (HL1.out _ hxw4).mono ?_); rintro e w7 ⟨rfl, hxw7, hb7⟩; have hzw7 := hzw4.but hb7 hne)
      | (refine wpList_stB (by rfl) _ _ _ (by rfl) hzw7 _ _ (by rfl) (by rfl) 2 16 (by rfl) (by rfl) (by decide) infoLe (by rfl) (by rfl) ?_; intro w8 hz' hbw8; have hzw8 : Bx w8 w.heap.size 36 #[.int .u8 0, .int .u64 0, .int .u64 0, S ow, V64 ti, .int .u8 0, .int .u64 0, .int .u64 0, .int .i64 0, .bool false, .bool false, .bool true, .int .u64 0, .slice none 0 0, .slice none 0 0, .slice none 0 0] := hz'; clear hz'; have hxw8 := Bx.but hxw7 hbw8 (Ne.symm hne))
      | (refine wpList_ldB (by rfl) _ _ (by rfl) hzw8 (by rfl) structAns 16 infoAns (by rfl) ?_)
      | (refine wpList_stB (by rfl) _ _ _ (by rfl) hzw8 _ _ (by rfl) (by rfl) 16 16 (by rfl) (by rfl) (by decide) infoAns (by rfl) (by rfl) ?_; intro w9 hz' hbw9; have hzw9 : Bx w9 w.heap.size 36 #[.int .u8 0, .int .u64 0, .int .u64 0, S ow, V64 ti, .int .u8 0, .int .u64 0, .int .u64 0, .int .i64 0, .bool false, .bool false, .bool true, .int .u64 0, .slice none 0 0, .slice none 0 0, .slice none 0 0] := hz'; clear hz'; have hxw9 := Bx.but hxw8 hbw9 (Ne.symm hne)))
    exact bodyPost_ret (results_box rfl (by rfl) (loadB hzw9 structAns infoAns rfl)) rfl ⟨by rw [Hk.out]; rfl, by rw [Hk.out]; exact hxw9, (((((((But.of hA).trans hb1).after hbw2 (Nat.le_refl _)).after hbw3 (Nat.le_refl _)).after hbw4 (Nat.le_refl _)).trans hb7).after hbw8 (Nat.le_refl _)).after hbw9 (Nat.le_refl _)⟩
  · rw [show (((5 : Nat)) : Int) = 5 from rfl] at HB
    have hn1 : bits .and .i64 5 1 = 1 := by decide
    have hn2 : bits .and .i64 5 2 = 0 := by decide
    have hn4 : bits .and .i64 5 4 = 4 := by decide
    have Hk := Lib.hid (show P.qLk q = ({ P.noAn with has := true, held := false, live := true, pool := (P.qX q1).1, owner := (P.qL (P.qX q1).2).1.1, til := (P.qL (P.qX q1).2).1.2 }, (P.qL (P.qX q1).2).2) by unfold P.qLk; rw [Hq.out]; simp)
    clear Hq
    generalize P.qL (P.qX q1).2 = ll at *
    obtain ⟨⟨ow, ti⟩, qf⟩ := ll
    generalize P.qX q1 = xx at *
    obtain ⟨x, q2⟩ := xx
    simp only at HX HL2 Hk
    go_enter Tryd.func90, Tryd.ntmps90
    go_wp2_with (first
      | (go_at_call 55; (with_reducible refine (HB.out _ hx0).mono ?_); rintro e w1 ⟨rfl, hxw1, hb1⟩; have hzw1 := hz0.but hb1 hne)
      | (refine wpList_stV (by rfl) _ _ _ (by rfl) hzw1 _ _ (by rfl) (by rfl) (by rfl) (by rfl) 16 (by rfl) (by decide) infoBool (by rfl) ?_; intro w2 hz' hbw2; have hzw2 : Bx w2 w.heap.size 36 #[.int .u8 0, .int .u64 0, .int .u64 0, .string ⟨#[]⟩, .int .u64 0, .int .u8 0, .int .u64 0, .int .u64 0, .int .i64 0, .bool true, .bool false, .bool false, .int .u64 0, .slice none 0 0, .slice none 0 0, .slice none 0 0] := hz'; clear hz'; have hxw2 := Bx.but hxw1 hbw2 (Ne.symm hne))
      | (refine wpList_stV (by rfl) _ _ _ (by rfl) hzw2 _ _ (by rfl) (by rfl) (by rfl) (by rfl) 16 (by rfl) (by decide) infoBool (by rfl) ?_; intro w3 hz' hbw3; have hzw3 : Bx w3 w.heap.size 36 #[.int .u8 0, .int .u64 0, .int .u64 0, .string ⟨#[]⟩, .int .u64 0, .int .u8 0, .int .u64 0, .int .u64 0, .int .i64 0, .bool true, .bool false, .bool false, .int .u64 0, .slice none 0 0, .slice none 0 0, .slice none 0 0] := hz'; clear hz'; have hxw3 := Bx.but hxw2 hbw3 (Ne.symm hne))
      | (refine wpList_stV (by rfl) _ _ _ (by rfl) hzw3 _ _ (by rfl) (by rfl) (by rfl) (by rfl) 16 (by rfl) (by decide) infoBool (by rfl) ?_; intro w4 hz' hbw4; have hzw4 : Bx w4 w.heap.size 36 #[.int .u8 0, .int .u64 0, .int .u64 0, .string ⟨#[]⟩, .int .u64 0, .int .u8 0, .int .u64 0, .int .u64 0, .int .i64 0, .bool true, .bool false, .bool true, .int .u64 0, .slice none 0 0, .slice none 0 0, .slice none 0 0] := hz'; clear hz'; have c9 := hzw4.cell 9; have c11 := hzw4.cell 11; simp only [List.getElem?_toArray, List.getElem?_cons_succ, List.getElem?_cons_zero] at c9 c11; have hxw4 := Bx.but hxw3 hbw4 (Ne.symm hne))
      | (go_at_call 51; (with_reducible refine (HX.out _ hxw4).mono ?_); rintro e w5 ⟨rfl, hxw5, hb5⟩; have hzw5 := hzw4.but hb5 hne)
      | (refine wpList_stB (by rfl) _ _ _ (by rfl) hzw5 _ _ (by rfl) (by rfl) 4 16 (by rfl) (by rfl) (by decide) infoPx (by rfl) (by rfl) ?_; intro w6 hz' hbw6; have hzw6 : Bx w6 w.heap.size 36 #[.int .u8 0, .int .u64 0, .int .u64 0, .string ⟨#[]⟩, .int .u64 0, .int .u8 (x.a.fam : Nat), V64 x.a.hi, V64 x.a.lo, .int .i64 x.bits, .bool true, .bool false, .bool true, .int .u64 0, .slice none 0 0, .slice none 0 0, .slice none 0 0] := hz'; clear hz'; have d11 := hzw6.cell 11; simp only [List.getElem?_toArray, List.getElem?_cons_succ, List.getElem?_cons_zero] at d11; have hxw6 := Bx.but hxw5 hbw6 (Ne.symm hne))
      | (go_at_call 89; (with_reducible refine (HL2.out _ hxw6).mono ?_); rintro e w7 ⟨rfl, hxw7, hb7⟩; have hzw7 := hzw6.but hb7 hne)
      | (refine wpList_stB (by rfl) _ _ _ (by rfl) hzw7 _ _ (by rfl) (by rfl) 2 16 (by rfl) (by rfl) (by decide) infoLe (by rfl) (by rfl) ?_; intro w8 hz' hbw8; have hzw8 : Bx w8 w.heap.size 36 #[.int .u8 0, .int .u64 0, .int .u64 0, S ow, V64 ti, .int .u8 (x.a.fam : Nat), V64 x.a.hi, V64 x.a.lo, .int .i64 x.bits, .bool true, .bool false, .bool true, .int .u64 0, .slice none 0 0, .slice none 0 0, .slice none 0 0] := hz'; clear hz'; have hxw8 := Bx.but hxw7 hbw8 (Ne.symm hne))
      | (refine wpList_ldB (by rfl) _ _ (by rfl) hzw8 (by rfl) structAns 16 infoAns (by rfl) ?_)
      | (refine wpList_stB (by rfl) _ _ _ (by rfl) hzw8 _ _ (by rfl) (by rfl) 16 16 (by rfl) (by rfl) (by decide) infoAns (by rfl) (by rfl) ?_; intro w9 hz' hbw9; have hzw9 : Bx w9 w.heap.size 36 #[.int .u8 0, .int .u64 0, .int .u64 0, S ow, V64 ti, .int .u8 (x.a.fam : Nat), V64 x.a.hi, V64 x.a.lo, .int .i64 x.bits, .bool true, .bool false, .bool true, .int .u64 0, .slice none 0 0, .slice none 0 0, .slice none 0 0] := hz'; clear hz'; have hxw9 := Bx.but hxw8 hbw9 (Ne.symm hne)))
    exact bodyPost_ret (results_box rfl (by rfl) (loadB hzw9 structAns infoAns rfl)) rfl ⟨by rw [Hk.out]; rfl, by rw [Hk.out]; exact hxw9, (((((((((But.of hA).trans hb1).after hbw2 (Nat.le_refl _)).after hbw3 (Nat.le_refl _)).after hbw4 (Nat.le_refl _)).trans hb5).after hbw6 (Nat.le_refl _)).trans hb7).after hbw8 (Nat.le_refl _)).after hbw9 (Nat.le_refl _)⟩
  · rw [show (((6 : Nat)) : Int) = 6 from rfl] at HB
    have hn1 : bits .and .i64 6 1 = 0 := by decide
    have hn2 : bits .and .i64 6 2 = 2 := by decide
    have hn4 : bits .and .i64 6 4 = 4 := by decide
    have Hk := Lib.hid (show P.qLk q = ({ P.noAn with has := false, held := true, live := true, pool := P.noX, owner := (P.qL q1).1.1, til := (P.qL q1).1.2 }, (P.qL q1).2) by unfold P.qLk; rw [Hq.out]; simp)
    clear Hq
    generalize P.qL q1 = ll at *
    obtain ⟨⟨ow, ti⟩, qf⟩ := ll
    simp only at HL1 Hk
    go_enter Tryd.func90, Tryd.ntmps90
    go_wp2_with (first
      | (go_at_call 55; (with_reducible refine (HB.out _ hx0).mono ?_); rintro e w1 ⟨rfl, hxw1, hb1⟩; have hzw1 := hz0.but hb1 hne)
      | (refine wpList_stV (by rfl) _ _ _ (by rfl) hzw1 _ _ (by rfl) (by rfl) (by rfl) (by rfl) 16 (by rfl) (by decide) infoBool (by rfl) ?_; intro w2 hz' hbw2; have hzw2 : Bx w2 w.heap.size 36 #[.int .u8 0, .int .u64 0, .int .u64 0, .string ⟨#[]⟩, .int .u64 0, .int .u8 0, .int .u64 0, .int .u64 0, .int .i64 0, .bool false, .bool false, .bool false, .int .u64 0, .slice none 0 0, .slice none 0 0, .slice none 0 0] := hz'; clear hz'; have hxw2 := Bx.but hxw1 hbw2 (Ne.symm hne))
      | (refine wpList_stV (by rfl) _ _ _ (by rfl) hzw2 _ _ (by rfl) (by rfl) (by rfl) (by rfl) 16 (by rfl) (by decide) infoBool (by rfl) ?_; intro w3 hz' hbw3; have hzw3 : Bx w3 w.heap.size 36 #[.int .u8 0, .int .u64 0, .int .u64 0, .string ⟨#[]⟩, .int .u64 0, .int .u8 0, .int .u64 0, .int .u64 0, .int .i64 0, .bool false, .bool true, .bool false, .int .u64 0, .slice none 0 0, .slice none 0 0, .slice none 0 0] := hz'; clear hz'; have hxw3 := Bx.but hxw2 hbw3 (Ne.symm hne))
      | (refine wpList_stV (by rfl) _ _ _ (by rfl) hzw3 _ _ (by rfl) (by rfl) (by rfl) (by rfl) 16 (by rfl) (by decide) infoBool (by rfl) ?_; intro w4 hz' hbw4; have hzw4 : Bx w4 w.heap.size 36 #[.int .u8 0, .int .u64 0, .int .u64 0, .string ⟨#[]⟩, .int .u64 0, .int .u8 0, .int .u64 0, .int .u64 0, .int .i64 0, .bool false, .bool true, .bool true, .int .u64 0, .slice none 0 0, .slice none 0 0, .slice none 0 0] := hz'; clear hz'; have c9 := hzw4.cell 9; have c11 := hzw4.cell 11; simp only [List.getElem?_toArray, List.getElem?_cons_succ, List.getElem?_cons_zero] at c9 c11; have hxw4 := Bx.but hxw3 hbw4 (Ne.symm hne))
      | (go_at_call 89; (with_reducible refine (HL1.out _ hxw4).mono ?_); rintro e w7 ⟨rfl, hxw7, hb7⟩; have hzw7 := hzw4.but hb7 hne)
      | (refine wpList_stB (by rfl) _ _ _ (by rfl) hzw7 _ _ (by rfl) (by rfl) 2 16 (by rfl) (by rfl) (by decide) infoLe (by rfl) (by rfl) ?_; intro w8 hz' hbw8; have hzw8 : Bx w8 w.heap.size 36 #[.int .u8 0, .int .u64 0, .int .u64 0, S ow, V64 ti, .int .u8 0, .int .u64 0, .int .u64 0, .int .i64 0, .bool false, .bool true, .bool true, .int .u64 0, .slice none 0 0, .slice none 0 0, .slice none 0 0] := hz'; clear hz'; have hxw8 := Bx.but hxw7 hbw8 (Ne.symm hne))
      | (refine wpList_ldB (by rfl) _ _ (by rfl) hzw8 (by rfl) structAns 16 infoAns (by rfl) ?_)
      | (refine wpList_stB (by rfl) _ _ _ (by rfl) hzw8 _ _ (by rfl) (by rfl) 16 16 (by rfl) (by rfl) (by decide) infoAns (by rfl) (by rfl) ?_; intro w9 hz' hbw9; have hzw9 : Bx w9 w.heap.size 36 #[.int .u8 0, .int .u64 0, .int .u64 0, S ow, V64 ti, .int .u8 0, .int .u64 0, .int .u64 0, .int .i64 0, .bool false, .bool true, .bool true, .int .u64 0, .slice none 0 0, .slice none 0 0, .slice none 0 0] := hz'; clear hz'; have hxw9 := Bx.but hxw8 hbw9 (Ne.symm hne)))
    exact bodyPost_ret (results_box rfl (by rfl) (loadB hzw9 structAns infoAns rfl)) rfl ⟨by rw [Hk.out]; rfl, by rw [Hk.out]; exact hxw9, (((((((But.of hA).trans hb1).after hbw2 (Nat.le_refl _)).after hbw3 (Nat.le_refl _)).after hbw4 (Nat.le_refl _)).trans hb7).after hbw8 (Nat.le_refl _)).after hbw9 (Nat.le_refl _)⟩
  · rw [show (((7 : Nat)) : Int) = 7 from rfl] at HB
    have hn1 : bits .and .i64 7 1 = 1 := by decide
    have hn2 : bits .and .i64 7 2 = 2 := by decide
    have hn4 : bits .and .i64 7 4 = 4 := by decide
    have Hk := Lib.hid (show P.qLk q = ({ P.noAn with has := true, held := true, live := true, pool := (P.qX q1).1, owner := (P.qL (P.qX q1).2).1.1, til := (P.qL (P.qX q1).2).1.2 }, (P.qL (P.qX q1).2).2) by unfold P.qLk; rw [Hq.out]; simp)
    clear Hq
    generalize P.qL (P.qX q1).2 = ll at *
    obtain ⟨⟨ow, ti⟩, qf⟩ := ll
    generalize P.qX q1 = xx at *
    obtain ⟨x, q2⟩ := xx
    simp only at HX HL2 Hk
    go_enter Tryd.func90, Tryd.ntmps90
    go_wp2_with (first
      | (go_at_call 55; (with_reducible refine (HB.out _ hx0).mono ?_); rintro e w1 ⟨rfl, hxw1, hb1⟩; have hzw1 := hz0.but hb1 hne)
      | (refine wpList_stV (by rfl) _ _ _ (by rfl) hzw1 _ _ (by rfl) (by rfl) (by rfl) (by rfl) 16 (by rfl) (by decide) infoBool (by rfl) ?_; intro w2 hz' hbw2; have hzw2 : Bx w2 w.heap.size 36 #[.int .u8 0, .int .u64 0, .int .u64 0, .string ⟨#[]⟩, .int .u64 0, .int .u8 0, .int .u64 0, .int .u64 0, .int .i64 0, .bool true, .bool false, .bool false, .int .u64 0, .slice none 0 0, .slice none 0 0, .slice none 0 0] := hz'; clear hz'; have hxw2 := Bx.but hxw1 hbw2 (Ne.symm hne))
      | (refine wpList_stV (by rfl) _ _ _ (by rfl) hzw2 _ _ (by rfl) (by rfl) (by rfl) (by rfl) 16 (by rfl) (by decide) infoBool (by rfl) ?_; intro w3 hz' hbw3; have hzw3 : Bx w3 w.heap.size 36 #[.int .u8 0, .int .u64 0, .int .u64 0, .string ⟨#[]⟩, .int .u64 0, .int .u8 0, .int .u64 0, .int .u64 0, .int .i64 0, .bool true, .bool true, .bool false, .int .u64 0, .slice none 0 0, .slice none 0 0, .slice none 0 0] := hz'; clear hz'; have hxw3 := Bx.but hxw2 hbw3 (Ne.symm hne))
      | (refine wpList_stV (by rfl) _ _ _ (by rfl) hzw3 _ _ (by rfl) (by rfl) (by rfl) (by rfl) 16 (by rfl) (by decide) infoBool (by rfl) ?_; intro w4 hz' hbw4; have hzw4 : Bx w4 w.heap.size 36 #[.int .u8 0, .int .u64 0, .int .u64 0, .string ⟨#[]⟩, .int .u64 0, .int .u8 0, .int .u64 0, .int .u64 0, .int .i64 0, .bool true, .bool true, .bool true, .int .u64 0, .slice none 0 0, .slice none 0 0, .slice none 0 0] := hz'; clear hz'; have c9 := hzw4.cell 9; have c11 := hzw4.cell 11; simp only [List.getElem?_toArray, List.getElem?_cons_succ, List.getElem?_cons_zero] at c9 c11; have hxw4 := Bx.but hxw3 hbw4 (Ne.symm hne))
      | (go_at_call 51; (with_reducible refine (HX.out _ hxw4).mono ?_); rintro e w5 ⟨rfl, hxw5, hb5⟩; have hzw5 := hzw4.but hb5 hne)
      | (refine wpList_stB (by rfl) _ _ _ (by rfl) hzw5 _ _ (by rfl) (by rfl) 4 16 (by rfl) (by rfl) (by decide) infoPx (by rfl) (by rfl) ?_; intro w6 hz' hbw6; have hzw6 : Bx w6 w.heap.size 36 #[.int .u8 0, .int .u64 0, .int .u64 0, .string ⟨#[]⟩, .int .u64 0, .int .u8 (x.a.fam : Nat), V64 x.a.hi, V64 x.a.lo, .int .i64 x.bits, .bool true, .bool true, .bool true, .int .u64 0, .slice none 0 0, .slice none 0 0, .slice none 0 0] := hz'; clear hz'; have d11 := hzw6.cell 11; simp only [List.getElem?_toArray, List.getElem?_cons_succ, List.getElem?_cons_zero] at d11; have hxw6 := Bx.but hxw5 hbw6 (Ne.symm hne))
      | (go_at_call 89; (with_reducible refine (HL2.out _ hxw6).mono ?_); rintro e w7 ⟨rfl, hxw7, hb7⟩; have hzw7 := hzw6.but hb7 hne)
      | (refine wpList_stB (by rfl) _ _ _ (by rfl) hzw7 _ _ (by rfl) (by rfl) 2 16 (by rfl) (by rfl) (by decide) infoLe (by rfl) (by rfl) ?_; intro w8 hz' hbw8; have hzw8 : Bx w8 w.heap.size 36 #[.int .u8 0, .int .u64 0, .int .u64 0, S ow, V64 ti, .int .u8 (x.a.fam : Nat), V64 x.a.hi, V64 x.a.lo, .int .i64 x.bits, .bool true, .bool true, .bool true, .int .u64 0, .slice none 0 0, .slice none 0 0, .slice none 0 0] := hz'; clear hz'; have hxw8 := Bx.but hxw7 hbw8 (Ne.symm hne))
      | (refine wpList_ldB (by rfl) _ _ (by rfl) hzw8 (by rfl) structAns 16 infoAns (by rfl) ?_)
      | (refine wpList_stB (by rfl) _ _ _ (by rfl) hzw8 _ _ (by rfl) (by rfl) 16 16 (by rfl) (by rfl) (by decide) infoAns (by rfl) (by rfl) ?_; intro w9 hz' hbw9; have hzw9 : Bx w9 w.heap.size 36 #[.int .u8 0, .int .u64 0, .int .u64 0, S ow, V64 ti, .int .u8 (x.a.fam : Nat), V64 x.a.hi, V64 x.a.lo, .int .i64 x.bits, .bool true, .bool true, .bool true, .int .u64 0, .slice none 0 0, .slice none 0 0, .slice none 0 0] := hz'; clear hz'; have hxw9 := Bx.but hxw8 hbw9 (Ne.symm hne)))
    exact bodyPost_ret (results_box rfl (by rfl) (loadB hzw9 structAns infoAns rfl)) rfl ⟨by rw [Hk.out]; rfl, by rw [Hk.out]; exact hxw9, (((((((((But.of hA).trans hb1).after hbw2 (Nat.le_refl _)).after hbw3 (Nat.le_refl _)).after hbw4 (Nat.le_refl _)).trans hb5).after hbw6 (Nat.le_refl _)).trans hb7).after hbw8 (Nat.le_refl _)).after hbw9 (Nat.le_refl _)⟩
set_option maxRecDepth 100000 in
set_option maxHeartbeats 16000000 in
theorem told_look (op : Nat) (hop : op = 10) : ToldOk op := by
  intro g q w hs hx
  have hlt := hx.lt
  have hA := (Below.refl w.heap.size w).alloc (Nat.le_refl _) (.cells #[.int .u8 0, .int .u64 0, .int .u64 0, .string ⟨#[]⟩, .int .u64 0, .int .u8 0, .int .u64 0, .int .u64 0, .int .i64 0, .bool false, .bool false, .bool false, .int .u64 0, .slice none 0 0, .slice none 0 0, .slice none 0 0] 36)
  have hz0 := Bx.fresh w 36 #[.int .u8 0, .int .u64 0, .int .u64 0, .string ⟨#[]⟩, .int .u64 0, .int .u8 0, .int .u64 0, .int .u64 0, .int .i64 0, .bool false, .bool false, .bool false, .int .u64 0, .slice none 0 0, .slice none 0 0, .slice none 0 0]
  have hx0 := hx.up hA
  have hne : w.heap.size ≠ g := by omega
  have HK := Lib.hid (fun wx (h : RdX wx g q) => look_any g q wx hs h)
  have Hk := Lib.hid (show P.qTold op q = P.qLk q by rw [hop]; rfl)
  have Hl := Lib.hid (show (P.qLk q).1.rows = [] ∧ (P.qLk q).1.events = [] ∧ (P.qLk q).1.pools = [] from ⟨rfl, rfl, rfl⟩)
  generalize P.qLk q = lk at *
  obtain ⟨a, q1⟩ := lk
  simp only at HK Hl
  have t5 : ((op : Int) == 5) = false := beq_eq_false_iff_ne.2 (by omega)
  have t6 : ((op : Int) == 6) = false := beq_eq_false_iff_ne.2 (by omega)
  have t7 : ((op : Int) == 7) = false := beq_eq_false_iff_ne.2 (by omega)
  have t10 : ((op : Int) == 10) = true := beq_iff_eq.2 (by omega)
  clear hop
  go_enter Tryd.func67, Tryd.ntmps67
  go_wp2_with (first
    | (go_at_call 90; (with_reducible refine (HK.out _ hx0).mono ?_); rintro e w1 ⟨rfl, hx1, hb1⟩; have hz1 := hz0.but hb1 hne)
    | (refine wpList_stB (by rfl) _ _ _ (by rfl) hz1 _ _ (by rfl) (by rfl) 16 16 (by rfl) (by rfl) (by decide) infoAns (by rfl) (by rfl) ?_; intro w2 hz' hbw2; have hzw2 : Bx w2 w.heap.size 36 #[.int .u8 (a.a.fam : Nat), V64 a.a.hi, V64 a.a.lo, S a.owner, V64 a.til, .int .u8 (a.pool.a.fam : Nat), V64 a.pool.a.hi, V64 a.pool.a.lo, .int .i64 a.pool.bits, .bool a.has, .bool a.held, .bool a.live, V64 a.clock, .slice none a.rows.length 0, .slice none a.events.length 0, .slice none a.pools.length 0] := hz'; clear hz'; have hxw2 := Bx.but hx1 hbw2 (Ne.symm hne)))
  exact bodyPost_ret (results_box rfl (by rfl) (loadB hzw2 structAns infoAns rfl)) rfl ⟨none, 0, none, 0, none, 0, by rw [Hk.out], by rw [Hk.out]; exact OwnAns.none _ _ _ Hl.out.1 Hl.out.2.1 Hl.out.2.2, by rw [Hk.out]; exact hxw2, ((But.of hA).trans hb1).after hbw2 (Nat.le_refl _)⟩
/-- Whatever the Op. -/
theorem told_any (op : Nat) : ToldOk op := by
  by_cases h1 : 5 ≤ op ∧ op ≤ 7
  · exact told_ok57 op h1
  by_cases h2 : op = 10
  · exact told_look op h2
  by_cases h3 : op = 11
  · exact told_rows op h3
  by_cases h4 : op = 12
  · exact told_events op h4
  by_cases h5 : op = 13 ∨ op = 14
  · exact told_pools op h5
  by_cases h6 : op = 15
  · exact told_clock op h6
  · exact told_other op ⟨h1, by omega⟩
theorem hear_any (s : List UInt8) (hs : s.length ≤ 1000000) (w : World) : Calls Tryd.prog 23 #[S s] w (HearDid s w) := by
  by_cases he : (P.hearE s).1 = 0
  · exact hear_ok s hs he (told_any _) w
  · exact hear_err s hs he w
end Go.Proofs.YtcobfoiajdbahaaDoor
