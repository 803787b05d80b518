/- The walk of the reader of answers: a look; told of any Op. -/
import Derived.Test.YtcobfoiajdbahaaDoorWQTold
import Derived.Test.YtcobfoiajdbahaaDoorWQAns
import Derived.Test.YtcobfoiajdbahaaDoorWQAwake

namespace Go.Proofs.YtcobfoiajdbahaaDoor
open Go.RowKit
set_option linter.unusedVariables false
set_option linter.unusedSimpArgs false
theorem wp_stV {P : Program} {op : Oper} {a : Act} {w : World} {K : Act → World → Prop} {Q : Exit → Act → World → Prop} (ty : TypeId) (x y : Operand) (ho : op.op = .store ty x y)
    {g : Nat} {t : TypeId} {cs : Array Value} (hbx : Bx w g t cs) (o : Nat) (v : Value) (hx : a.eval x = .pointer (some ⟨g, o, none⟩)) (hy : a.eval y = v) (hv : v.cells = #[v]) (h1 : v.oneCell' = true)
    (N : Nat) (hN : cs.size = N) (hn : o + 1 ≤ N) (hi : (P.info? ty).map (·.size) = some 1)
    {cs' : Array Value} (hcs : (putL o cs.toList [v]).toArray = cs')
    (h : ∀ w', Bx w' g t cs' → But g w w' → K (a.put op.dst undef) w') : op.wp P a w K Q := by
  subst hN hcs hy
  unfold Oper.wp execOp
  simp only [ho, hx, Instr.storeAt, Instr.sureAddr, Sem.run_bind, Sem.run_pure, Result.andThen_ok, run_storeVar_one w g o ty _ hv h1 (hbx.there hn) hi]
  exact h _ (Bx.setCells _ _ _ _ hbx) (But.setCells _ _ _ (But.refl g w))
theorem wpAnyH_two {P : Program} {ops : Array Oper} {Q : Exit → Act → World → Prop} {i j : Nat} {o o' : Oper} {fuel : Nat} {listed : Array Bool} {a : Act} {w : World} {S : World → Prop} (hr : Region.ready .any ops listed = [i, j]) (ho : ops[i]? = some o) (ho' : ops[j]? = some o')
    (h : ∀ K' : Act → World → Prop, Shut (∀ a w, S w → wpAnyH P .any ops Q S fuel (listed.setIfInBounds i true) a w → K' a w) → if Region.wanted o (yielded ops a.tmps) = true then Oper.wp P o a w K' Q else K' (a.put o.dst undef) w)
    (h' : ∀ K' : Act → World → Prop, Shut (∀ a w, S w → wpAnyH P .any ops Q S fuel (listed.setIfInBounds j true) a w → K' a w) → if Region.wanted o' (yielded ops a.tmps) = true then Oper.wp P o' a w K' Q else K' (a.put o'.dst undef) w) :
    wpAnyH P .any ops Q S (fuel + 1) listed a w :=
  ⟨(fun h0 => by rw [hr] at h0; cases h0), fun k hk => by
    rw [hr] at hk
    rcases List.mem_cons.1 hk with rfl | hk
    · exact wpOp_step ho (fun K' hK => h K' (fun a w hS hW => hK a w ⟨hS, hW⟩))
    · obtain rfl := List.mem_singleton.1 hk
      exact wpOp_step ho' (fun K' hK => h' K' (fun a w hS hW => hK a w ⟨hS, hW⟩))⟩
theorem rwC_one (r : P.Rw) : ∀ u ∈ rwC r, u.oneCell' = true := by intro u hu; simp only [rwC, List.mem_cons, List.not_mem_nil, or_false] at hu; rcases hu with rfl | rfl | rfl | rfl | rfl <;> rfl
theorem evC_one (r : P.Ev) : ∀ u ∈ evC r, u.oneCell' = true := by intro u hu; simp only [evC, List.mem_cons, List.not_mem_nil, or_false] at hu; rcases hu with rfl | rfl | rfl | rfl <;> rfl
theorem pxC_one (r : P.Px) : ∀ u ∈ pxC r, u.oneCell' = true := by intro u hu; simp only [pxC, List.mem_cons, List.not_mem_nil, or_false] at hu; rcases hu with rfl | rfl | rfl | rfl <;> rfl
theorem infoRw3 : (Tryd.prog.info? 80).map (fun i => (i.zero, i.size, i.bytes)) = some (some (.agg #[.int .u8 0, .int .u64 0, .int .u64 0, .string ⟨#[]⟩, .int .u64 0]), 5, 48) := by kernel_rfl
theorem infoEv3 : (Tryd.prog.info? 82).map (fun i => (i.zero, i.size, i.bytes)) = some (some (.agg #[.int .i64 0, .string ⟨#[]⟩, .int .u64 0, .int .u64 0]), 4, 40) := by kernel_rfl
theorem infoPx3 : (Tryd.prog.info? 26).map (fun i => (i.zero, i.size, i.bytes)) = some (some (.agg #[.int .u8 0, .int .u64 0, .int .u64 0, .int .i64 0]), 4, 32) := by kernel_rfl
theorem infoSlR : (Tryd.prog.info? 32).map (·.size) = some 1 := by kernel_rfl
theorem infoSlE : (Tryd.prog.info? 33).map (·.size) = some 1 := by kernel_rfl
theorem infoSlP : (Tryd.prog.info? 34).map (·.size) = some 1 := by kernel_rfl
theorem wrap_mid {z : Int} (h1 : -9223372036854775808 ≤ z) (h2 : z ≤ 9223372036854775807) : IntKind.i64.wrap z = z := by
  unfold IntKind.wrap
  simp [IntKind.signed, IntKind.bits]
  omega
theorem P.qRw_le (q : P.Qs) : (P.qRw q).2.1.length ≤ q.1.length := Nat.le_trans (P.qL_le _) (P.qA_le q)
theorem P.qEv_le (q : P.Qs) : (P.qEv q).2.1.length ≤ q.1.length := Nat.le_trans (P.qN_le _) (Nat.le_trans (P.qN_le _) (Nat.le_trans (P.qO_le _) (P.qB_le 1 4 q)))
theorem P.qList_le {α : Type} (f : P.Qs → α × P.Qs) (hf : ∀ q, (f q).2.1.length ≤ q.1.length) : ∀ k q, (P.qList f k q).2.1.length ≤ q.1.length
  | 0, q => Nat.le_refl _
  | k + 1, q => Nat.le_trans (hf _) (P.qList_le f hf k q)
theorem P.qB_most (lo hi : Nat) (q : P.Qs) : (P.qB lo hi q).1 ≤ hi := by
  unfold P.qB
  split
  · split
    · rename_i h; exact h.2
    · exact Nat.zero_le _
  · exact Nat.zero_le _
set_option maxRecDepth 100000 in
set_option maxHeartbeats 16000000 in
theorem told_clock (op : Nat) (hop : op = 15) : ToldOk op := by
  intro g q w hs hx
  have hlt := hx.lt
  have hA := (Below.refl w.heap.size w).alloc (Nat.le_refl _) (.cells #[.int .u8 0, .int .u64 0, .int .u64 0, .string ⟨#[]⟩, .int .u64 0, .int .u8 0, .int .u64 0, .int .u64 0, .int .i64 0, .bool false, .bool false, .bool false, .int .u64 0, .slice none 0 0, .slice none 0 0, .slice none 0 0] 36)
  have hz0 := Bx.fresh w 36 #[.int .u8 0, .int .u64 0, .int .u64 0, .string ⟨#[]⟩, .int .u64 0, .int .u8 0, .int .u64 0, .int .u64 0, .int .i64 0, .bool false, .bool false, .bool false, .int .u64 0, .slice none 0 0, .slice none 0 0, .slice none 0 0]
  have hx0 := hx.up hA
  have hne : w.heap.size ≠ g := by omega
  have HN := Lib.hid (fun wx (h : RdX wx g q) => number_any g q wx (by omega) h)
  have Hk := Lib.hid (show P.qTold op q = ({ P.noAn with clock := (P.qN q).1 }, (P.qN q).2) by rw [hop]; rfl)
  generalize P.qN q = nn at *
  obtain ⟨n, q1⟩ := nn
  simp only at HN Hk
  have t5 : ((op : Int) == 5) = false := beq_eq_false_iff_ne.2 (by omega)
  have t6 : ((op : Int) == 6) = false := beq_eq_false_iff_ne.2 (by omega)
  have t7 : ((op : Int) == 7) = false := beq_eq_false_iff_ne.2 (by omega)
  have t10 : ((op : Int) == 10) = false := beq_eq_false_iff_ne.2 (by omega)
  have t11 : ((op : Int) == 11) = false := beq_eq_false_iff_ne.2 (by omega)
  have t12 : ((op : Int) == 12) = false := beq_eq_false_iff_ne.2 (by omega)
  have t13 : ((op : Int) == 13) = false := beq_eq_false_iff_ne.2 (by omega)
  have t14 : ((op : Int) == 14) = false := beq_eq_false_iff_ne.2 (by omega)
  have t15 : ((op : Int) == 15) = true := beq_iff_eq.2 (by omega)
  clear hop
  go_enter Tryd.func67, Tryd.ntmps67
  go_wp2_with (first
    | (go_at_call 54; (with_reducible refine (HN.out _ hx0).mono ?_); rintro e w1 ⟨rfl, hx1, hb1⟩; have hz1 := hz0.but hb1 hne)
    | (refine wpList_stV (by rfl) _ _ _ (by rfl) hz1 _ _ (by rfl) (by rfl) (by rfl) (by rfl) 16 (by rfl) (by decide) infoU64 (by rfl) ?_; intro w2 hz' hbw2; have hzw2 : Bx w2 w.heap.size 36 #[.int .u8 0, .int .u64 0, .int .u64 0, .string ⟨#[]⟩, .int .u64 0, .int .u8 0, .int .u64 0, .int .u64 0, .int .i64 0, .bool false, .bool false, .bool false, V64 n, .slice none 0 0, .slice none 0 0, .slice none 0 0] := hz'; clear hz'; have hxw2 := Bx.but hx1 hbw2 (Ne.symm hne))
    | (refine wpList_ldB (by rfl) _ _ (by rfl) hzw2 (by rfl) structAns 16 infoAns (by rfl) ?_)
    | (refine wpList_stB (by rfl) _ _ _ (by rfl) hzw2 _ _ (by rfl) (by rfl) 16 16 (by rfl) (by rfl) (by decide) infoAns (by rfl) (by rfl) ?_; intro w3 hz' hbw3; have hzw3 : Bx w3 w.heap.size 36 #[.int .u8 0, .int .u64 0, .int .u64 0, .string ⟨#[]⟩, .int .u64 0, .int .u8 0, .int .u64 0, .int .u64 0, .int .i64 0, .bool false, .bool false, .bool false, V64 n, .slice none 0 0, .slice none 0 0, .slice none 0 0] := hz'; clear hz'; have hxw3 := Bx.but hxw2 hbw3 (Ne.symm hne)))
  exact bodyPost_ret (results_box rfl (by rfl) (loadB hzw3 structAns infoAns rfl)) rfl ⟨none, 0, none, 0, none, 0, by rw [Hk.out]; rfl, by rw [Hk.out]; exact OwnAns.none _ _ _ rfl rfl rfl, by rw [Hk.out]; exact hxw3, (((But.of hA).trans hb1).after hbw2 (Nat.le_refl _)).after hbw3 (Nat.le_refl _)⟩
set_option maxRecDepth 100000 in
set_option maxHeartbeats 16000000 in
theorem told_other (op : Nat) (hop : ¬ (5 ≤ op ∧ op ≤ 7) ∧ ¬ (10 ≤ op ∧ op ≤ 15)) : ToldOk op := by
  intro g q w hs hx
  have hlt := hx.lt
  have hA := (Below.refl w.heap.size w).alloc (Nat.le_refl _) (.cells #[.int .u8 0, .int .u64 0, .int .u64 0, .string ⟨#[]⟩, .int .u64 0, .int .u8 0, .int .u64 0, .int .u64 0, .int .i64 0, .bool false, .bool false, .bool false, .int .u64 0, .slice none 0 0, .slice none 0 0, .slice none 0 0] 36)
  have hz0 := Bx.fresh w 36 #[.int .u8 0, .int .u64 0, .int .u64 0, .string ⟨#[]⟩, .int .u64 0, .int .u8 0, .int .u64 0, .int .u64 0, .int .i64 0, .bool false, .bool false, .bool false, .int .u64 0, .slice none 0 0, .slice none 0 0, .slice none 0 0]
  have hx0 := hx.up hA
  have hne : w.heap.size ≠ g := by omega
  have Hk := Lib.hid (show P.qTold op q = (P.noAn, q) by unfold P.qTold; rw [if_neg hop.1, if_neg (by omega), if_neg (by omega), if_neg (by omega), if_neg (by omega), if_neg (by omega)])
  have t5 : ((op : Int) == 5) = false := beq_eq_false_iff_ne.2 (by omega)
  have t6 : ((op : Int) == 6) = false := beq_eq_false_iff_ne.2 (by omega)
  have t7 : ((op : Int) == 7) = false := beq_eq_false_iff_ne.2 (by omega)
  have t10 : ((op : Int) == 10) = false := beq_eq_false_iff_ne.2 (by omega)
  have t11 : ((op : Int) == 11) = false := beq_eq_false_iff_ne.2 (by omega)
  have t12 : ((op : Int) == 12) = false := beq_eq_false_iff_ne.2 (by omega)
  have t13 : ((op : Int) == 13) = false := beq_eq_false_iff_ne.2 (by omega)
  have t14 : ((op : Int) == 14) = false := beq_eq_false_iff_ne.2 (by omega)
  have t15 : ((op : Int) == 15) = false := beq_eq_false_iff_ne.2 (by omega)
  clear hop
  go_enter Tryd.func67, Tryd.ntmps67
  go_wp2_with (first
    | (refine wpList_ldB (by rfl) _ _ (by rfl) hz0 (by rfl) structAns 16 infoAns (by rfl) ?_)
    | (refine wpList_stB (by rfl) _ _ _ (by rfl) hz0 _ _ (by rfl) (by rfl) 16 16 (by rfl) (by rfl) (by decide) infoAns (by rfl) (by rfl) ?_; intro w3 hz' hbw3; have hzw3 : Bx w3 w.heap.size 36 #[.int .u8 0, .int .u64 0, .int .u64 0, .string ⟨#[]⟩, .int .u64 0, .int .u8 0, .int .u64 0, .int .u64 0, .int .i64 0, .bool false, .bool false, .bool false, .int .u64 0, .slice none 0 0, .slice none 0 0, .slice none 0 0] := hz'; clear hz'; have hxw3 := Bx.but hx0 hbw3 (Ne.symm hne)))
  exact bodyPost_ret (results_box rfl (by rfl) (loadB hzw3 structAns infoAns rfl)) rfl ⟨none, 0, none, 0, none, 0, by rw [Hk.out]; rfl, by rw [Hk.out]; exact OwnAns.none _ _ _ rfl rfl rfl, by rw [Hk.out]; exact hxw3, (But.of hA).after hbw3 (Nat.le_refl _)⟩
end Go.Proofs.YtcobfoiajdbahaaDoor

namespace Go.Proofs.YtcobfoiajdbahaaDoor
open Go.RowKit
set_option linter.unusedVariables false
set_option linter.unusedSimpArgs false
set_option maxRecDepth 100000 in
set_option maxHeartbeats 16000000 in
theorem told_rows (op : Nat) (hop : op = 11) : ToldOk op := by
  intro g q w hs hx
  have hlt := hx.lt
  have hA := (Below.refl w.heap.size w).alloc (Nat.le_refl _) (.cells #[.int .u8 0, .int .u64 0, .int .u64 0, .string ⟨#[]⟩, .int .u64 0, .int .u8 0, .int .u64 0, .int .u64 0, .int .i64 0, .bool false, .bool false, .bool false, .int .u64 0, .slice none 0 0, .slice none 0 0, .slice none 0 0] 36)
  have hz0 := Bx.fresh w 36 #[.int .u8 0, .int .u64 0, .int .u64 0, .string ⟨#[]⟩, .int .u64 0, .int .u8 0, .int .u64 0, .int .u64 0, .int .i64 0, .bool false, .bool false, .bool false, .int .u64 0, .slice none 0 0, .slice none 0 0, .slice none 0 0]
  have hx0 := hx.up hA
  have hne : w.heap.size ≠ g := by omega
  have hle := P.qB_le 0 16 q
  have hmost := P.qB_most 0 16 q
  have HB := Lib.hid (fun wx (h : RdX wx g q) => show Calls Tryd.prog 55 #[.pointer (some ⟨g, 0, none⟩), .int .i64 0, .int .i64 16] wx fun e w' => e = .returned (.int .i64 ((P.qB 0 16 q).1 : Nat)) ∧ RdX w' g (P.qB 0 16 q).2 ∧ But g wx w' from byte_any g q 0 16 (by omega) wx (by omega) h)
  have Hk := Lib.hid (show P.qTold op q = ({ P.noAn with rows := (P.qList P.qRw (P.qB 0 16 q).1 (P.qB 0 16 q).2).1 }, (P.qList P.qRw (P.qB 0 16 q).1 (P.qB 0 16 q).2).2) by rw [hop]; rfl)
  have Hlen := Lib.hid (fun j => P.qList_len P.qRw j (P.qB 0 16 q).2)
  have Hle := Lib.hid (fun j => P.qList_le P.qRw P.qRw_le j (P.qB 0 16 q).2)
  have Hsu := Lib.hid (fun j => show P.qList P.qRw (j + 1) (P.qB 0 16 q).2 = ((P.qList P.qRw j (P.qB 0 16 q).2).1 ++ [(P.qRw (P.qList P.qRw j (P.qB 0 16 q).2).2).1], (P.qRw (P.qList P.qRw j (P.qB 0 16 q).2).2).2) from rfl)
  have h0 : P.qList P.qRw 0 (P.qB 0 16 q).2 = ([], (P.qB 0 16 q).2) := rfl
  generalize P.qB 0 16 q = bb at *
  obtain ⟨n, q1⟩ := bb
  simp only at HB Hk Hlen Hle Hsu h0 hle hmost
  generalize hL : (fun j => P.qList P.qRw j q1) = L at *
  have hL' : ∀ j, P.qList P.qRw j q1 = L j := fun j => by rw [← hL]
  simp only [hL'] at Hk Hlen Hle Hsu h0
  clear hL hL'
  have t5 : ((op : Int) == 5) = false := beq_eq_false_iff_ne.2 (by omega)
  have t6 : ((op : Int) == 6) = false := beq_eq_false_iff_ne.2 (by omega)
  have t7 : ((op : Int) == 7) = false := beq_eq_false_iff_ne.2 (by omega)
  have t10 : ((op : Int) == 10) = false := beq_eq_false_iff_ne.2 (by omega)
  have t11 : ((op : Int) == 11) = true := beq_iff_eq.2 (by omega)
  clear hop
  go_enter Tryd.func67, Tryd.ntmps67
  go_wp2_with (go_at_call 55; (with_reducible refine (HB.out _ hx0).mono ?_); rintro e w1 ⟨rfl, hx1, hb1⟩; have hz1 := hz0.but hb1 hne)
  have hb01 := (But.of hA).trans hb1
  have hlt1 := hz1.lt
  go_loopw [24] (fun i wr => ∃ (j : Nat) (a : Option Addr) (c : Nat), j ≤ n ∧ i = .int .i64 (j : Int) ∧ Bx wr w.heap.size 36 #[.int .u8 0, .int .u64 0, .int .u64 0, .string ⟨#[]⟩, .int .u64 0, .int .u8 0, .int .u64 0, .int .u64 0, .int .i64 0, .bool false, .bool false, .bool false, .int .u64 0, .slice a (L j).1.length c, .slice none 0 0, .slice none 0 0] ∧ OwnR 80 5 rwC wr (w.heap.size + 1) (.slice a (L j).1.length c) (L j).1 ∧ RdX wr g (L j).2 ∧ But g w wr) (fun i _ => n - (intOf i).toNat)
  case atStart => exact ⟨0, none, 0, by omega, rfl, by rw [h0]; exact hz1, by rw [h0]; exact ownR_nil _ _, by rw [h0]; exact hx1, hb01⟩
  case round =>
    clear hz1 hb1 hx1 hb01 hlt1 hz0 hx0 hA HB
    obtain ⟨j, a, c, hj, rfl, hz, hown, hx, hb⟩ := hrel
    have hlj := Hlen.out j
    have hszl : w.heap.size < wr.heap.size := hz.lt
    have hqs : (L j).2.1.length ≤ 1000000000 := Nat.le_trans (Hle.out j) (by omega)
    by_cases hjn : j < n
    · have hji : decide ((j : Int) < (n : Int)) = true := decide_eq_true (by omega)
      have hwj : IntKind.i64.wrap ((j : Int) + 1) = (j : Int) + 1 := wrap_mid (by omega) (by omega)
      have hsu := Hsu.out j
      have HC3 := Lib.hid (fun wx (h : RdX wx g (L j).2) => addr_any g (L j).2 wx hqs h)
      have hq2 := Nat.le_trans (P.qA_le (L j).2) hqs
      have HC5 := Lib.hid (fun wx (h : RdX wx g (P.qA (L j).2).2) => lease_any g (P.qA (L j).2).2 wx hq2 h)
      have Hs3 := Lib.hid (show L (j + 1) = ((L j).1 ++ [⟨(P.qA (L j).2).1, (P.qL (P.qA (L j).2).2).1.1, (P.qL (P.qA (L j).2).2).1.2⟩], (P.qL (P.qA (L j).2).2).2) from hsu)
      clear hsu hq2 hqs
      generalize P.qL (P.qA (L j).2).2 = ll at *
      generalize P.qA (L j).2 = aa at *
      generalize L j = st at *
      obtain ⟨l, q2⟩ := st
      obtain ⟨x, q3⟩ := aa
      obtain ⟨⟨ow, ti⟩, qz⟩ := ll
      simp only at HC3 HC5 Hs3 hlj hz hown hx
      have Hlj := Lib.hid hlj
      clear hlj
      have hzW0 : Bx wr.drew w.heap.size 36 #[.int .u8 0, .int .u64 0, .int .u64 0, .string ⟨#[]⟩, .int .u64 0, .int .u8 0, .int .u64 0, .int .u64 0, .int .i64 0, .bool false, .bool false, .bool false, .int .u64 0, .slice a l.length c, .slice none 0 0, .slice none 0 0] := hz.drew
      have hxW0 : RdX wr.drew g q2 := hx.drew
      have hoW0 : OwnR 80 5 rwC wr.drew (w.heap.size + 1) (.slice a l.length c) l := hown
      have hSW0 : But g w wr.drew := hb.drew
      go_upto_region 12 with fail
      refine wp_region_held_drew (S := fun wx => But g w wx) (by kernel_rfl) hSW0 (fun _ => ?_)
      refine wpAnyH_take (i := 0) (v := ?_) rfl (by kernel_rfl) (by kernel_rfl) (by kernel_rfl) (fun _ _ _ h => h) (Or.inl ⟨by rfl, ?_⟩) hSW0 ?_
      rotate_left
      · intro wq hSw; go_simp; (try with_reducible rfl)
      simp only [Act.put, List.getElem_toArray, List.getElem_cons_succ, List.getElem_cons_zero, List.setIfInBounds_toArray, List.set_cons_zero, List.set_cons_succ]
      refine wpAnyH_take (i := 2) (v := ?_) rfl (by kernel_rfl) (by kernel_rfl) (by kernel_rfl) (fun _ _ _ h => h) (Or.inl ⟨by rfl, ?_⟩) hSW0 ?_
      rotate_left
      · intro wq hSw; go_simp; (try with_reducible rfl)
      simp only [Act.put, List.getElem_toArray, List.getElem_cons_succ, List.getElem_cons_zero, List.setIfInBounds_toArray, List.set_cons_zero, List.set_cons_succ]
      refine wpAnyH_take (i := 4) (v := ?_) rfl (by kernel_rfl) (by kernel_rfl) (by kernel_rfl) (fun _ _ _ h => h) (Or.inl ⟨by rfl, ?_⟩) hSW0 ?_
      rotate_left
      · intro wq hSw; go_simp; (try with_reducible rfl)
      simp only [Act.put, List.getElem_toArray, List.getElem_cons_succ, List.getElem_cons_zero, List.setIfInBounds_toArray, List.set_cons_zero, List.set_cons_succ]
      refine wpAnyH_two (i := 1) (j := 3) (by kernel_rfl) rfl rfl (fun K hK => ?_) (fun K hK => ?_)
      · simp only [List.getElem_toArray, List.getElem_cons_succ, List.getElem_cons_zero]
        have hq0 := hzW0.cell 13
        simp only [List.getElem?_toArray, List.getElem?_cons_succ, List.getElem?_cons_zero] at hq0
        go_simp
        refine hK.out _ _ hSW0 ?_
        clear hK K
        refine wpAnyH_one (i := 3) (by kernel_rfl) rfl (fun K hK => ?_)
        simp only [List.getElem_toArray, List.getElem_cons_succ, List.getElem_cons_zero]
        go_simp
        (with_reducible refine (HC3.out _ hxW0).mono ?_)
        rintro e W3 ⟨rfl, hxW3, hbW3⟩
        have hzW3 := hzW0.but hbW3 hne
        have hoW3 := hoW0.but hxW0 (by decide) hbW3
        have hSW3 := hSW0.trans hbW3
        refine hK.out _ _ hSW3 ?_
        clear hK K
        refine wpAnyH_one (i := 5) (by kernel_rfl) rfl (fun K hK => ?_)
        simp only [List.getElem_toArray, List.getElem_cons_succ, List.getElem_cons_zero]
        go_simp
        (with_reducible refine (HC5.out _ hxW3).mono ?_)
        rintro e W5 ⟨rfl, hxW5, hbW5⟩
        have hzW5 := hzW3.but hbW5 hne
        have hoW5 := hoW3.but hxW3 (by decide) hbW5
        have hSW5 := hSW3.trans hbW5
        refine hK.out _ _ hSW5 ?_
        clear hK K
        refine wpAnyH_take (i := 6) (v := ?_) rfl (by kernel_rfl) (by kernel_rfl) (by kernel_rfl) (fun _ _ _ h => h) (Or.inl ⟨by rfl, ?_⟩) hSW5 ?_
        rotate_left
        · intro wq hSw; go_simp; (try with_reducible rfl)
        simp only [Act.put, List.getElem_toArray, List.getElem_cons_succ, List.getElem_cons_zero, List.setIfInBounds_toArray, List.set_cons_zero, List.set_cons_succ]
        refine wpAnyH_one (i := 7) (by kernel_rfl) rfl (fun K hK => ?_)
        simp only [List.getElem_toArray, List.getElem_cons_succ, List.getElem_cons_zero]
        go_simp
        have hB1 := (Below.refl W5.heap.size W5).alloc (Nat.le_refl _) (.cells #[.int .u8 (x.fam : Nat), V64 x.hi, V64 x.lo, S ow, V64 ti] 80)
        have hrow := rows_new 5 rwC rwC_len W5 [(⟨x, ow, ti⟩ : P.Rw)] #[.int .u8 (x.fam : Nat), V64 x.hi, V64 x.lo, S ow, V64 ti] 80 rfl
        have hzWB := hzW5.up hB1
        have hoWB := hoW5.up hB1
        have hxWB := Bx.up hxW5 hB1
        have hSWB := hSW5.up (Below.alloc (Below.refl _ _) hSW5.size (.cells #[.int .u8 (x.fam : Nat), V64 x.hi, V64 x.lo, S ow, V64 ti] 80))
        refine hK.out _ _ hSWB ?_
        clear hK K
        refine wpAnyH_one (i := 8) (by kernel_rfl) rfl (fun K hK => ?_)
        simp only [List.getElem_toArray, List.getElem_cons_succ, List.getElem_cons_zero]
        rw [if_pos (by rfl)]
        obtain ⟨iE, e1, e2, e3, e4⟩ := info_parts infoRw3
        refine wp_appR _ _ _ (by rfl) iE _ _ Tryd.underlying32 e1 e2 e3 e4 rfl (by decide) rwC_len rwC_one [(⟨x, ow, ti⟩ : P.Rw)] (by rfl) hoWB (by have := Hlj.out; simp only [List.length_singleton]; omega) (by decide) _ _ _ (by rfl) (by rfl) hrow (by have := hzWB.lt; omega) ?_
        intro v9 w9 hown9 hb9 hkt9
        obtain ⟨a9, c9, hv9, -, -⟩ := hown9.is rwC_len
        subst hv9
        have hz9 := hzWB.below hb9 (by omega)
        have hx9 : RdX w9 g qz := Bx.below hxWB hb9 (by omega)
        have hS9 := hSWB.up (hb9.mono (by omega))
        refine hK.out _ _ hS9 ?_
        simp only [Act.put, List.getElem_toArray, List.getElem_cons_succ, List.getElem_cons_zero, List.setIfInBounds_toArray, List.set_cons_zero, List.set_cons_succ]
        clear hK K
        refine wpAnyH_take (i := 9) (v := ?_) rfl (by kernel_rfl) (by kernel_rfl) (by kernel_rfl) (fun _ _ _ h => h) (Or.inl ⟨by rfl, ?_⟩) hS9 ?_
        rotate_left
        · intro wq hSw; go_simp; (try with_reducible rfl)
        simp only [Act.put, List.getElem_toArray, List.getElem_cons_succ, List.getElem_cons_zero, List.setIfInBounds_toArray, List.set_cons_zero, List.set_cons_succ]
        refine wpAnyH_one (i := 10) (by kernel_rfl) rfl (fun K hK => ?_)
        simp only [List.getElem_toArray, List.getElem_cons_succ, List.getElem_cons_zero]
        rw [if_pos (by rfl)]
        refine wp_stV _ _ _ (by rfl) hz9 _ _ (by rfl) (by rfl) (by rfl) (by rfl) 16 (by rfl) (by decide) infoSlR (by rfl) ?_
        intro w10 hz' hb10
        have hz10 : Bx w10 w.heap.size 36 #[.int .u8 0, .int .u64 0, .int .u64 0, .string ⟨#[]⟩, .int .u64 0, .int .u8 0, .int .u64 0, .int .u64 0, .int .i64 0, .bool false, .bool false, .bool false, .int .u64 0, .slice a9 (l ++ [(⟨x, ow, ti⟩ : P.Rw)]).length c9, .slice none 0 0, .slice none 0 0] := hz'
        have hx10 : RdX w10 g qz := Bx.but hx9 hb10 (Ne.symm hne)
        have ho10 := hown9.but hz9 (by decide) hb10
        have hS10 := hS9.after hb10 (Nat.le_refl _)
        refine hK.out _ _ hS10 ?_
        simp only [Act.put, List.getElem_toArray, List.getElem_cons_succ, List.getElem_cons_zero, List.setIfInBounds_toArray, List.set_cons_zero, List.set_cons_succ]
        clear hK K
        refine wpAnyH_done (by kernel_rfl) ?_ _
        go_wp2_with fail
        go_roundw
        case rel => exact ⟨j + 1, a9, c9, by omega, by go_num, by rw [Hs3.out]; exact hz10, by rw [Hs3.out]; exact ho10, by rw [Hs3.out]; exact hx10, hS10⟩
        case measure => simp [intOf]; omega
      · simp only [List.getElem_toArray, List.getElem_cons_succ, List.getElem_cons_zero]
        go_simp
        (with_reducible refine (HC3.out _ hxW0).mono ?_)
        rintro e W3 ⟨rfl, hxW3, hbW3⟩
        have hzW3 := hzW0.but hbW3 hne
        have hoW3 := hoW0.but hxW0 (by decide) hbW3
        have hSW3 := hSW0.trans hbW3
        refine hK.out _ _ hSW3 ?_
        clear hK K
        refine wpAnyH_two (i := 1) (j := 5) (by kernel_rfl) rfl rfl (fun K hK => ?_) (fun K hK => ?_)
        · simp only [List.getElem_toArray, List.getElem_cons_succ, List.getElem_cons_zero]
          have hq0 := hzW3.cell 13
          simp only [List.getElem?_toArray, List.getElem?_cons_succ, List.getElem?_cons_zero] at hq0
          go_simp
          refine hK.out _ _ hSW3 ?_
          clear hK K
          refine wpAnyH_one (i := 5) (by kernel_rfl) rfl (fun K hK => ?_)
          simp only [List.getElem_toArray, List.getElem_cons_succ, List.getElem_cons_zero]
          go_simp
          (with_reducible refine (HC5.out _ hxW3).mono ?_)
          rintro e W5 ⟨rfl, hxW5, hbW5⟩
          have hzW5 := hzW3.but hbW5 hne
          have hoW5 := hoW3.but hxW3 (by decide) hbW5
          have hSW5 := hSW3.trans hbW5
          refine hK.out _ _ hSW5 ?_
          clear hK K
          refine wpAnyH_take (i := 6) (v := ?_) rfl (by kernel_rfl) (by kernel_rfl) (by kernel_rfl) (fun _ _ _ h => h) (Or.inl ⟨by rfl, ?_⟩) hSW5 ?_
          rotate_left
          · intro wq hSw; go_simp; (try with_reducible rfl)
          simp only [Act.put, List.getElem_toArray, List.getElem_cons_succ, List.getElem_cons_zero, List.setIfInBounds_toArray, List.set_cons_zero, List.set_cons_succ]
          refine wpAnyH_one (i := 7) (by kernel_rfl) rfl (fun K hK => ?_)
          simp only [List.getElem_toArray, List.getElem_cons_succ, List.getElem_cons_zero]
          go_simp
          have hB1 := (Below.refl W5.heap.size W5).alloc (Nat.le_refl _) (.cells #[.int .u8 (x.fam : Nat), V64 x.hi, V64 x.lo, S ow, V64 ti] 80)
          have hrow := rows_new 5 rwC rwC_len W5 [(⟨x, ow, ti⟩ : P.Rw)] #[.int .u8 (x.fam : Nat), V64 x.hi, V64 x.lo, S ow, V64 ti] 80 rfl
          have hzWB := hzW5.up hB1
          have hoWB := hoW5.up hB1
          have hxWB := Bx.up hxW5 hB1
          have hSWB := hSW5.up (Below.alloc (Below.refl _ _) hSW5.size (.cells #[.int .u8 (x.fam : Nat), V64 x.hi, V64 x.lo, S ow, V64 ti] 80))
          refine hK.out _ _ hSWB ?_
          clear hK K
          refine wpAnyH_one (i := 8) (by kernel_rfl) rfl (fun K hK => ?_)
          simp only [List.getElem_toArray, List.getElem_cons_succ, List.getElem_cons_zero]
          rw [if_pos (by rfl)]
          obtain ⟨iE, e1, e2, e3, e4⟩ := info_parts infoRw3
          refine wp_appR _ _ _ (by rfl) iE _ _ Tryd.underlying32 e1 e2 e3 e4 rfl (by decide) rwC_len rwC_one [(⟨x, ow, ti⟩ : P.Rw)] (by rfl) hoWB (by have := Hlj.out; simp only [List.length_singleton]; omega) (by decide) _ _ _ (by rfl) (by rfl) hrow (by have := hzWB.lt; omega) ?_
          intro v9 w9 hown9 hb9 hkt9
          obtain ⟨a9, c9, hv9, -, -⟩ := hown9.is rwC_len
          subst hv9
          have hz9 := hzWB.below hb9 (by omega)
          have hx9 : RdX w9 g qz := Bx.below hxWB hb9 (by omega)
          have hS9 := hSWB.up (hb9.mono (by omega))
          refine hK.out _ _ hS9 ?_
          simp only [Act.put, List.getElem_toArray, List.getElem_cons_succ, List.getElem_cons_zero, List.setIfInBounds_toArray, List.set_cons_zero, List.set_cons_succ]
          clear hK K
          refine wpAnyH_take (i := 9) (v := ?_) rfl (by kernel_rfl) (by kernel_rfl) (by kernel_rfl) (fun _ _ _ h => h) (Or.inl ⟨by rfl, ?_⟩) hS9 ?_
          rotate_left
          · intro wq hSw; go_simp; (try with_reducible rfl)
          simp only [Act.put, List.getElem_toArray, List.getElem_cons_succ, List.getElem_cons_zero, List.setIfInBounds_toArray, List.set_cons_zero, List.set_cons_succ]
          refine wpAnyH_one (i := 10) (by kernel_rfl) rfl (fun K hK => ?_)
          simp only [List.getElem_toArray, List.getElem_cons_succ, List.getElem_cons_zero]
          rw [if_pos (by rfl)]
          refine wp_stV _ _ _ (by rfl) hz9 _ _ (by rfl) (by rfl) (by rfl) (by rfl) 16 (by rfl) (by decide) infoSlR (by rfl) ?_
          intro w10 hz' hb10
          have hz10 : Bx w10 w.heap.size 36 #[.int .u8 0, .int .u64 0, .int .u64 0, .string ⟨#[]⟩, .int .u64 0, .int .u8 0, .int .u64 0, .int .u64 0, .int .i64 0, .bool false, .bool false, .bool false, .int .u64 0, .slice a9 (l ++ [(⟨x, ow, ti⟩ : P.Rw)]).length c9, .slice none 0 0, .slice none 0 0] := hz'
          have hx10 : RdX w10 g qz := Bx.but hx9 hb10 (Ne.symm hne)
          have ho10 := hown9.but hz9 (by decide) hb10
          have hS10 := hS9.after hb10 (Nat.le_refl _)
          refine hK.out _ _ hS10 ?_
          simp only [Act.put, List.getElem_toArray, List.getElem_cons_succ, List.getElem_cons_zero, List.setIfInBounds_toArray, List.set_cons_zero, List.set_cons_succ]
          clear hK K
          refine wpAnyH_done (by kernel_rfl) ?_ _
          go_wp2_with fail
          go_roundw
          case rel => exact ⟨j + 1, a9, c9, by omega, by go_num, by rw [Hs3.out]; exact hz10, by rw [Hs3.out]; exact ho10, by rw [Hs3.out]; exact hx10, hS10⟩
          case measure => simp [intOf]; omega
        · simp only [List.getElem_toArray, List.getElem_cons_succ, List.getElem_cons_zero]
          go_simp
          (with_reducible refine (HC5.out _ hxW3).mono ?_)
          rintro e W5 ⟨rfl, hxW5, hbW5⟩
          have hzW5 := hzW3.but hbW5 hne
          have hoW5 := hoW3.but hxW3 (by decide) hbW5
          have hSW5 := hSW3.trans hbW5
          refine hK.out _ _ hSW5 ?_
          clear hK K
          refine wpAnyH_take (i := 6) (v := ?_) rfl (by kernel_rfl) (by kernel_rfl) (by kernel_rfl) (fun _ _ _ h => h) (Or.inl ⟨by rfl, ?_⟩) hSW5 ?_
          rotate_left
          · intro wq hSw; go_simp; (try with_reducible rfl)
          simp only [Act.put, List.getElem_toArray, List.getElem_cons_succ, List.getElem_cons_zero, List.setIfInBounds_toArray, List.set_cons_zero, List.set_cons_succ]
          refine wpAnyH_two (i := 1) (j := 7) (by kernel_rfl) rfl rfl (fun K hK => ?_) (fun K hK => ?_)
          · simp only [List.getElem_toArray, List.getElem_cons_succ, List.getElem_cons_zero]
            have hq0 := hzW5.cell 13
            simp only [List.getElem?_toArray, List.getElem?_cons_succ, List.getElem?_cons_zero] at hq0
            go_simp
            refine hK.out _ _ hSW5 ?_
            clear hK K
            refine wpAnyH_one (i := 7) (by kernel_rfl) rfl (fun K hK => ?_)
            simp only [List.getElem_toArray, List.getElem_cons_succ, List.getElem_cons_zero]
            go_simp
            have hB1 := (Below.refl W5.heap.size W5).alloc (Nat.le_refl _) (.cells #[.int .u8 (x.fam : Nat), V64 x.hi, V64 x.lo, S ow, V64 ti] 80)
            have hrow := rows_new 5 rwC rwC_len W5 [(⟨x, ow, ti⟩ : P.Rw)] #[.int .u8 (x.fam : Nat), V64 x.hi, V64 x.lo, S ow, V64 ti] 80 rfl
            have hzWB := hzW5.up hB1
            have hoWB := hoW5.up hB1
            have hxWB := Bx.up hxW5 hB1
            have hSWB := hSW5.up (Below.alloc (Below.refl _ _) hSW5.size (.cells #[.int .u8 (x.fam : Nat), V64 x.hi, V64 x.lo, S ow, V64 ti] 80))
            refine hK.out _ _ hSWB ?_
            clear hK K
            refine wpAnyH_one (i := 8) (by kernel_rfl) rfl (fun K hK => ?_)
            simp only [List.getElem_toArray, List.getElem_cons_succ, List.getElem_cons_zero]
            rw [if_pos (by rfl)]
            obtain ⟨iE, e1, e2, e3, e4⟩ := info_parts infoRw3
            refine wp_appR _ _ _ (by rfl) iE _ _ Tryd.underlying32 e1 e2 e3 e4 rfl (by decide) rwC_len rwC_one [(⟨x, ow, ti⟩ : P.Rw)] (by rfl) hoWB (by have := Hlj.out; simp only [List.length_singleton]; omega) (by decide) _ _ _ (by rfl) (by rfl) hrow (by have := hzWB.lt; omega) ?_
            intro v9 w9 hown9 hb9 hkt9
            obtain ⟨a9, c9, hv9, -, -⟩ := hown9.is rwC_len
            subst hv9
            have hz9 := hzWB.below hb9 (by omega)
            have hx9 : RdX w9 g qz := Bx.below hxWB hb9 (by omega)
            have hS9 := hSWB.up (hb9.mono (by omega))
            refine hK.out _ _ hS9 ?_
            simp only [Act.put, List.getElem_toArray, List.getElem_cons_succ, List.getElem_cons_zero, List.setIfInBounds_toArray, List.set_cons_zero, List.set_cons_succ]
            clear hK K
            refine wpAnyH_take (i := 9) (v := ?_) rfl (by kernel_rfl) (by kernel_rfl) (by kernel_rfl) (fun _ _ _ h => h) (Or.inl ⟨by rfl, ?_⟩) hS9 ?_
            rotate_left
            · intro wq hSw; go_simp; (try with_reducible rfl)
            simp only [Act.put, List.getElem_toArray, List.getElem_cons_succ, List.getElem_cons_zero, List.setIfInBounds_toArray, List.set_cons_zero, List.set_cons_succ]
            refine wpAnyH_one (i := 10) (by kernel_rfl) rfl (fun K hK => ?_)
            simp only [List.getElem_toArray, List.getElem_cons_succ, List.getElem_cons_zero]
            rw [if_pos (by rfl)]
            refine wp_stV _ _ _ (by rfl) hz9 _ _ (by rfl) (by rfl) (by rfl) (by rfl) 16 (by rfl) (by decide) infoSlR (by rfl) ?_
            intro w10 hz' hb10
            have hz10 : Bx w10 w.heap.size 36 #[.int .u8 0, .int .u64 0, .int .u64 0, .string ⟨#[]⟩, .int .u64 0, .int .u8 0, .int .u64 0, .int .u64 0, .int .i64 0, .bool false, .bool false, .bool false, .int .u64 0, .slice a9 (l ++ [(⟨x, ow, ti⟩ : P.Rw)]).length c9, .slice none 0 0, .slice none 0 0] := hz'
            have hx10 : RdX w10 g qz := Bx.but hx9 hb10 (Ne.symm hne)
            have ho10 := hown9.but hz9 (by decide) hb10
            have hS10 := hS9.after hb10 (Nat.le_refl _)
            refine hK.out _ _ hS10 ?_
            simp only [Act.put, List.getElem_toArray, List.getElem_cons_succ, List.getElem_cons_zero, List.setIfInBounds_toArray, List.set_cons_zero, List.set_cons_succ]
            clear hK K
            refine wpAnyH_done (by kernel_rfl) ?_ _
            go_wp2_with fail
            go_roundw
            case rel => exact ⟨j + 1, a9, c9, by omega, by go_num, by rw [Hs3.out]; exact hz10, by rw [Hs3.out]; exact ho10, by rw [Hs3.out]; exact hx10, hS10⟩
            case measure => simp [intOf]; omega
          · simp only [List.getElem_toArray, List.getElem_cons_succ, List.getElem_cons_zero]
            go_simp
            have hB1 := (Below.refl W5.heap.size W5).alloc (Nat.le_refl _) (.cells #[.int .u8 (x.fam : Nat), V64 x.hi, V64 x.lo, S ow, V64 ti] 80)
            have hrow := rows_new 5 rwC rwC_len W5 [(⟨x, ow, ti⟩ : P.Rw)] #[.int .u8 (x.fam : Nat), V64 x.hi, V64 x.lo, S ow, V64 ti] 80 rfl
            have hzWB := hzW5.up hB1
            have hoWB := hoW5.up hB1
            have hxWB := Bx.up hxW5 hB1
            have hSWB := hSW5.up (Below.alloc (Below.refl _ _) hSW5.size (.cells #[.int .u8 (x.fam : Nat), V64 x.hi, V64 x.lo, S ow, V64 ti] 80))
            refine hK.out _ _ hSWB ?_
            clear hK K
            refine wpAnyH_one (i := 1) (by kernel_rfl) rfl (fun K hK => ?_)
            simp only [List.getElem_toArray, List.getElem_cons_succ, List.getElem_cons_zero]
            have hq0 := hzWB.cell 13
            simp only [List.getElem?_toArray, List.getElem?_cons_succ, List.getElem?_cons_zero] at hq0
            go_simp
            refine hK.out _ _ hSWB ?_
            clear hK K
            refine wpAnyH_one (i := 8) (by kernel_rfl) rfl (fun K hK => ?_)
            simp only [List.getElem_toArray, List.getElem_cons_succ, List.getElem_cons_zero]
            rw [if_pos (by rfl)]
            obtain ⟨iE, e1, e2, e3, e4⟩ := info_parts infoRw3
            refine wp_appR _ _ _ (by rfl) iE _ _ Tryd.underlying32 e1 e2 e3 e4 rfl (by decide) rwC_len rwC_one [(⟨x, ow, ti⟩ : P.Rw)] (by rfl) hoWB (by have := Hlj.out; simp only [List.length_singleton]; omega) (by decide) _ _ _ (by rfl) (by rfl) hrow (by have := hzWB.lt; omega) ?_
            intro v9 w9 hown9 hb9 hkt9
            obtain ⟨a9, c9, hv9, -, -⟩ := hown9.is rwC_len
            subst hv9
            have hz9 := hzWB.below hb9 (by omega)
            have hx9 : RdX w9 g qz := Bx.below hxWB hb9 (by omega)
            have hS9 := hSWB.up (hb9.mono (by omega))
            refine hK.out _ _ hS9 ?_
            simp only [Act.put, List.getElem_toArray, List.getElem_cons_succ, List.getElem_cons_zero, List.setIfInBounds_toArray, List.set_cons_zero, List.set_cons_succ]
            clear hK K
            refine wpAnyH_take (i := 9) (v := ?_) rfl (by kernel_rfl) (by kernel_rfl) (by kernel_rfl) (fun _ _ _ h => h) (Or.inl ⟨by rfl, ?_⟩) hS9 ?_
            rotate_left
            · intro wq hSw; go_simp; (try with_reducible rfl)
            simp only [Act.put, List.getElem_toArray, List.getElem_cons_succ, List.getElem_cons_zero, List.setIfInBounds_toArray, List.set_cons_zero, List.set_cons_succ]
            refine wpAnyH_one (i := 10) (by kernel_rfl) rfl (fun K hK => ?_)
            simp only [List.getElem_toArray, List.getElem_cons_succ, List.getElem_cons_zero]
            rw [if_pos (by rfl)]
            refine wp_stV _ _ _ (by rfl) hz9 _ _ (by rfl) (by rfl) (by rfl) (by rfl) 16 (by rfl) (by decide) infoSlR (by rfl) ?_
            intro w10 hz' hb10
            have hz10 : Bx w10 w.heap.size 36 #[.int .u8 0, .int .u64 0, .int .u64 0, .string ⟨#[]⟩, .int .u64 0, .int .u8 0, .int .u64 0, .int .u64 0, .int .i64 0, .bool false, .bool false, .bool false, .int .u64 0, .slice a9 (l ++ [(⟨x, ow, ti⟩ : P.Rw)]).length c9, .slice none 0 0, .slice none 0 0] := hz'
            have hx10 : RdX w10 g qz := Bx.but hx9 hb10 (Ne.symm hne)
            have ho10 := hown9.but hz9 (by decide) hb10
            have hS10 := hS9.after hb10 (Nat.le_refl _)
            refine hK.out _ _ hS10 ?_
            simp only [Act.put, List.getElem_toArray, List.getElem_cons_succ, List.getElem_cons_zero, List.setIfInBounds_toArray, List.set_cons_zero, List.set_cons_succ]
            clear hK K
            refine wpAnyH_done (by kernel_rfl) ?_ _
            go_wp2_with fail
            go_roundw
            case rel => exact ⟨j + 1, a9, c9, by omega, by go_num, by rw [Hs3.out]; exact hz10, by rw [Hs3.out]; exact ho10, by rw [Hs3.out]; exact hx10, hS10⟩
            case measure => simp [intOf]; omega
    · have hji : decide ((j : Int) < (n : Int)) = false := decide_eq_false (by omega)
      obtain rfl : j = n := by omega
      clear Hsu Hle hqs
      generalize L j = st at *
      obtain ⟨l, q2⟩ := st
      go_wp2_with (first
        | (refine wpList_ldB (by rfl) _ _ (by rfl) hz (by rfl) structAns 16 infoAns (by rfl) ?_)
        | (refine wpList_stB (by rfl) _ _ _ (by rfl) hz _ _ (by rfl) (by rfl) 16 16 (by rfl) (by rfl) (by decide) infoAns (by rfl) (by rfl) ?_; intro w3 hz' hbw3; have hzw3 : Bx w3 w.heap.size 36 #[.int .u8 0, .int .u64 0, .int .u64 0, .string ⟨#[]⟩, .int .u64 0, .int .u8 0, .int .u64 0, .int .u64 0, .int .i64 0, .bool false, .bool false, .bool false, .int .u64 0, .slice a l.length c, .slice none 0 0, .slice none 0 0] := hz'; clear hz'; have hxw3 := Bx.but hx hbw3 (Ne.symm hne)))
      have ho3 := hown.but hz (by decide) hbw3
      exact bodyPost_ret (results_box rfl (by rfl) (loadB hzw3 structAns infoAns rfl)) rfl ⟨a, c, none, 0, none, 0, by rw [Hk.out]; rfl, by rw [Hk.out]; exact ⟨ho3.low (Nat.le_succ _), ownR_nil _ _, ownR_nil _ _⟩, by rw [Hk.out]; exact hxw3, hb.after hbw3 (Nat.le_refl _)⟩
end Go.Proofs.YtcobfoiajdbahaaDoor

namespace Go.Proofs.YtcobfoiajdbahaaDoor
open Go.RowKit
set_option linter.unusedVariables false
set_option linter.unusedSimpArgs false
set_option maxRecDepth 100000 in
set_option maxHeartbeats 16000000 in
theorem told_events (op : Nat) (hop : op = 12) : ToldOk op := by
  intro g q w hs hx
  have hlt := hx.lt
  have hA := (Below.refl w.heap.size w).alloc (Nat.le_refl _) (.cells #[.int .u8 0, .int .u64 0, .int .u64 0, .string ⟨#[]⟩, .int .u64 0, .int .u8 0, .int .u64 0, .int .u64 0, .int .i64 0, .bool false, .bool false, .bool false, .int .u64 0, .slice none 0 0, .slice none 0 0, .slice none 0 0] 36)
  have hz0 := Bx.fresh w 36 #[.int .u8 0, .int .u64 0, .int .u64 0, .string ⟨#[]⟩, .int .u64 0, .int .u8 0, .int .u64 0, .int .u64 0, .int .i64 0, .bool false, .bool false, .bool false, .int .u64 0, .slice none 0 0, .slice none 0 0, .slice none 0 0]
  have hx0 := hx.up hA
  have hne : w.heap.size ≠ g := by omega
  have hle := P.qB_le 0 16 q
  have hmost := P.qB_most 0 16 q
  have HB := Lib.hid (fun wx (h : RdX wx g q) => show Calls Tryd.prog 55 #[.pointer (some ⟨g, 0, none⟩), .int .i64 0, .int .i64 16] wx fun e w' => e = .returned (.int .i64 ((P.qB 0 16 q).1 : Nat)) ∧ RdX w' g (P.qB 0 16 q).2 ∧ But g wx w' from byte_any g q 0 16 (by omega) wx (by omega) h)
  have Hk := Lib.hid (show P.qTold op q = ({ P.noAn with events := (P.qList P.qEv (P.qB 0 16 q).1 (P.qB 0 16 q).2).1 }, (P.qList P.qEv (P.qB 0 16 q).1 (P.qB 0 16 q).2).2) by rw [hop]; rfl)
  have Hlen := Lib.hid (fun j => P.qList_len P.qEv j (P.qB 0 16 q).2)
  have Hle := Lib.hid (fun j => P.qList_le P.qEv P.qEv_le j (P.qB 0 16 q).2)
  have Hsu := Lib.hid (fun j => show P.qList P.qEv (j + 1) (P.qB 0 16 q).2 = ((P.qList P.qEv j (P.qB 0 16 q).2).1 ++ [(P.qEv (P.qList P.qEv j (P.qB 0 16 q).2).2).1], (P.qEv (P.qList P.qEv j (P.qB 0 16 q).2).2).2) from rfl)
  have h0 : P.qList P.qEv 0 (P.qB 0 16 q).2 = ([], (P.qB 0 16 q).2) := rfl
  generalize P.qB 0 16 q = bb at *
  obtain ⟨n, q1⟩ := bb
  simp only at HB Hk Hlen Hle Hsu h0 hle hmost
  generalize hL : (fun j => P.qList P.qEv j q1) = L at *
  have hL' : ∀ j, P.qList P.qEv j q1 = L j := fun j => by rw [← hL]
  simp only [hL'] at Hk Hlen Hle Hsu h0
  clear hL hL'
  have t5 : ((op : Int) == 5) = false := beq_eq_false_iff_ne.2 (by omega)
  have t6 : ((op : Int) == 6) = false := beq_eq_false_iff_ne.2 (by omega)
  have t7 : ((op : Int) == 7) = false := beq_eq_false_iff_ne.2 (by omega)
  have t10 : ((op : Int) == 10) = false := beq_eq_false_iff_ne.2 (by omega)
  have t11 : ((op : Int) == 11) = false := beq_eq_false_iff_ne.2 (by omega)
  have t12 : ((op : Int) == 12) = true := beq_iff_eq.2 (by omega)
  clear hop
  go_enter Tryd.func67, Tryd.ntmps67
  go_wp2_with (go_at_call 55; (with_reducible refine (HB.out _ hx0).mono ?_); rintro e w1 ⟨rfl, hx1, hb1⟩; have hz1 := hz0.but hb1 hne)
  have hb01 := (But.of hA).trans hb1
  have hlt1 := hz1.lt
  go_loopw [41] (fun i wr => ∃ (j : Nat) (a : Option Addr) (c : Nat), j ≤ n ∧ i = .int .i64 (j : Int) ∧ Bx wr w.heap.size 36 #[.int .u8 0, .int .u64 0, .int .u64 0, .string ⟨#[]⟩, .int .u64 0, .int .u8 0, .int .u64 0, .int .u64 0, .int .i64 0, .bool false, .bool false, .bool false, .int .u64 0, .slice none 0 0, .slice a (L j).1.length c, .slice none 0 0] ∧ OwnR 82 4 evC wr (w.heap.size + 1) (.slice a (L j).1.length c) (L j).1 ∧ RdX wr g (L j).2 ∧ But g w wr) (fun i _ => n - (intOf i).toNat)
  case atStart => exact ⟨0, none, 0, by omega, rfl, by rw [h0]; exact hz1, by rw [h0]; exact ownR_nil _ _, by rw [h0]; exact hx1, hb01⟩
  case round =>
    clear hz1 hb1 hx1 hb01 hlt1 hz0 hx0 hA HB
    obtain ⟨j, a, c, hj, rfl, hz, hown, hx, hb⟩ := hrel
    have hlj := Hlen.out j
    have hszl : w.heap.size < wr.heap.size := hz.lt
    have hqs : (L j).2.1.length ≤ 1000000000 := Nat.le_trans (Hle.out j) (by omega)
    by_cases hjn : j < n
    · have hji : decide ((j : Int) < (n : Int)) = true := decide_eq_true (by omega)
      have hwj : IntKind.i64.wrap ((j : Int) + 1) = (j : Int) + 1 := wrap_mid (by omega) (by omega)
      have hsu := Hsu.out j
      have HC3 := Lib.hid (fun wx (h : RdX wx g (L j).2) => show Calls Tryd.prog 55 #[.pointer (some ⟨g, 0, none⟩), .int .i64 1, .int .i64 4] wx fun e w' => e = .returned (.int .i64 ((P.qB 1 4 (L j).2).1 : Nat)) ∧ RdX w' g (P.qB 1 4 (L j).2).2 ∧ But g wx w' from byte_any g (L j).2 1 4 (by omega) wx hqs h)
      have hq3 := Nat.le_trans (P.qB_le 1 4 (L j).2) hqs
      have HC5 := Lib.hid (fun wx (h : RdX wx g (P.qB 1 4 (L j).2).2) => owner_any g (P.qB 1 4 (L j).2).2 wx hq3 h)
      have hq4 := Nat.le_trans (P.qO_le (P.qB 1 4 (L j).2).2) hq3
      have HC7 := Lib.hid (fun wx (h : RdX wx g (P.qO (P.qB 1 4 (L j).2).2).2) => number_any g (P.qO (P.qB 1 4 (L j).2).2).2 wx hq4 h)
      have hq5 := Nat.le_trans (P.qN_le (P.qO (P.qB 1 4 (L j).2).2).2) hq4
      have HC9 := Lib.hid (fun wx (h : RdX wx g (P.qN (P.qO (P.qB 1 4 (L j).2).2).2).2) => number_any g (P.qN (P.qO (P.qB 1 4 (L j).2).2).2).2 wx hq5 h)
      have Hs3 := Lib.hid (show L (j + 1) = ((L j).1 ++ [⟨((P.qB 1 4 (L j).2).1 : Int), (P.qO (P.qB 1 4 (L j).2).2).1, (P.qN (P.qO (P.qB 1 4 (L j).2).2).2).1, (P.qN (P.qN (P.qO (P.qB 1 4 (L j).2).2).2).2).1⟩], (P.qN (P.qN (P.qO (P.qB 1 4 (L j).2).2).2).2).2) from hsu)
      clear hsu hq3 hq4 hq5 hqs
      generalize P.qN (P.qN (P.qO (P.qB 1 4 (L j).2).2).2).2 = n4 at *
      generalize P.qN (P.qO (P.qB 1 4 (L j).2).2).2 = n3 at *
      generalize P.qO (P.qB 1 4 (L j).2).2 = n2 at *
      generalize P.qB 1 4 (L j).2 = n1 at *
      generalize L j = st at *
      obtain ⟨l, q2⟩ := st
      obtain ⟨hw, q3⟩ := n1
      obtain ⟨ow, q4⟩ := n2
      obtain ⟨at0, q5⟩ := n3
      obtain ⟨ti, qz⟩ := n4
      simp only at HC3 HC5 HC7 HC9 Hs3 hlj hz hown hx
      have Hlj := Lib.hid hlj
      clear hlj
      have hzW0 : Bx wr.drew w.heap.size 36 #[.int .u8 0, .int .u64 0, .int .u64 0, .string ⟨#[]⟩, .int .u64 0, .int .u8 0, .int .u64 0, .int .u64 0, .int .i64 0, .bool false, .bool false, .bool false, .int .u64 0, .slice none 0 0, .slice a l.length c, .slice none 0 0] := hz.drew
      have hxW0 : RdX wr.drew g q2 := hx.drew
      have hoW0 : OwnR 82 4 evC wr.drew (w.heap.size + 1) (.slice a l.length c) l := hown
      have hSW0 : But g w wr.drew := hb.drew
      go_upto_region 17 with fail
      refine wp_region_held_drew (S := fun wx => But g w wx) (by kernel_rfl) hSW0 (fun _ => ?_)
      refine wpAnyH_take (i := 0) (v := ?_) rfl (by kernel_rfl) (by kernel_rfl) (by kernel_rfl) (fun _ _ _ h => h) (Or.inl ⟨by rfl, ?_⟩) hSW0 ?_
      rotate_left
      · intro wq hSw; go_simp; (try with_reducible rfl)
      simp only [Act.put, List.getElem_toArray, List.getElem_cons_succ, List.getElem_cons_zero, List.setIfInBounds_toArray, List.set_cons_zero, List.set_cons_succ]
      refine wpAnyH_take (i := 2) (v := ?_) rfl (by kernel_rfl) (by kernel_rfl) (by kernel_rfl) (fun _ _ _ h => h) (Or.inl ⟨by rfl, ?_⟩) hSW0 ?_
      rotate_left
      · intro wq hSw; go_simp; (try with_reducible rfl)
      simp only [Act.put, List.getElem_toArray, List.getElem_cons_succ, List.getElem_cons_zero, List.setIfInBounds_toArray, List.set_cons_zero, List.set_cons_succ]
      refine wpAnyH_take (i := 4) (v := ?_) rfl (by kernel_rfl) (by kernel_rfl) (by kernel_rfl) (fun _ _ _ h => h) (Or.inl ⟨by rfl, ?_⟩) hSW0 ?_
      rotate_left
      · intro wq hSw; go_simp; (try with_reducible rfl)
      simp only [Act.put, List.getElem_toArray, List.getElem_cons_succ, List.getElem_cons_zero, List.setIfInBounds_toArray, List.set_cons_zero, List.set_cons_succ]
      refine wpAnyH_take (i := 6) (v := ?_) rfl (by kernel_rfl) (by kernel_rfl) (by kernel_rfl) (fun _ _ _ h => h) (Or.inl ⟨by rfl, ?_⟩) hSW0 ?_
      rotate_left
      · intro wq hSw; go_simp; (try with_reducible rfl)
      simp only [Act.put, List.getElem_toArray, List.getElem_cons_succ, List.getElem_cons_zero, List.setIfInBounds_toArray, List.set_cons_zero, List.set_cons_succ]
      refine wpAnyH_take (i := 8) (v := ?_) rfl (by kernel_rfl) (by kernel_rfl) (by kernel_rfl) (fun _ _ _ h => h) (Or.inl ⟨by rfl, ?_⟩) hSW0 ?_
      rotate_left
      · intro wq hSw; go_simp; (try with_reducible rfl)
      simp only [Act.put, List.getElem_toArray, List.getElem_cons_succ, List.getElem_cons_zero, List.setIfInBounds_toArray, List.set_cons_zero, List.set_cons_succ]
      refine wpAnyH_two (i := 1) (j := 3) (by kernel_rfl) rfl rfl (fun K hK => ?_) (fun K hK => ?_)
      · simp only [List.getElem_toArray, List.getElem_cons_succ, List.getElem_cons_zero]
        have hq0 := hzW0.cell 14
        simp only [List.getElem?_toArray, List.getElem?_cons_succ, List.getElem?_cons_zero] at hq0
        go_simp
        refine hK.out _ _ hSW0 ?_
        clear hK K
        refine wpAnyH_one (i := 3) (by kernel_rfl) rfl (fun K hK => ?_)
        simp only [List.getElem_toArray, List.getElem_cons_succ, List.getElem_cons_zero]
        go_simp
        (with_reducible refine (HC3.out _ hxW0).mono ?_)
        rintro e W3 ⟨rfl, hxW3, hbW3⟩
        have hzW3 := hzW0.but hbW3 hne
        have hoW3 := hoW0.but hxW0 (by decide) hbW3
        have hSW3 := hSW0.trans hbW3
        refine hK.out _ _ hSW3 ?_
        clear hK K
        refine wpAnyH_one (i := 5) (by kernel_rfl) rfl (fun K hK => ?_)
        simp only [List.getElem_toArray, List.getElem_cons_succ, List.getElem_cons_zero]
        go_simp
        (with_reducible refine (HC5.out _ hxW3).mono ?_)
        rintro e W5 ⟨rfl, hxW5, hbW5⟩
        have hzW5 := hzW3.but hbW5 hne
        have hoW5 := hoW3.but hxW3 (by decide) hbW5
        have hSW5 := hSW3.trans hbW5
        refine hK.out _ _ hSW5 ?_
        clear hK K
        refine wpAnyH_one (i := 7) (by kernel_rfl) rfl (fun K hK => ?_)
        simp only [List.getElem_toArray, List.getElem_cons_succ, List.getElem_cons_zero]
        go_simp
        (with_reducible refine (HC7.out _ hxW5).mono ?_)
        rintro e W7 ⟨rfl, hxW7, hbW7⟩
        have hzW7 := hzW5.but hbW7 hne
        have hoW7 := hoW5.but hxW5 (by decide) hbW7
        have hSW7 := hSW5.trans hbW7
        refine hK.out _ _ hSW7 ?_
        clear hK K
        refine wpAnyH_one (i := 9) (by kernel_rfl) rfl (fun K hK => ?_)
        simp only [List.getElem_toArray, List.getElem_cons_succ, List.getElem_cons_zero]
        go_simp
        (with_reducible refine (HC9.out _ hxW7).mono ?_)
        rintro e W9 ⟨rfl, hxW9, hbW9⟩
        have hzW9 := hzW7.but hbW9 hne
        have hoW9 := hoW7.but hxW7 (by decide) hbW9
        have hSW9 := hSW7.trans hbW9
        refine hK.out _ _ hSW9 ?_
        clear hK K
        refine wpAnyH_take (i := 10) (v := ?_) rfl (by kernel_rfl) (by kernel_rfl) (by kernel_rfl) (fun _ _ _ h => h) (Or.inl ⟨by rfl, ?_⟩) hSW9 ?_
        rotate_left
        · intro wq hSw; go_simp; (try with_reducible rfl)
        simp only [Act.put, List.getElem_toArray, List.getElem_cons_succ, List.getElem_cons_zero, List.setIfInBounds_toArray, List.set_cons_zero, List.set_cons_succ]
        refine wpAnyH_one (i := 11) (by kernel_rfl) rfl (fun K hK => ?_)
        simp only [List.getElem_toArray, List.getElem_cons_succ, List.getElem_cons_zero]
        go_simp
        have hB1 := (Below.refl W9.heap.size W9).alloc (Nat.le_refl _) (.cells #[.int .i64 (hw : Nat), S ow, V64 at0, V64 ti] 82)
        have hrow := rows_new 4 evC evC_len W9 [(⟨(hw : Int), ow, at0, ti⟩ : P.Ev)] #[.int .i64 (hw : Nat), S ow, V64 at0, V64 ti] 82 rfl
        have hzWB := hzW9.up hB1
        have hoWB := hoW9.up hB1
        have hxWB := Bx.up hxW9 hB1
        have hSWB := hSW9.up (Below.alloc (Below.refl _ _) hSW9.size (.cells #[.int .i64 (hw : Nat), S ow, V64 at0, V64 ti] 82))
        refine hK.out _ _ hSWB ?_
        clear hK K
        refine wpAnyH_one (i := 12) (by kernel_rfl) rfl (fun K hK => ?_)
        simp only [List.getElem_toArray, List.getElem_cons_succ, List.getElem_cons_zero]
        rw [if_pos (by rfl)]
        obtain ⟨iE, e1, e2, e3, e4⟩ := info_parts infoEv3
        refine wp_appR _ _ _ (by rfl) iE _ _ Tryd.underlying33 e1 e2 e3 e4 rfl (by decide) evC_len evC_one [(⟨(hw : Int), ow, at0, ti⟩ : P.Ev)] (by rfl) hoWB (by have := Hlj.out; simp only [List.length_singleton]; omega) (by decide) _ _ _ (by rfl) (by rfl) hrow (by have := hzWB.lt; omega) ?_
        intro v9 w9 hown9 hb9 hkt9
        obtain ⟨a9, c9, hv9, -, -⟩ := hown9.is evC_len
        subst hv9
        have hz9 := hzWB.below hb9 (by omega)
        have hx9 : RdX w9 g qz := Bx.below hxWB hb9 (by omega)
        have hS9 := hSWB.up (hb9.mono (by omega))
        refine hK.out _ _ hS9 ?_
        simp only [Act.put, List.getElem_toArray, List.getElem_cons_succ, List.getElem_cons_zero, List.setIfInBounds_toArray, List.set_cons_zero, List.set_cons_succ]
        clear hK K
        refine wpAnyH_take (i := 13) (v := ?_) rfl (by kernel_rfl) (by kernel_rfl) (by kernel_rfl) (fun _ _ _ h => h) (Or.inl ⟨by rfl, ?_⟩) hS9 ?_
        rotate_left
        · intro wq hSw; go_simp; (try with_reducible rfl)
        simp only [Act.put, List.getElem_toArray, List.getElem_cons_succ, List.getElem_cons_zero, List.setIfInBounds_toArray, List.set_cons_zero, List.set_cons_succ]
        refine wpAnyH_one (i := 14) (by kernel_rfl) rfl (fun K hK => ?_)
        simp only [List.getElem_toArray, List.getElem_cons_succ, List.getElem_cons_zero]
        rw [if_pos (by rfl)]
        refine wp_stV _ _ _ (by rfl) hz9 _ _ (by rfl) (by rfl) (by rfl) (by rfl) 16 (by rfl) (by decide) infoSlE (by rfl) ?_
        intro w10 hz' hb10
        have hz10 : Bx w10 w.heap.size 36 #[.int .u8 0, .int .u64 0, .int .u64 0, .string ⟨#[]⟩, .int .u64 0, .int .u8 0, .int .u64 0, .int .u64 0, .int .i64 0, .bool false, .bool false, .bool false, .int .u64 0, .slice none 0 0, .slice a9 (l ++ [(⟨(hw : Int), ow, at0, ti⟩ : P.Ev)]).length c9, .slice none 0 0] := hz'
        have hx10 : RdX w10 g qz := Bx.but hx9 hb10 (Ne.symm hne)
        have ho10 := hown9.but hz9 (by decide) hb10
        have hS10 := hS9.after hb10 (Nat.le_refl _)
        refine hK.out _ _ hS10 ?_
        simp only [Act.put, List.getElem_toArray, List.getElem_cons_succ, List.getElem_cons_zero, List.setIfInBounds_toArray, List.set_cons_zero, List.set_cons_succ]
        clear hK K
        refine wpAnyH_done (by kernel_rfl) ?_ _
        go_wp2_with fail
        go_roundw
        case rel => exact ⟨j + 1, a9, c9, by omega, by go_num, by rw [Hs3.out]; exact hz10, by rw [Hs3.out]; exact ho10, by rw [Hs3.out]; exact hx10, hS10⟩
        case measure => simp [intOf]; omega
      · simp only [List.getElem_toArray, List.getElem_cons_succ, List.getElem_cons_zero]
        go_simp
        (with_reducible refine (HC3.out _ hxW0).mono ?_)
        rintro e W3 ⟨rfl, hxW3, hbW3⟩
        have hzW3 := hzW0.but hbW3 hne
        have hoW3 := hoW0.but hxW0 (by decide) hbW3
        have hSW3 := hSW0.trans hbW3
        refine hK.out _ _ hSW3 ?_
        clear hK K
        refine wpAnyH_two (i := 1) (j := 5) (by kernel_rfl) rfl rfl (fun K hK => ?_) (fun K hK => ?_)
        · simp only [List.getElem_toArray, List.getElem_cons_succ, List.getElem_cons_zero]
          have hq0 := hzW3.cell 14
          simp only [List.getElem?_toArray, List.getElem?_cons_succ, List.getElem?_cons_zero] at hq0
          go_simp
          refine hK.out _ _ hSW3 ?_
          clear hK K
          refine wpAnyH_one (i := 5) (by kernel_rfl) rfl (fun K hK => ?_)
          simp only [List.getElem_toArray, List.getElem_cons_succ, List.getElem_cons_zero]
          go_simp
          (with_reducible refine (HC5.out _ hxW3).mono ?_)
          rintro e W5 ⟨rfl, hxW5, hbW5⟩
          have hzW5 := hzW3.but hbW5 hne
          have hoW5 := hoW3.but hxW3 (by decide) hbW5
          have hSW5 := hSW3.trans hbW5
          refine hK.out _ _ hSW5 ?_
          clear hK K
          refine wpAnyH_one (i := 7) (by kernel_rfl) rfl (fun K hK => ?_)
          simp only [List.getElem_toArray, List.getElem_cons_succ, List.getElem_cons_zero]
          go_simp
          (with_reducible refine (HC7.out _ hxW5).mono ?_)
          rintro e W7 ⟨rfl, hxW7, hbW7⟩
          have hzW7 := hzW5.but hbW7 hne
          have hoW7 := hoW5.but hxW5 (by decide) hbW7
          have hSW7 := hSW5.trans hbW7
          refine hK.out _ _ hSW7 ?_
          clear hK K
          refine wpAnyH_one (i := 9) (by kernel_rfl) rfl (fun K hK => ?_)
          simp only [List.getElem_toArray, List.getElem_cons_succ, List.getElem_cons_zero]
          go_simp
          (with_reducible refine (HC9.out _ hxW7).mono ?_)
          rintro e W9 ⟨rfl, hxW9, hbW9⟩
          have hzW9 := hzW7.but hbW9 hne
          have hoW9 := hoW7.but hxW7 (by decide) hbW9
          have hSW9 := hSW7.trans hbW9
          refine hK.out _ _ hSW9 ?_
          clear hK K
          refine wpAnyH_take (i := 10) (v := ?_) rfl (by kernel_rfl) (by kernel_rfl) (by kernel_rfl) (fun _ _ _ h => h) (Or.inl ⟨by rfl, ?_⟩) hSW9 ?_
          rotate_left
          · intro wq hSw; go_simp; (try with_reducible rfl)
          simp only [Act.put, List.getElem_toArray, List.getElem_cons_succ, List.getElem_cons_zero, List.setIfInBounds_toArray, List.set_cons_zero, List.set_cons_succ]
          refine wpAnyH_one (i := 11) (by kernel_rfl) rfl (fun K hK => ?_)
          simp only [List.getElem_toArray, List.getElem_cons_succ, List.getElem_cons_zero]
          go_simp
          have hB1 := (Below.refl W9.heap.size W9).alloc (Nat.le_refl _) (.cells #[.int .i64 (hw : Nat), S ow, V64 at0, V64 ti] 82)
          have hrow := rows_new 4 evC evC_len W9 [(⟨(hw : Int), ow, at0, ti⟩ : P.Ev)] #[.int .i64 (hw : Nat), S ow, V64 at0, V64 ti] 82 rfl
          have hzWB := hzW9.up hB1
          have hoWB := hoW9.up hB1
          have hxWB := Bx.up hxW9 hB1
          have hSWB := hSW9.up (Below.alloc (Below.refl _ _) hSW9.size (.cells #[.int .i64 (hw : Nat), S ow, V64 at0, V64 ti] 82))
          refine hK.out _ _ hSWB ?_
          clear hK K
          refine wpAnyH_one (i := 12) (by kernel_rfl) rfl (fun K hK => ?_)
          simp only [List.getElem_toArray, List.getElem_cons_succ, List.getElem_cons_zero]
          rw [if_pos (by rfl)]
          obtain ⟨iE, e1, e2, e3, e4⟩ := info_parts infoEv3
          refine wp_appR _ _ _ (by rfl) iE _ _ Tryd.underlying33 e1 e2 e3 e4 rfl (by decide) evC_len evC_one [(⟨(hw : Int), ow, at0, ti⟩ : P.Ev)] (by rfl) hoWB (by have := Hlj.out; simp only [List.length_singleton]; omega) (by decide) _ _ _ (by rfl) (by rfl) hrow (by have := hzWB.lt; omega) ?_
          intro v9 w9 hown9 hb9 hkt9
          obtain ⟨a9, c9, hv9, -, -⟩ := hown9.is evC_len
          subst hv9
          have hz9 := hzWB.below hb9 (by omega)
          have hx9 : RdX w9 g qz := Bx.below hxWB hb9 (by omega)
          have hS9 := hSWB.up (hb9.mono (by omega))
          refine hK.out _ _ hS9 ?_
          simp only [Act.put, List.getElem_toArray, List.getElem_cons_succ, List.getElem_cons_zero, List.setIfInBounds_toArray, List.set_cons_zero, List.set_cons_succ]
          clear hK K
          refine wpAnyH_take (i := 13) (v := ?_) rfl (by kernel_rfl) (by kernel_rfl) (by kernel_rfl) (fun _ _ _ h => h) (Or.inl ⟨by rfl, ?_⟩) hS9 ?_
          rotate_left
          · intro wq hSw; go_simp; (try with_reducible rfl)
          simp only [Act.put, List.getElem_toArray, List.getElem_cons_succ, List.getElem_cons_zero, List.setIfInBounds_toArray, List.set_cons_zero, List.set_cons_succ]
          refine wpAnyH_one (i := 14) (by kernel_rfl) rfl (fun K hK => ?_)
          simp only [List.getElem_toArray, List.getElem_cons_succ, List.getElem_cons_zero]
          rw [if_pos (by rfl)]
          refine wp_stV _ _ _ (by rfl) hz9 _ _ (by rfl) (by rfl) (by rfl) (by rfl) 16 (by rfl) (by decide) infoSlE (by rfl) ?_
          intro w10 hz' hb10
          have hz10 : Bx w10 w.heap.size 36 #[.int .u8 0, .int .u64 0, .int .u64 0, .string ⟨#[]⟩, .int .u64 0, .int .u8 0, .int .u64 0, .int .u64 0, .int .i64 0, .bool false, .bool false, .bool false, .int .u64 0, .slice none 0 0, .slice a9 (l ++ [(⟨(hw : Int), ow, at0, ti⟩ : P.Ev)]).length c9, .slice none 0 0] := hz'
          have hx10 : RdX w10 g qz := Bx.but hx9 hb10 (Ne.symm hne)
          have ho10 := hown9.but hz9 (by decide) hb10
          have hS10 := hS9.after hb10 (Nat.le_refl _)
          refine hK.out _ _ hS10 ?_
          simp only [Act.put, List.getElem_toArray, List.getElem_cons_succ, List.getElem_cons_zero, List.setIfInBounds_toArray, List.set_cons_zero, List.set_cons_succ]
          clear hK K
          refine wpAnyH_done (by kernel_rfl) ?_ _
          go_wp2_with fail
          go_roundw
          case rel => exact ⟨j + 1, a9, c9, by omega, by go_num, by rw [Hs3.out]; exact hz10, by rw [Hs3.out]; exact ho10, by rw [Hs3.out]; exact hx10, hS10⟩
          case measure => simp [intOf]; omega
        · simp only [List.getElem_toArray, List.getElem_cons_succ, List.getElem_cons_zero]
          go_simp
          (with_reducible refine (HC5.out _ hxW3).mono ?_)
          rintro e W5 ⟨rfl, hxW5, hbW5⟩
          have hzW5 := hzW3.but hbW5 hne
          have hoW5 := hoW3.but hxW3 (by decide) hbW5
          have hSW5 := hSW3.trans hbW5
          refine hK.out _ _ hSW5 ?_
          clear hK K
          refine wpAnyH_two (i := 1) (j := 7) (by kernel_rfl) rfl rfl (fun K hK => ?_) (fun K hK => ?_)
          · simp only [List.getElem_toArray, List.getElem_cons_succ, List.getElem_cons_zero]
            have hq0 := hzW5.cell 14
            simp only [List.getElem?_toArray, List.getElem?_cons_succ, List.getElem?_cons_zero] at hq0
            go_simp
            refine hK.out _ _ hSW5 ?_
            clear hK K
            refine wpAnyH_one (i := 7) (by kernel_rfl) rfl (fun K hK => ?_)
            simp only [List.getElem_toArray, List.getElem_cons_succ, List.getElem_cons_zero]
            go_simp
            (with_reducible refine (HC7.out _ hxW5).mono ?_)
            rintro e W7 ⟨rfl, hxW7, hbW7⟩
            have hzW7 := hzW5.but hbW7 hne
            have hoW7 := hoW5.but hxW5 (by decide) hbW7
            have hSW7 := hSW5.trans hbW7
            refine hK.out _ _ hSW7 ?_
            clear hK K
            refine wpAnyH_one (i := 9) (by kernel_rfl) rfl (fun K hK => ?_)
            simp only [List.getElem_toArray, List.getElem_cons_succ, List.getElem_cons_zero]
            go_simp
            (with_reducible refine (HC9.out _ hxW7).mono ?_)
            rintro e W9 ⟨rfl, hxW9, hbW9⟩
            have hzW9 := hzW7.but hbW9 hne
            have hoW9 := hoW7.but hxW7 (by decide) hbW9
            have hSW9 := hSW7.trans hbW9
            refine hK.out _ _ hSW9 ?_
            clear hK K
            refine wpAnyH_take (i := 10) (v := ?_) rfl (by kernel_rfl) (by kernel_rfl) (by kernel_rfl) (fun _ _ _ h => h) (Or.inl ⟨by rfl, ?_⟩) hSW9 ?_
            rotate_left
            · intro wq hSw; go_simp; (try with_reducible rfl)
            simp only [Act.put, List.getElem_toArray, List.getElem_cons_succ, List.getElem_cons_zero, List.setIfInBounds_toArray, List.set_cons_zero, List.set_cons_succ]
            refine wpAnyH_one (i := 11) (by kernel_rfl) rfl (fun K hK => ?_)
            simp only [List.getElem_toArray, List.getElem_cons_succ, List.getElem_cons_zero]
            go_simp
            have hB1 := (Below.refl W9.heap.size W9).alloc (Nat.le_refl _) (.cells #[.int .i64 (hw : Nat), S ow, V64 at0, V64 ti] 82)
            have hrow := rows_new 4 evC evC_len W9 [(⟨(hw : Int), ow, at0, ti⟩ : P.Ev)] #[.int .i64 (hw : Nat), S ow, V64 at0, V64 ti] 82 rfl
            have hzWB := hzW9.up hB1
            have hoWB := hoW9.up hB1
            have hxWB := Bx.up hxW9 hB1
            have hSWB := hSW9.up (Below.alloc (Below.refl _ _) hSW9.size (.cells #[.int .i64 (hw : Nat), S ow, V64 at0, V64 ti] 82))
            refine hK.out _ _ hSWB ?_
            clear hK K
            refine wpAnyH_one (i := 12) (by kernel_rfl) rfl (fun K hK => ?_)
            simp only [List.getElem_toArray, List.getElem_cons_succ, List.getElem_cons_zero]
            rw [if_pos (by rfl)]
            obtain ⟨iE, e1, e2, e3, e4⟩ := info_parts infoEv3
            refine wp_appR _ _ _ (by rfl) iE _ _ Tryd.underlying33 e1 e2 e3 e4 rfl (by decide) evC_len evC_one [(⟨(hw : Int), ow, at0, ti⟩ : P.Ev)] (by rfl) hoWB (by have := Hlj.out; simp only [List.length_singleton]; omega) (by decide) _ _ _ (by rfl) (by rfl) hrow (by have := hzWB.lt; omega) ?_
            intro v9 w9 hown9 hb9 hkt9
            obtain ⟨a9, c9, hv9, -, -⟩ := hown9.is evC_len
            subst hv9
            have hz9 := hzWB.below hb9 (by omega)
            have hx9 : RdX w9 g qz := Bx.below hxWB hb9 (by omega)
            have hS9 := hSWB.up (hb9.mono (by omega))
            refine hK.out _ _ hS9 ?_
            simp only [Act.put, List.getElem_toArray, List.getElem_cons_succ, List.getElem_cons_zero, List.setIfInBounds_toArray, List.set_cons_zero, List.set_cons_succ]
            clear hK K
            refine wpAnyH_take (i := 13) (v := ?_) rfl (by kernel_rfl) (by kernel_rfl) (by kernel_rfl) (fun _ _ _ h => h) (Or.inl ⟨by rfl, ?_⟩) hS9 ?_
            rotate_left
            · intro wq hSw; go_simp; (try with_reducible rfl)
            simp only [Act.put, List.getElem_toArray, List.getElem_cons_succ, List.getElem_cons_zero, List.setIfInBounds_toArray, List.set_cons_zero, List.set_cons_succ]
            refine wpAnyH_one (i := 14) (by kernel_rfl) rfl (fun K hK => ?_)
            simp only [List.getElem_toArray, List.getElem_cons_succ, List.getElem_cons_zero]
            rw [if_pos (by rfl)]
            refine wp_stV _ _ _ (by rfl) hz9 _ _ (by rfl) (by rfl) (by rfl) (by rfl) 16 (by rfl) (by decide) infoSlE (by rfl) ?_
            intro w10 hz' hb10
            have hz10 : Bx w10 w.heap.size 36 #[.int .u8 0, .int .u64 0, .int .u64 0, .string ⟨#[]⟩, .int .u64 0, .int .u8 0, .int .u64 0, .int .u64 0, .int .i64 0, .bool false, .bool false, .bool false, .int .u64 0, .slice none 0 0, .slice a9 (l ++ [(⟨(hw : Int), ow, at0, ti⟩ : P.Ev)]).length c9, .slice none 0 0] := hz'
            have hx10 : RdX w10 g qz := Bx.but hx9 hb10 (Ne.symm hne)
            have ho10 := hown9.but hz9 (by decide) hb10
            have hS10 := hS9.after hb10 (Nat.le_refl _)
            refine hK.out _ _ hS10 ?_
            simp only [Act.put, List.getElem_toArray, List.getElem_cons_succ, List.getElem_cons_zero, List.setIfInBounds_toArray, List.set_cons_zero, List.set_cons_succ]
            clear hK K
            refine wpAnyH_done (by kernel_rfl) ?_ _
            go_wp2_with fail
            go_roundw
            case rel => exact ⟨j + 1, a9, c9, by omega, by go_num, by rw [Hs3.out]; exact hz10, by rw [Hs3.out]; exact ho10, by rw [Hs3.out]; exact hx10, hS10⟩
            case measure => simp [intOf]; omega
          · simp only [List.getElem_toArray, List.getElem_cons_succ, List.getElem_cons_zero]
            go_simp
            (with_reducible refine (HC7.out _ hxW5).mono ?_)
            rintro e W7 ⟨rfl, hxW7, hbW7⟩
            have hzW7 := hzW5.but hbW7 hne
            have hoW7 := hoW5.but hxW5 (by decide) hbW7
            have hSW7 := hSW5.trans hbW7
            refine hK.out _ _ hSW7 ?_
            clear hK K
            refine wpAnyH_two (i := 1) (j := 9) (by kernel_rfl) rfl rfl (fun K hK => ?_) (fun K hK => ?_)
            · simp only [List.getElem_toArray, List.getElem_cons_succ, List.getElem_cons_zero]
              have hq0 := hzW7.cell 14
              simp only [List.getElem?_toArray, List.getElem?_cons_succ, List.getElem?_cons_zero] at hq0
              go_simp
              refine hK.out _ _ hSW7 ?_
              clear hK K
              refine wpAnyH_one (i := 9) (by kernel_rfl) rfl (fun K hK => ?_)
              simp only [List.getElem_toArray, List.getElem_cons_succ, List.getElem_cons_zero]
              go_simp
              (with_reducible refine (HC9.out _ hxW7).mono ?_)
              rintro e W9 ⟨rfl, hxW9, hbW9⟩
              have hzW9 := hzW7.but hbW9 hne
              have hoW9 := hoW7.but hxW7 (by decide) hbW9
              have hSW9 := hSW7.trans hbW9
              refine hK.out _ _ hSW9 ?_
              clear hK K
              refine wpAnyH_take (i := 10) (v := ?_) rfl (by kernel_rfl) (by kernel_rfl) (by kernel_rfl) (fun _ _ _ h => h) (Or.inl ⟨by rfl, ?_⟩) hSW9 ?_
              rotate_left
              · intro wq hSw; go_simp; (try with_reducible rfl)
              simp only [Act.put, List.getElem_toArray, List.getElem_cons_succ, List.getElem_cons_zero, List.setIfInBounds_toArray, List.set_cons_zero, List.set_cons_succ]
              refine wpAnyH_one (i := 11) (by kernel_rfl) rfl (fun K hK => ?_)
              simp only [List.getElem_toArray, List.getElem_cons_succ, List.getElem_cons_zero]
              go_simp
              have hB1 := (Below.refl W9.heap.size W9).alloc (Nat.le_refl _) (.cells #[.int .i64 (hw : Nat), S ow, V64 at0, V64 ti] 82)
              have hrow := rows_new 4 evC evC_len W9 [(⟨(hw : Int), ow, at0, ti⟩ : P.Ev)] #[.int .i64 (hw : Nat), S ow, V64 at0, V64 ti] 82 rfl
              have hzWB := hzW9.up hB1
              have hoWB := hoW9.up hB1
              have hxWB := Bx.up hxW9 hB1
              have hSWB := hSW9.up (Below.alloc (Below.refl _ _) hSW9.size (.cells #[.int .i64 (hw : Nat), S ow, V64 at0, V64 ti] 82))
              refine hK.out _ _ hSWB ?_
              clear hK K
              refine wpAnyH_one (i := 12) (by kernel_rfl) rfl (fun K hK => ?_)
              simp only [List.getElem_toArray, List.getElem_cons_succ, List.getElem_cons_zero]
              rw [if_pos (by rfl)]
              obtain ⟨iE, e1, e2, e3, e4⟩ := info_parts infoEv3
              refine wp_appR _ _ _ (by rfl) iE _ _ Tryd.underlying33 e1 e2 e3 e4 rfl (by decide) evC_len evC_one [(⟨(hw : Int), ow, at0, ti⟩ : P.Ev)] (by rfl) hoWB (by have := Hlj.out; simp only [List.length_singleton]; omega) (by decide) _ _ _ (by rfl) (by rfl) hrow (by have := hzWB.lt; omega) ?_
              intro v9 w9 hown9 hb9 hkt9
              obtain ⟨a9, c9, hv9, -, -⟩ := hown9.is evC_len
              subst hv9
              have hz9 := hzWB.below hb9 (by omega)
              have hx9 : RdX w9 g qz := Bx.below hxWB hb9 (by omega)
              have hS9 := hSWB.up (hb9.mono (by omega))
              refine hK.out _ _ hS9 ?_
              simp only [Act.put, List.getElem_toArray, List.getElem_cons_succ, List.getElem_cons_zero, List.setIfInBounds_toArray, List.set_cons_zero, List.set_cons_succ]
              clear hK K
              refine wpAnyH_take (i := 13) (v := ?_) rfl (by kernel_rfl) (by kernel_rfl) (by kernel_rfl) (fun _ _ _ h => h) (Or.inl ⟨by rfl, ?_⟩) hS9 ?_
              rotate_left
              · intro wq hSw; go_simp; (try with_reducible rfl)
              simp only [Act.put, List.getElem_toArray, List.getElem_cons_succ, List.getElem_cons_zero, List.setIfInBounds_toArray, List.set_cons_zero, List.set_cons_succ]
              refine wpAnyH_one (i := 14) (by kernel_rfl) rfl (fun K hK => ?_)
              simp only [List.getElem_toArray, List.getElem_cons_succ, List.getElem_cons_zero]
              rw [if_pos (by rfl)]
              refine wp_stV _ _ _ (by rfl) hz9 _ _ (by rfl) (by rfl) (by rfl) (by rfl) 16 (by rfl) (by decide) infoSlE (by rfl) ?_
              intro w10 hz' hb10
              have hz10 : Bx w10 w.heap.size 36 #[.int .u8 0, .int .u64 0, .int .u64 0, .string ⟨#[]⟩, .int .u64 0, .int .u8 0, .int .u64 0, .int .u64 0, .int .i64 0, .bool false, .bool false, .bool false, .int .u64 0, .slice none 0 0, .slice a9 (l ++ [(⟨(hw : Int), ow, at0, ti⟩ : P.Ev)]).length c9, .slice none 0 0] := hz'
              have hx10 : RdX w10 g qz := Bx.but hx9 hb10 (Ne.symm hne)
              have ho10 := hown9.but hz9 (by decide) hb10
              have hS10 := hS9.after hb10 (Nat.le_refl _)
              refine hK.out _ _ hS10 ?_
              simp only [Act.put, List.getElem_toArray, List.getElem_cons_succ, List.getElem_cons_zero, List.setIfInBounds_toArray, List.set_cons_zero, List.set_cons_succ]
              clear hK K
              refine wpAnyH_done (by kernel_rfl) ?_ _
              go_wp2_with fail
              go_roundw
              case rel => exact ⟨j + 1, a9, c9, by omega, by go_num, by rw [Hs3.out]; exact hz10, by rw [Hs3.out]; exact ho10, by rw [Hs3.out]; exact hx10, hS10⟩
              case measure => simp [intOf]; omega
            · simp only [List.getElem_toArray, List.getElem_cons_succ, List.getElem_cons_zero]
              go_simp
              (with_reducible refine (HC9.out _ hxW7).mono ?_)
              rintro e W9 ⟨rfl, hxW9, hbW9⟩
              have hzW9 := hzW7.but hbW9 hne
              have hoW9 := hoW7.but hxW7 (by decide) hbW9
              have hSW9 := hSW7.trans hbW9
              refine hK.out _ _ hSW9 ?_
              clear hK K
              refine wpAnyH_take (i := 10) (v := ?_) rfl (by kernel_rfl) (by kernel_rfl) (by kernel_rfl) (fun _ _ _ h => h) (Or.inl ⟨by rfl, ?_⟩) hSW9 ?_
              rotate_left
              · intro wq hSw; go_simp; (try with_reducible rfl)
              simp only [Act.put, List.getElem_toArray, List.getElem_cons_succ, List.getElem_cons_zero, List.setIfInBounds_toArray, List.set_cons_zero, List.set_cons_succ]
              refine wpAnyH_two (i := 1) (j := 11) (by kernel_rfl) rfl rfl (fun K hK => ?_) (fun K hK => ?_)
              · simp only [List.getElem_toArray, List.getElem_cons_succ, List.getElem_cons_zero]
                have hq0 := hzW9.cell 14
                simp only [List.getElem?_toArray, List.getElem?_cons_succ, List.getElem?_cons_zero] at hq0
                go_simp
                refine hK.out _ _ hSW9 ?_
                clear hK K
                refine wpAnyH_one (i := 11) (by kernel_rfl) rfl (fun K hK => ?_)
                simp only [List.getElem_toArray, List.getElem_cons_succ, List.getElem_cons_zero]
                go_simp
                have hB1 := (Below.refl W9.heap.size W9).alloc (Nat.le_refl _) (.cells #[.int .i64 (hw : Nat), S ow, V64 at0, V64 ti] 82)
                have hrow := rows_new 4 evC evC_len W9 [(⟨(hw : Int), ow, at0, ti⟩ : P.Ev)] #[.int .i64 (hw : Nat), S ow, V64 at0, V64 ti] 82 rfl
                have hzWB := hzW9.up hB1
                have hoWB := hoW9.up hB1
                have hxWB := Bx.up hxW9 hB1
                have hSWB := hSW9.up (Below.alloc (Below.refl _ _) hSW9.size (.cells #[.int .i64 (hw : Nat), S ow, V64 at0, V64 ti] 82))
                refine hK.out _ _ hSWB ?_
                clear hK K
                refine wpAnyH_one (i := 12) (by kernel_rfl) rfl (fun K hK => ?_)
                simp only [List.getElem_toArray, List.getElem_cons_succ, List.getElem_cons_zero]
                rw [if_pos (by rfl)]
                obtain ⟨iE, e1, e2, e3, e4⟩ := info_parts infoEv3
                refine wp_appR _ _ _ (by rfl) iE _ _ Tryd.underlying33 e1 e2 e3 e4 rfl (by decide) evC_len evC_one [(⟨(hw : Int), ow, at0, ti⟩ : P.Ev)] (by rfl) hoWB (by have := Hlj.out; simp only [List.length_singleton]; omega) (by decide) _ _ _ (by rfl) (by rfl) hrow (by have := hzWB.lt; omega) ?_
                intro v9 w9 hown9 hb9 hkt9
                obtain ⟨a9, c9, hv9, -, -⟩ := hown9.is evC_len
                subst hv9
                have hz9 := hzWB.below hb9 (by omega)
                have hx9 : RdX w9 g qz := Bx.below hxWB hb9 (by omega)
                have hS9 := hSWB.up (hb9.mono (by omega))
                refine hK.out _ _ hS9 ?_
                simp only [Act.put, List.getElem_toArray, List.getElem_cons_succ, List.getElem_cons_zero, List.setIfInBounds_toArray, List.set_cons_zero, List.set_cons_succ]
                clear hK K
                refine wpAnyH_take (i := 13) (v := ?_) rfl (by kernel_rfl) (by kernel_rfl) (by kernel_rfl) (fun _ _ _ h => h) (Or.inl ⟨by rfl, ?_⟩) hS9 ?_
                rotate_left
                · intro wq hSw; go_simp; (try with_reducible rfl)
                simp only [Act.put, List.getElem_toArray, List.getElem_cons_succ, List.getElem_cons_zero, List.setIfInBounds_toArray, List.set_cons_zero, List.set_cons_succ]
                refine wpAnyH_one (i := 14) (by kernel_rfl) rfl (fun K hK => ?_)
                simp only [List.getElem_toArray, List.getElem_cons_succ, List.getElem_cons_zero]
                rw [if_pos (by rfl)]
                refine wp_stV _ _ _ (by rfl) hz9 _ _ (by rfl) (by rfl) (by rfl) (by rfl) 16 (by rfl) (by decide) infoSlE (by rfl) ?_
                intro w10 hz' hb10
                have hz10 : Bx w10 w.heap.size 36 #[.int .u8 0, .int .u64 0, .int .u64 0, .string ⟨#[]⟩, .int .u64 0, .int .u8 0, .int .u64 0, .int .u64 0, .int .i64 0, .bool false, .bool false, .bool false, .int .u64 0, .slice none 0 0, .slice a9 (l ++ [(⟨(hw : Int), ow, at0, ti⟩ : P.Ev)]).length c9, .slice none 0 0] := hz'
                have hx10 : RdX w10 g qz := Bx.but hx9 hb10 (Ne.symm hne)
                have ho10 := hown9.but hz9 (by decide) hb10
                have hS10 := hS9.after hb10 (Nat.le_refl _)
                refine hK.out _ _ hS10 ?_
                simp only [Act.put, List.getElem_toArray, List.getElem_cons_succ, List.getElem_cons_zero, List.setIfInBounds_toArray, List.set_cons_zero, List.set_cons_succ]
                clear hK K
                refine wpAnyH_done (by kernel_rfl) ?_ _
                go_wp2_with fail
                go_roundw
                case rel => exact ⟨j + 1, a9, c9, by omega, by go_num, by rw [Hs3.out]; exact hz10, by rw [Hs3.out]; exact ho10, by rw [Hs3.out]; exact hx10, hS10⟩
                case measure => simp [intOf]; omega
              · simp only [List.getElem_toArray, List.getElem_cons_succ, List.getElem_cons_zero]
                go_simp
                have hB1 := (Below.refl W9.heap.size W9).alloc (Nat.le_refl _) (.cells #[.int .i64 (hw : Nat), S ow, V64 at0, V64 ti] 82)
                have hrow := rows_new 4 evC evC_len W9 [(⟨(hw : Int), ow, at0, ti⟩ : P.Ev)] #[.int .i64 (hw : Nat), S ow, V64 at0, V64 ti] 82 rfl
                have hzWB := hzW9.up hB1
                have hoWB := hoW9.up hB1
                have hxWB := Bx.up hxW9 hB1
                have hSWB := hSW9.up (Below.alloc (Below.refl _ _) hSW9.size (.cells #[.int .i64 (hw : Nat), S ow, V64 at0, V64 ti] 82))
                refine hK.out _ _ hSWB ?_
                clear hK K
                refine wpAnyH_one (i := 1) (by kernel_rfl) rfl (fun K hK => ?_)
                simp only [List.getElem_toArray, List.getElem_cons_succ, List.getElem_cons_zero]
                have hq0 := hzWB.cell 14
                simp only [List.getElem?_toArray, List.getElem?_cons_succ, List.getElem?_cons_zero] at hq0
                go_simp
                refine hK.out _ _ hSWB ?_
                clear hK K
                refine wpAnyH_one (i := 12) (by kernel_rfl) rfl (fun K hK => ?_)
                simp only [List.getElem_toArray, List.getElem_cons_succ, List.getElem_cons_zero]
                rw [if_pos (by rfl)]
                obtain ⟨iE, e1, e2, e3, e4⟩ := info_parts infoEv3
                refine wp_appR _ _ _ (by rfl) iE _ _ Tryd.underlying33 e1 e2 e3 e4 rfl (by decide) evC_len evC_one [(⟨(hw : Int), ow, at0, ti⟩ : P.Ev)] (by rfl) hoWB (by have := Hlj.out; simp only [List.length_singleton]; omega) (by decide) _ _ _ (by rfl) (by rfl) hrow (by have := hzWB.lt; omega) ?_
                intro v9 w9 hown9 hb9 hkt9
                obtain ⟨a9, c9, hv9, -, -⟩ := hown9.is evC_len
                subst hv9
                have hz9 := hzWB.below hb9 (by omega)
                have hx9 : RdX w9 g qz := Bx.below hxWB hb9 (by omega)
                have hS9 := hSWB.up (hb9.mono (by omega))
                refine hK.out _ _ hS9 ?_
                simp only [Act.put, List.getElem_toArray, List.getElem_cons_succ, List.getElem_cons_zero, List.setIfInBounds_toArray, List.set_cons_zero, List.set_cons_succ]
                clear hK K
                refine wpAnyH_take (i := 13) (v := ?_) rfl (by kernel_rfl) (by kernel_rfl) (by kernel_rfl) (fun _ _ _ h => h) (Or.inl ⟨by rfl, ?_⟩) hS9 ?_
                rotate_left
                · intro wq hSw; go_simp; (try with_reducible rfl)
                simp only [Act.put, List.getElem_toArray, List.getElem_cons_succ, List.getElem_cons_zero, List.setIfInBounds_toArray, List.set_cons_zero, List.set_cons_succ]
                refine wpAnyH_one (i := 14) (by kernel_rfl) rfl (fun K hK => ?_)
                simp only [List.getElem_toArray, List.getElem_cons_succ, List.getElem_cons_zero]
                rw [if_pos (by rfl)]
                refine wp_stV _ _ _ (by rfl) hz9 _ _ (by rfl) (by rfl) (by rfl) (by rfl) 16 (by rfl) (by decide) infoSlE (by rfl) ?_
                intro w10 hz' hb10
                have hz10 : Bx w10 w.heap.size 36 #[.int .u8 0, .int .u64 0, .int .u64 0, .string ⟨#[]⟩, .int .u64 0, .int .u8 0, .int .u64 0, .int .u64 0, .int .i64 0, .bool false, .bool false, .bool false, .int .u64 0, .slice none 0 0, .slice a9 (l ++ [(⟨(hw : Int), ow, at0, ti⟩ : P.Ev)]).length c9, .slice none 0 0] := hz'
                have hx10 : RdX w10 g qz := Bx.but hx9 hb10 (Ne.symm hne)
                have ho10 := hown9.but hz9 (by decide) hb10
                have hS10 := hS9.after hb10 (Nat.le_refl _)
                refine hK.out _ _ hS10 ?_
                simp only [Act.put, List.getElem_toArray, List.getElem_cons_succ, List.getElem_cons_zero, List.setIfInBounds_toArray, List.set_cons_zero, List.set_cons_succ]
                clear hK K
                refine wpAnyH_done (by kernel_rfl) ?_ _
                go_wp2_with fail
                go_roundw
                case rel => exact ⟨j + 1, a9, c9, by omega, by go_num, by rw [Hs3.out]; exact hz10, by rw [Hs3.out]; exact ho10, by rw [Hs3.out]; exact hx10, hS10⟩
                case measure => simp [intOf]; omega
    · have hji : decide ((j : Int) < (n : Int)) = false := decide_eq_false (by omega)
      obtain rfl : j = n := by omega
      clear Hsu Hle hqs
      generalize L j = st at *
      obtain ⟨l, q2⟩ := st
      go_wp2_with (first
        | (refine wpList_ldB (by rfl) _ _ (by rfl) hz (by rfl) structAns 16 infoAns (by rfl) ?_)
        | (refine wpList_stB (by rfl) _ _ _ (by rfl) hz _ _ (by rfl) (by rfl) 16 16 (by rfl) (by rfl) (by decide) infoAns (by rfl) (by rfl) ?_; intro w3 hz' hbw3; have hzw3 : Bx w3 w.heap.size 36 #[.int .u8 0, .int .u64 0, .int .u64 0, .string ⟨#[]⟩, .int .u64 0, .int .u8 0, .int .u64 0, .int .u64 0, .int .i64 0, .bool false, .bool false, .bool false, .int .u64 0, .slice none 0 0, .slice a l.length c, .slice none 0 0] := hz'; clear hz'; have hxw3 := Bx.but hx hbw3 (Ne.symm hne)))
      have ho3 := hown.but hz (by decide) hbw3
      exact bodyPost_ret (results_box rfl (by rfl) (loadB hzw3 structAns infoAns rfl)) rfl ⟨none, 0, a, c, none, 0, by rw [Hk.out]; rfl, by rw [Hk.out]; exact ⟨ownR_nil _ _, ho3.low (Nat.le_succ _), ownR_nil _ _⟩, by rw [Hk.out]; exact hxw3, hb.after hbw3 (Nat.le_refl _)⟩
end Go.Proofs.YtcobfoiajdbahaaDoor

namespace Go.Proofs.YtcobfoiajdbahaaDoor
open Go.RowKit
set_option linter.unusedVariables false
set_option linter.unusedSimpArgs false
set_option maxRecDepth 100000 in
set_option maxHeartbeats 16000000 in
theorem told_pools (op : Nat) (hop : op = 13 ∨ op = 14) : ToldOk op := by
  intro g q w hs hx
  have hlt := hx.lt
  have hA := (Below.refl w.heap.size w).alloc (Nat.le_refl _) (.cells #[.int .u8 0, .int .u64 0, .int .u64 0, .string ⟨#[]⟩, .int .u64 0, .int .u8 0, .int .u64 0, .int .u64 0, .int .i64 0, .bool false, .bool false, .bool false, .int .u64 0, .slice none 0 0, .slice none 0 0, .slice none 0 0] 36)
  have hz0 := Bx.fresh w 36 #[.int .u8 0, .int .u64 0, .int .u64 0, .string ⟨#[]⟩, .int .u64 0, .int .u8 0, .int .u64 0, .int .u64 0, .int .i64 0, .bool false, .bool false, .bool false, .int .u64 0, .slice none 0 0, .slice none 0 0, .slice none 0 0]
  have hx0 := hx.up hA
  have hne : w.heap.size ≠ g := by omega
  have hle := P.qB_le 0 16 q
  have hmost := P.qB_most 0 16 q
  have HB := Lib.hid (fun wx (h : RdX wx g q) => show Calls Tryd.prog 55 #[.pointer (some ⟨g, 0, none⟩), .int .i64 0, .int .i64 16] wx fun e w' => e = .returned (.int .i64 ((P.qB 0 16 q).1 : Nat)) ∧ RdX w' g (P.qB 0 16 q).2 ∧ But g wx w' from byte_any g q 0 16 (by omega) wx (by omega) h)
  have Hk := Lib.hid (show P.qTold op q = ({ P.noAn with pools := (P.qList P.qX (P.qB 0 16 q).1 (P.qB 0 16 q).2).1 }, (P.qList P.qX (P.qB 0 16 q).1 (P.qB 0 16 q).2).2) by rcases hop with rfl | rfl <;> rfl)
  have Hlen := Lib.hid (fun j => P.qList_len P.qX j (P.qB 0 16 q).2)
  have Hle := Lib.hid (fun j => P.qList_le P.qX P.qX_le j (P.qB 0 16 q).2)
  have Hsu := Lib.hid (fun j => show P.qList P.qX (j + 1) (P.qB 0 16 q).2 = ((P.qList P.qX j (P.qB 0 16 q).2).1 ++ [(P.qX (P.qList P.qX j (P.qB 0 16 q).2).2).1], (P.qX (P.qList P.qX j (P.qB 0 16 q).2).2).2) from rfl)
  have h0 : P.qList P.qX 0 (P.qB 0 16 q).2 = ([], (P.qB 0 16 q).2) := rfl
  generalize P.qB 0 16 q = bb at *
  obtain ⟨n, q1⟩ := bb
  simp only at HB Hk Hlen Hle Hsu h0 hle hmost
  generalize hL : (fun j => P.qList P.qX j q1) = L at *
  have hL' : ∀ j, P.qList P.qX j q1 = L j := fun j => by rw [← hL]
  simp only [hL'] at Hk Hlen Hle Hsu h0
  clear hL hL'
  rcases hop with hop | hop
  · skip
    have t5 : ((op : Int) == 5) = false := beq_eq_false_iff_ne.2 (by omega)
    have t6 : ((op : Int) == 6) = false := beq_eq_false_iff_ne.2 (by omega)
    have t7 : ((op : Int) == 7) = false := beq_eq_false_iff_ne.2 (by omega)
    have t10 : ((op : Int) == 10) = false := beq_eq_false_iff_ne.2 (by omega)
    have t11 : ((op : Int) == 11) = false := beq_eq_false_iff_ne.2 (by omega)
    have t12 : ((op : Int) == 12) = false := beq_eq_false_iff_ne.2 (by omega)
    have t13 : ((op : Int) == 13) = true := beq_iff_eq.2 (by omega)
    clear hop
    go_enter Tryd.func67, Tryd.ntmps67
    go_wp2_with (go_at_call 55; (with_reducible refine (HB.out _ hx0).mono ?_); rintro e w1 ⟨rfl, hx1, hb1⟩; have hz1 := hz0.but hb1 hne)
    have hb01 := (But.of hA).trans hb1
    have hlt1 := hz1.lt
    go_loopw [63] (fun i wr => ∃ (j : Nat) (a : Option Addr) (c : Nat), j ≤ n ∧ i = .int .i64 (j : Int) ∧ Bx wr w.heap.size 36 #[.int .u8 0, .int .u64 0, .int .u64 0, .string ⟨#[]⟩, .int .u64 0, .int .u8 0, .int .u64 0, .int .u64 0, .int .i64 0, .bool false, .bool false, .bool false, .int .u64 0, .slice none 0 0, .slice none 0 0, .slice a (L j).1.length c] ∧ OwnR 26 4 pxC wr (w.heap.size + 1) (.slice a (L j).1.length c) (L j).1 ∧ RdX wr g (L j).2 ∧ But g w wr) (fun i _ => n - (intOf i).toNat)
    case atStart => exact ⟨0, none, 0, by omega, rfl, by rw [h0]; exact hz1, by rw [h0]; exact ownR_nil _ _, by rw [h0]; exact hx1, hb01⟩
    case round =>
      clear hz1 hb1 hx1 hb01 hlt1 hz0 hx0 hA HB
      obtain ⟨j, a, c, hj, rfl, hz, hown, hx, hb⟩ := hrel
      have hlj := Hlen.out j
      have hszl : w.heap.size < wr.heap.size := hz.lt
      have hqs : (L j).2.1.length ≤ 1000000000 := Nat.le_trans (Hle.out j) (by omega)
      by_cases hjn : j < n
      · have hji : decide ((j : Int) < (n : Int)) = true := decide_eq_true (by omega)
        have hwj : IntKind.i64.wrap ((j : Int) + 1) = (j : Int) + 1 := wrap_mid (by omega) (by omega)
        have hsu := Hsu.out j
        have HC3 := Lib.hid (fun wx (h : RdX wx g (L j).2) => prefix_any g (L j).2 wx hqs h)
        have Hs3 := Lib.hid (show L (j + 1) = ((L j).1 ++ [(P.qX (L j).2).1], (P.qX (L j).2).2) from hsu)
        clear hsu hqs
        generalize P.qX (L j).2 = aa at *
        generalize L j = st at *
        obtain ⟨l, q2⟩ := st
        obtain ⟨x, qz⟩ := aa
        simp only at HC3 Hs3 hlj hz hown hx
        have Hlj := Lib.hid hlj
        clear hlj
        have hzW0 : Bx wr.drew w.heap.size 36 #[.int .u8 0, .int .u64 0, .int .u64 0, .string ⟨#[]⟩, .int .u64 0, .int .u8 0, .int .u64 0, .int .u64 0, .int .i64 0, .bool false, .bool false, .bool false, .int .u64 0, .slice none 0 0, .slice none 0 0, .slice a l.length c] := hz.drew
        have hxW0 : RdX wr.drew g q2 := hx.drew
        have hoW0 : OwnR 26 4 pxC wr.drew (w.heap.size + 1) (.slice a l.length c) l := hown
        have hSW0 : But g w wr.drew := hb.drew
        go_upto_region 23 with fail
        refine wp_region_held_drew (S := fun wx => But g w wx) (by kernel_rfl) hSW0 (fun _ => ?_)
        refine wpAnyH_take (i := 0) (v := ?_) rfl (by kernel_rfl) (by kernel_rfl) (by kernel_rfl) (fun _ _ _ h => h) (Or.inl ⟨by rfl, ?_⟩) hSW0 ?_
        rotate_left
        · intro wq hSw; go_simp; (try with_reducible rfl)
        simp only [Act.put, List.getElem_toArray, List.getElem_cons_succ, List.getElem_cons_zero, List.setIfInBounds_toArray, List.set_cons_zero, List.set_cons_succ]
        refine wpAnyH_take (i := 2) (v := ?_) rfl (by kernel_rfl) (by kernel_rfl) (by kernel_rfl) (fun _ _ _ h => h) (Or.inl ⟨by rfl, ?_⟩) hSW0 ?_
        rotate_left
        · intro wq hSw; go_simp; (try with_reducible rfl)
        simp only [Act.put, List.getElem_toArray, List.getElem_cons_succ, List.getElem_cons_zero, List.setIfInBounds_toArray, List.set_cons_zero, List.set_cons_succ]
        refine wpAnyH_two (i := 1) (j := 3) (by kernel_rfl) rfl rfl (fun K hK => ?_) (fun K hK => ?_)
        · simp only [List.getElem_toArray, List.getElem_cons_succ, List.getElem_cons_zero]
          have hq0 := hzW0.cell 15
          simp only [List.getElem?_toArray, List.getElem?_cons_succ, List.getElem?_cons_zero] at hq0
          go_simp
          refine hK.out _ _ hSW0 ?_
          clear hK K
          refine wpAnyH_one (i := 3) (by kernel_rfl) rfl (fun K hK => ?_)
          simp only [List.getElem_toArray, List.getElem_cons_succ, List.getElem_cons_zero]
          go_simp
          (with_reducible refine (HC3.out _ hxW0).mono ?_)
          rintro e W3 ⟨rfl, hxW3, hbW3⟩
          have hzW3 := hzW0.but hbW3 hne
          have hoW3 := hoW0.but hxW0 (by decide) hbW3
          have hSW3 := hSW0.trans hbW3
          refine hK.out _ _ hSW3 ?_
          clear hK K
          refine wpAnyH_one (i := 4) (by kernel_rfl) rfl (fun K hK => ?_)
          simp only [List.getElem_toArray, List.getElem_cons_succ, List.getElem_cons_zero]
          go_simp
          have hB1 := (Below.refl W3.heap.size W3).alloc (Nat.le_refl _) (.cells #[.int .u8 (x.a.fam : Nat), V64 x.a.hi, V64 x.a.lo, .int .i64 x.bits] 26)
          have hrow := rows_new 4 pxC pxC_len W3 [x] #[.int .u8 (x.a.fam : Nat), V64 x.a.hi, V64 x.a.lo, .int .i64 x.bits] 26 rfl
          have hzWB := hzW3.up hB1
          have hoWB := hoW3.up hB1
          have hxWB := Bx.up hxW3 hB1
          have hSWB := hSW3.up (Below.alloc (Below.refl _ _) hSW3.size (.cells #[.int .u8 (x.a.fam : Nat), V64 x.a.hi, V64 x.a.lo, .int .i64 x.bits] 26))
          refine hK.out _ _ hSWB ?_
          clear hK K
          refine wpAnyH_one (i := 5) (by kernel_rfl) rfl (fun K hK => ?_)
          simp only [List.getElem_toArray, List.getElem_cons_succ, List.getElem_cons_zero]
          rw [if_pos (by rfl)]
          obtain ⟨iE, e1, e2, e3, e4⟩ := info_parts infoPx3
          refine wp_appR _ _ _ (by rfl) iE _ _ Tryd.underlying34 e1 e2 e3 e4 rfl (by decide) pxC_len pxC_one [x] (by rfl) hoWB (by have := Hlj.out; simp only [List.length_singleton]; omega) (by decide) _ _ _ (by rfl) (by rfl) hrow (by have := hzWB.lt; omega) ?_
          intro v9 w9 hown9 hb9 hkt9
          obtain ⟨a9, c9, hv9, -, -⟩ := hown9.is pxC_len
          subst hv9
          have hz9 := hzWB.below hb9 (by omega)
          have hx9 : RdX w9 g qz := Bx.below hxWB hb9 (by omega)
          have hS9 := hSWB.up (hb9.mono (by omega))
          refine hK.out _ _ hS9 ?_
          simp only [Act.put, List.getElem_toArray, List.getElem_cons_succ, List.getElem_cons_zero, List.setIfInBounds_toArray, List.set_cons_zero, List.set_cons_succ]
          clear hK K
          refine wpAnyH_take (i := 6) (v := ?_) rfl (by kernel_rfl) (by kernel_rfl) (by kernel_rfl) (fun _ _ _ h => h) (Or.inl ⟨by rfl, ?_⟩) hS9 ?_
          rotate_left
          · intro wq hSw; go_simp; (try with_reducible rfl)
          simp only [Act.put, List.getElem_toArray, List.getElem_cons_succ, List.getElem_cons_zero, List.setIfInBounds_toArray, List.set_cons_zero, List.set_cons_succ]
          refine wpAnyH_one (i := 7) (by kernel_rfl) rfl (fun K hK => ?_)
          simp only [List.getElem_toArray, List.getElem_cons_succ, List.getElem_cons_zero]
          rw [if_pos (by rfl)]
          refine wp_stV _ _ _ (by rfl) hz9 _ _ (by rfl) (by rfl) (by rfl) (by rfl) 16 (by rfl) (by decide) infoSlP (by rfl) ?_
          intro w10 hz' hb10
          have hz10 : Bx w10 w.heap.size 36 #[.int .u8 0, .int .u64 0, .int .u64 0, .string ⟨#[]⟩, .int .u64 0, .int .u8 0, .int .u64 0, .int .u64 0, .int .i64 0, .bool false, .bool false, .bool false, .int .u64 0, .slice none 0 0, .slice none 0 0, .slice a9 (l ++ [x]).length c9] := hz'
          have hx10 : RdX w10 g qz := Bx.but hx9 hb10 (Ne.symm hne)
          have ho10 := hown9.but hz9 (by decide) hb10
          have hS10 := hS9.after hb10 (Nat.le_refl _)
          refine hK.out _ _ hS10 ?_
          simp only [Act.put, List.getElem_toArray, List.getElem_cons_succ, List.getElem_cons_zero, List.setIfInBounds_toArray, List.set_cons_zero, List.set_cons_succ]
          clear hK K
          refine wpAnyH_done (by kernel_rfl) ?_ _
          go_wp2_with fail
          go_roundw
          case rel => exact ⟨j + 1, a9, c9, by omega, by go_num, by rw [Hs3.out]; exact hz10, by rw [Hs3.out]; exact ho10, by rw [Hs3.out]; exact hx10, hS10⟩
          case measure => simp [intOf]; omega
        · simp only [List.getElem_toArray, List.getElem_cons_succ, List.getElem_cons_zero]
          go_simp
          (with_reducible refine (HC3.out _ hxW0).mono ?_)
          rintro e W3 ⟨rfl, hxW3, hbW3⟩
          have hzW3 := hzW0.but hbW3 hne
          have hoW3 := hoW0.but hxW0 (by decide) hbW3
          have hSW3 := hSW0.trans hbW3
          refine hK.out _ _ hSW3 ?_
          clear hK K
          refine wpAnyH_two (i := 1) (j := 4) (by kernel_rfl) rfl rfl (fun K hK => ?_) (fun K hK => ?_)
          · simp only [List.getElem_toArray, List.getElem_cons_succ, List.getElem_cons_zero]
            have hq0 := hzW3.cell 15
            simp only [List.getElem?_toArray, List.getElem?_cons_succ, List.getElem?_cons_zero] at hq0
            go_simp
            refine hK.out _ _ hSW3 ?_
            clear hK K
            refine wpAnyH_one (i := 4) (by kernel_rfl) rfl (fun K hK => ?_)
            simp only [List.getElem_toArray, List.getElem_cons_succ, List.getElem_cons_zero]
            go_simp
            have hB1 := (Below.refl W3.heap.size W3).alloc (Nat.le_refl _) (.cells #[.int .u8 (x.a.fam : Nat), V64 x.a.hi, V64 x.a.lo, .int .i64 x.bits] 26)
            have hrow := rows_new 4 pxC pxC_len W3 [x] #[.int .u8 (x.a.fam : Nat), V64 x.a.hi, V64 x.a.lo, .int .i64 x.bits] 26 rfl
            have hzWB := hzW3.up hB1
            have hoWB := hoW3.up hB1
            have hxWB := Bx.up hxW3 hB1
            have hSWB := hSW3.up (Below.alloc (Below.refl _ _) hSW3.size (.cells #[.int .u8 (x.a.fam : Nat), V64 x.a.hi, V64 x.a.lo, .int .i64 x.bits] 26))
            refine hK.out _ _ hSWB ?_
            clear hK K
            refine wpAnyH_one (i := 5) (by kernel_rfl) rfl (fun K hK => ?_)
            simp only [List.getElem_toArray, List.getElem_cons_succ, List.getElem_cons_zero]
            rw [if_pos (by rfl)]
            obtain ⟨iE, e1, e2, e3, e4⟩ := info_parts infoPx3
            refine wp_appR _ _ _ (by rfl) iE _ _ Tryd.underlying34 e1 e2 e3 e4 rfl (by decide) pxC_len pxC_one [x] (by rfl) hoWB (by have := Hlj.out; simp only [List.length_singleton]; omega) (by decide) _ _ _ (by rfl) (by rfl) hrow (by have := hzWB.lt; omega) ?_
            intro v9 w9 hown9 hb9 hkt9
            obtain ⟨a9, c9, hv9, -, -⟩ := hown9.is pxC_len
            subst hv9
            have hz9 := hzWB.below hb9 (by omega)
            have hx9 : RdX w9 g qz := Bx.below hxWB hb9 (by omega)
            have hS9 := hSWB.up (hb9.mono (by omega))
            refine hK.out _ _ hS9 ?_
            simp only [Act.put, List.getElem_toArray, List.getElem_cons_succ, List.getElem_cons_zero, List.setIfInBounds_toArray, List.set_cons_zero, List.set_cons_succ]
            clear hK K
            refine wpAnyH_take (i := 6) (v := ?_) rfl (by kernel_rfl) (by kernel_rfl) (by kernel_rfl) (fun _ _ _ h => h) (Or.inl ⟨by rfl, ?_⟩) hS9 ?_
            rotate_left
            · intro wq hSw; go_simp; (try with_reducible rfl)
            simp only [Act.put, List.getElem_toArray, List.getElem_cons_succ, List.getElem_cons_zero, List.setIfInBounds_toArray, List.set_cons_zero, List.set_cons_succ]
            refine wpAnyH_one (i := 7) (by kernel_rfl) rfl (fun K hK => ?_)
            simp only [List.getElem_toArray, List.getElem_cons_succ, List.getElem_cons_zero]
            rw [if_pos (by rfl)]
            refine wp_stV _ _ _ (by rfl) hz9 _ _ (by rfl) (by rfl) (by rfl) (by rfl) 16 (by rfl) (by decide) infoSlP (by rfl) ?_
            intro w10 hz' hb10
            have hz10 : Bx w10 w.heap.size 36 #[.int .u8 0, .int .u64 0, .int .u64 0, .string ⟨#[]⟩, .int .u64 0, .int .u8 0, .int .u64 0, .int .u64 0, .int .i64 0, .bool false, .bool false, .bool false, .int .u64 0, .slice none 0 0, .slice none 0 0, .slice a9 (l ++ [x]).length c9] := hz'
            have hx10 : RdX w10 g qz := Bx.but hx9 hb10 (Ne.symm hne)
            have ho10 := hown9.but hz9 (by decide) hb10
            have hS10 := hS9.after hb10 (Nat.le_refl _)
            refine hK.out _ _ hS10 ?_
            simp only [Act.put, List.getElem_toArray, List.getElem_cons_succ, List.getElem_cons_zero, List.setIfInBounds_toArray, List.set_cons_zero, List.set_cons_succ]
            clear hK K
            refine wpAnyH_done (by kernel_rfl) ?_ _
            go_wp2_with fail
            go_roundw
            case rel => exact ⟨j + 1, a9, c9, by omega, by go_num, by rw [Hs3.out]; exact hz10, by rw [Hs3.out]; exact ho10, by rw [Hs3.out]; exact hx10, hS10⟩
            case measure => simp [intOf]; omega
          · simp only [List.getElem_toArray, List.getElem_cons_succ, List.getElem_cons_zero]
            go_simp
            have hB1 := (Below.refl W3.heap.size W3).alloc (Nat.le_refl _) (.cells #[.int .u8 (x.a.fam : Nat), V64 x.a.hi, V64 x.a.lo, .int .i64 x.bits] 26)
            have hrow := rows_new 4 pxC pxC_len W3 [x] #[.int .u8 (x.a.fam : Nat), V64 x.a.hi, V64 x.a.lo, .int .i64 x.bits] 26 rfl
            have hzWB := hzW3.up hB1
            have hoWB := hoW3.up hB1
            have hxWB := Bx.up hxW3 hB1
            have hSWB := hSW3.up (Below.alloc (Below.refl _ _) hSW3.size (.cells #[.int .u8 (x.a.fam : Nat), V64 x.a.hi, V64 x.a.lo, .int .i64 x.bits] 26))
            refine hK.out _ _ hSWB ?_
            clear hK K
            refine wpAnyH_one (i := 1) (by kernel_rfl) rfl (fun K hK => ?_)
            simp only [List.getElem_toArray, List.getElem_cons_succ, List.getElem_cons_zero]
            have hq0 := hzWB.cell 15
            simp only [List.getElem?_toArray, List.getElem?_cons_succ, List.getElem?_cons_zero] at hq0
            go_simp
            refine hK.out _ _ hSWB ?_
            clear hK K
            refine wpAnyH_one (i := 5) (by kernel_rfl) rfl (fun K hK => ?_)
            simp only [List.getElem_toArray, List.getElem_cons_succ, List.getElem_cons_zero]
            rw [if_pos (by rfl)]
            obtain ⟨iE, e1, e2, e3, e4⟩ := info_parts infoPx3
            refine wp_appR _ _ _ (by rfl) iE _ _ Tryd.underlying34 e1 e2 e3 e4 rfl (by decide) pxC_len pxC_one [x] (by rfl) hoWB (by have := Hlj.out; simp only [List.length_singleton]; omega) (by decide) _ _ _ (by rfl) (by rfl) hrow (by have := hzWB.lt; omega) ?_
            intro v9 w9 hown9 hb9 hkt9
            obtain ⟨a9, c9, hv9, -, -⟩ := hown9.is pxC_len
            subst hv9
            have hz9 := hzWB.below hb9 (by omega)
            have hx9 : RdX w9 g qz := Bx.below hxWB hb9 (by omega)
            have hS9 := hSWB.up (hb9.mono (by omega))
            refine hK.out _ _ hS9 ?_
            simp only [Act.put, List.getElem_toArray, List.getElem_cons_succ, List.getElem_cons_zero, List.setIfInBounds_toArray, List.set_cons_zero, List.set_cons_succ]
            clear hK K
            refine wpAnyH_take (i := 6) (v := ?_) rfl (by kernel_rfl) (by kernel_rfl) (by kernel_rfl) (fun _ _ _ h => h) (Or.inl ⟨by rfl, ?_⟩) hS9 ?_
            rotate_left
            · intro wq hSw; go_simp; (try with_reducible rfl)
            simp only [Act.put, List.getElem_toArray, List.getElem_cons_succ, List.getElem_cons_zero, List.setIfInBounds_toArray, List.set_cons_zero, List.set_cons_succ]
            refine wpAnyH_one (i := 7) (by kernel_rfl) rfl (fun K hK => ?_)
            simp only [List.getElem_toArray, List.getElem_cons_succ, List.getElem_cons_zero]
            rw [if_pos (by rfl)]
            refine wp_stV _ _ _ (by rfl) hz9 _ _ (by rfl) (by rfl) (by rfl) (by rfl) 16 (by rfl) (by decide) infoSlP (by rfl) ?_
            intro w10 hz' hb10
            have hz10 : Bx w10 w.heap.size 36 #[.int .u8 0, .int .u64 0, .int .u64 0, .string ⟨#[]⟩, .int .u64 0, .int .u8 0, .int .u64 0, .int .u64 0, .int .i64 0, .bool false, .bool false, .bool false, .int .u64 0, .slice none 0 0, .slice none 0 0, .slice a9 (l ++ [x]).length c9] := hz'
            have hx10 : RdX w10 g qz := Bx.but hx9 hb10 (Ne.symm hne)
            have ho10 := hown9.but hz9 (by decide) hb10
            have hS10 := hS9.after hb10 (Nat.le_refl _)
            refine hK.out _ _ hS10 ?_
            simp only [Act.put, List.getElem_toArray, List.getElem_cons_succ, List.getElem_cons_zero, List.setIfInBounds_toArray, List.set_cons_zero, List.set_cons_succ]
            clear hK K
            refine wpAnyH_done (by kernel_rfl) ?_ _
            go_wp2_with fail
            go_roundw
            case rel => exact ⟨j + 1, a9, c9, by omega, by go_num, by rw [Hs3.out]; exact hz10, by rw [Hs3.out]; exact ho10, by rw [Hs3.out]; exact hx10, hS10⟩
            case measure => simp [intOf]; omega
      · have hji : decide ((j : Int) < (n : Int)) = false := decide_eq_false (by omega)
        obtain rfl : j = n := by omega
        clear Hsu Hle hqs
        generalize L j = st at *
        obtain ⟨l, q2⟩ := st
        go_wp2_with (first
          | (refine wpList_ldB (by rfl) _ _ (by rfl) hz (by rfl) structAns 16 infoAns (by rfl) ?_)
          | (refine wpList_stB (by rfl) _ _ _ (by rfl) hz _ _ (by rfl) (by rfl) 16 16 (by rfl) (by rfl) (by decide) infoAns (by rfl) (by rfl) ?_; intro w3 hz' hbw3; have hzw3 : Bx w3 w.heap.size 36 #[.int .u8 0, .int .u64 0, .int .u64 0, .string ⟨#[]⟩, .int .u64 0, .int .u8 0, .int .u64 0, .int .u64 0, .int .i64 0, .bool false, .bool false, .bool false, .int .u64 0, .slice none 0 0, .slice none 0 0, .slice a l.length c] := hz'; clear hz'; have hxw3 := Bx.but hx hbw3 (Ne.symm hne)))
        have ho3 := hown.but hz (by decide) hbw3
        exact bodyPost_ret (results_box rfl (by rfl) (loadB hzw3 structAns infoAns rfl)) rfl ⟨none, 0, none, 0, a, c, by rw [Hk.out]; rfl, by rw [Hk.out]; exact ⟨ownR_nil _ _, ownR_nil _ _, ho3.low (Nat.le_succ _)⟩, by rw [Hk.out]; exact hxw3, hb.after hbw3 (Nat.le_refl _)⟩
  · skip
    have t5 : ((op : Int) == 5) = false := beq_eq_false_iff_ne.2 (by omega)
    have t6 : ((op : Int) == 6) = false := beq_eq_false_iff_ne.2 (by omega)
    have t7 : ((op : Int) == 7) = false := beq_eq_false_iff_ne.2 (by omega)
    have t10 : ((op : Int) == 10) = false := beq_eq_false_iff_ne.2 (by omega)
    have t11 : ((op : Int) == 11) = false := beq_eq_false_iff_ne.2 (by omega)
    have t12 : ((op : Int) == 12) = false := beq_eq_false_iff_ne.2 (by omega)
    have t13 : ((op : Int) == 13) = false := beq_eq_false_iff_ne.2 (by omega)
    have t14 : ((op : Int) == 14) = true := beq_iff_eq.2 (by omega)
    clear hop
    go_enter Tryd.func67, Tryd.ntmps67
    go_wp2_with (go_at_call 55; (with_reducible refine (HB.out _ hx0).mono ?_); rintro e w1 ⟨rfl, hx1, hb1⟩; have hz1 := hz0.but hb1 hne)
    have hb01 := (But.of hA).trans hb1
    have hlt1 := hz1.lt
    go_loopw [63] (fun i wr => ∃ (j : Nat) (a : Option Addr) (c : Nat), j ≤ n ∧ i = .int .i64 (j : Int) ∧ Bx wr w.heap.size 36 #[.int .u8 0, .int .u64 0, .int .u64 0, .string ⟨#[]⟩, .int .u64 0, .int .u8 0, .int .u64 0, .int .u64 0, .int .i64 0, .bool false, .bool false, .bool false, .int .u64 0, .slice none 0 0, .slice none 0 0, .slice a (L j).1.length c] ∧ OwnR 26 4 pxC wr (w.heap.size + 1) (.slice a (L j).1.length c) (L j).1 ∧ RdX wr g (L j).2 ∧ But g w wr) (fun i _ => n - (intOf i).toNat)
    case atStart => exact ⟨0, none, 0, by omega, rfl, by rw [h0]; exact hz1, by rw [h0]; exact ownR_nil _ _, by rw [h0]; exact hx1, hb01⟩
    case round =>
      clear hz1 hb1 hx1 hb01 hlt1 hz0 hx0 hA HB
      obtain ⟨j, a, c, hj, rfl, hz, hown, hx, hb⟩ := hrel
      have hlj := Hlen.out j
      have hszl : w.heap.size < wr.heap.size := hz.lt
      have hqs : (L j).2.1.length ≤ 1000000000 := Nat.le_trans (Hle.out j) (by omega)
      by_cases hjn : j < n
      · have hji : decide ((j : Int) < (n : Int)) = true := decide_eq_true (by omega)
        have hwj : IntKind.i64.wrap ((j : Int) + 1) = (j : Int) + 1 := wrap_mid (by omega) (by omega)
        have hsu := Hsu.out j
        have HC3 := Lib.hid (fun wx (h : RdX wx g (L j).2) => prefix_any g (L j).2 wx hqs h)
        have Hs3 := Lib.hid (show L (j + 1) = ((L j).1 ++ [(P.qX (L j).2).1], (P.qX (L j).2).2) from hsu)
        clear hsu hqs
        generalize P.qX (L j).2 = aa at *
        generalize L j = st at *
        obtain ⟨l, q2⟩ := st
        obtain ⟨x, qz⟩ := aa
        simp only at HC3 Hs3 hlj hz hown hx
        have Hlj := Lib.hid hlj
        clear hlj
        have hzW0 : Bx wr.drew w.heap.size 36 #[.int .u8 0, .int .u64 0, .int .u64 0, .string ⟨#[]⟩, .int .u64 0, .int .u8 0, .int .u64 0, .int .u64 0, .int .i64 0, .bool false, .bool false, .bool false, .int .u64 0, .slice none 0 0, .slice none 0 0, .slice a l.length c] := hz.drew
        have hxW0 : RdX wr.drew g q2 := hx.drew
        have hoW0 : OwnR 26 4 pxC wr.drew (w.heap.size + 1) (.slice a l.length c) l := hown
        have hSW0 : But g w wr.drew := hb.drew
        go_upto_region 23 with fail
        refine wp_region_held_drew (S := fun wx => But g w wx) (by kernel_rfl) hSW0 (fun _ => ?_)
        refine wpAnyH_take (i := 0) (v := ?_) rfl (by kernel_rfl) (by kernel_rfl) (by kernel_rfl) (fun _ _ _ h => h) (Or.inl ⟨by rfl, ?_⟩) hSW0 ?_
        rotate_left
        · intro wq hSw; go_simp; (try with_reducible rfl)
        simp only [Act.put, List.getElem_toArray, List.getElem_cons_succ, List.getElem_cons_zero, List.setIfInBounds_toArray, List.set_cons_zero, List.set_cons_succ]
        refine wpAnyH_take (i := 2) (v := ?_) rfl (by kernel_rfl) (by kernel_rfl) (by kernel_rfl) (fun _ _ _ h => h) (Or.inl ⟨by rfl, ?_⟩) hSW0 ?_
        rotate_left
        · intro wq hSw; go_simp; (try with_reducible rfl)
        simp only [Act.put, List.getElem_toArray, List.getElem_cons_succ, List.getElem_cons_zero, List.setIfInBounds_toArray, List.set_cons_zero, List.set_cons_succ]
        refine wpAnyH_two (i := 1) (j := 3) (by kernel_rfl) rfl rfl (fun K hK => ?_) (fun K hK => ?_)
        · simp only [List.getElem_toArray, List.getElem_cons_succ, List.getElem_cons_zero]
          have hq0 := hzW0.cell 15
          simp only [List.getElem?_toArray, List.getElem?_cons_succ, List.getElem?_cons_zero] at hq0
          go_simp
          refine hK.out _ _ hSW0 ?_
          clear hK K
          refine wpAnyH_one (i := 3) (by kernel_rfl) rfl (fun K hK => ?_)
          simp only [List.getElem_toArray, List.getElem_cons_succ, List.getElem_cons_zero]
          go_simp
          (with_reducible refine (HC3.out _ hxW0).mono ?_)
          rintro e W3 ⟨rfl, hxW3, hbW3⟩
          have hzW3 := hzW0.but hbW3 hne
          have hoW3 := hoW0.but hxW0 (by decide) hbW3
          have hSW3 := hSW0.trans hbW3
          refine hK.out _ _ hSW3 ?_
          clear hK K
          refine wpAnyH_one (i := 4) (by kernel_rfl) rfl (fun K hK => ?_)
          simp only [List.getElem_toArray, List.getElem_cons_succ, List.getElem_cons_zero]
          go_simp
          have hB1 := (Below.refl W3.heap.size W3).alloc (Nat.le_refl _) (.cells #[.int .u8 (x.a.fam : Nat), V64 x.a.hi, V64 x.a.lo, .int .i64 x.bits] 26)
          have hrow := rows_new 4 pxC pxC_len W3 [x] #[.int .u8 (x.a.fam : Nat), V64 x.a.hi, V64 x.a.lo, .int .i64 x.bits] 26 rfl
          have hzWB := hzW3.up hB1
          have hoWB := hoW3.up hB1
          have hxWB := Bx.up hxW3 hB1
          have hSWB := hSW3.up (Below.alloc (Below.refl _ _) hSW3.size (.cells #[.int .u8 (x.a.fam : Nat), V64 x.a.hi, V64 x.a.lo, .int .i64 x.bits] 26))
          refine hK.out _ _ hSWB ?_
          clear hK K
          refine wpAnyH_one (i := 5) (by kernel_rfl) rfl (fun K hK => ?_)
          simp only [List.getElem_toArray, List.getElem_cons_succ, List.getElem_cons_zero]
          rw [if_pos (by rfl)]
          obtain ⟨iE, e1, e2, e3, e4⟩ := info_parts infoPx3
          refine wp_appR _ _ _ (by rfl) iE _ _ Tryd.underlying34 e1 e2 e3 e4 rfl (by decide) pxC_len pxC_one [x] (by rfl) hoWB (by have := Hlj.out; simp only [List.length_singleton]; omega) (by decide) _ _ _ (by rfl) (by rfl) hrow (by have := hzWB.lt; omega) ?_
          intro v9 w9 hown9 hb9 hkt9
          obtain ⟨a9, c9, hv9, -, -⟩ := hown9.is pxC_len
          subst hv9
          have hz9 := hzWB.below hb9 (by omega)
          have hx9 : RdX w9 g qz := Bx.below hxWB hb9 (by omega)
          have hS9 := hSWB.up (hb9.mono (by omega))
          refine hK.out _ _ hS9 ?_
          simp only [Act.put, List.getElem_toArray, List.getElem_cons_succ, List.getElem_cons_zero, List.setIfInBounds_toArray, List.set_cons_zero, List.set_cons_succ]
          clear hK K
          refine wpAnyH_take (i := 6) (v := ?_) rfl (by kernel_rfl) (by kernel_rfl) (by kernel_rfl) (fun _ _ _ h => h) (Or.inl ⟨by rfl, ?_⟩) hS9 ?_
          rotate_left
          · intro wq hSw; go_simp; (try with_reducible rfl)
          simp only [Act.put, List.getElem_toArray, List.getElem_cons_succ, List.getElem_cons_zero, List.setIfInBounds_toArray, List.set_cons_zero, List.set_cons_succ]
          refine wpAnyH_one (i := 7) (by kernel_rfl) rfl (fun K hK => ?_)
          simp only [List.getElem_toArray, List.getElem_cons_succ, List.getElem_cons_zero]
          rw [if_pos (by rfl)]
          refine wp_stV _ _ _ (by rfl) hz9 _ _ (by rfl) (by rfl) (by rfl) (by rfl) 16 (by rfl) (by decide) infoSlP (by rfl) ?_
          intro w10 hz' hb10
          have hz10 : Bx w10 w.heap.size 36 #[.int .u8 0, .int .u64 0, .int .u64 0, .string ⟨#[]⟩, .int .u64 0, .int .u8 0, .int .u64 0, .int .u64 0, .int .i64 0, .bool false, .bool false, .bool false, .int .u64 0, .slice none 0 0, .slice none 0 0, .slice a9 (l ++ [x]).length c9] := hz'
          have hx10 : RdX w10 g qz := Bx.but hx9 hb10 (Ne.symm hne)
          have ho10 := hown9.but hz9 (by decide) hb10
          have hS10 := hS9.after hb10 (Nat.le_refl _)
          refine hK.out _ _ hS10 ?_
          simp only [Act.put, List.getElem_toArray, List.getElem_cons_succ, List.getElem_cons_zero, List.setIfInBounds_toArray, List.set_cons_zero, List.set_cons_succ]
          clear hK K
          refine wpAnyH_done (by kernel_rfl) ?_ _
          go_wp2_with fail
          go_roundw
          case rel => exact ⟨j + 1, a9, c9, by omega, by go_num, by rw [Hs3.out]; exact hz10, by rw [Hs3.out]; exact ho10, by rw [Hs3.out]; exact hx10, hS10⟩
          case measure => simp [intOf]; omega
        · simp only [List.getElem_toArray, List.getElem_cons_succ, List.getElem_cons_zero]
          go_simp
          (with_reducible refine (HC3.out _ hxW0).mono ?_)
          rintro e W3 ⟨rfl, hxW3, hbW3⟩
          have hzW3 := hzW0.but hbW3 hne
          have hoW3 := hoW0.but hxW0 (by decide) hbW3
          have hSW3 := hSW0.trans hbW3
          refine hK.out _ _ hSW3 ?_
          clear hK K
          refine wpAnyH_two (i := 1) (j := 4) (by kernel_rfl) rfl rfl (fun K hK => ?_) (fun K hK => ?_)
          · simp only [List.getElem_toArray, List.getElem_cons_succ, List.getElem_cons_zero]
            have hq0 := hzW3.cell 15
            simp only [List.getElem?_toArray, List.getElem?_cons_succ, List.getElem?_cons_zero] at hq0
            go_simp
            refine hK.out _ _ hSW3 ?_
            clear hK K
            refine wpAnyH_one (i := 4) (by kernel_rfl) rfl (fun K hK => ?_)
            simp only [List.getElem_toArray, List.getElem_cons_succ, List.getElem_cons_zero]
            go_simp
            have hB1 := (Below.refl W3.heap.size W3).alloc (Nat.le_refl _) (.cells #[.int .u8 (x.a.fam : Nat), V64 x.a.hi, V64 x.a.lo, .int .i64 x.bits] 26)
            have hrow := rows_new 4 pxC pxC_len W3 [x] #[.int .u8 (x.a.fam : Nat), V64 x.a.hi, V64 x.a.lo, .int .i64 x.bits] 26 rfl
            have hzWB := hzW3.up hB1
            have hoWB := hoW3.up hB1
            have hxWB := Bx.up hxW3 hB1
            have hSWB := hSW3.up (Below.alloc (Below.refl _ _) hSW3.size (.cells #[.int .u8 (x.a.fam : Nat), V64 x.a.hi, V64 x.a.lo, .int .i64 x.bits] 26))
            refine hK.out _ _ hSWB ?_
            clear hK K
            refine wpAnyH_one (i := 5) (by kernel_rfl) rfl (fun K hK => ?_)
            simp only [List.getElem_toArray, List.getElem_cons_succ, List.getElem_cons_zero]
            rw [if_pos (by rfl)]
            obtain ⟨iE, e1, e2, e3, e4⟩ := info_parts infoPx3
            refine wp_appR _ _ _ (by rfl) iE _ _ Tryd.underlying34 e1 e2 e3 e4 rfl (by decide) pxC_len pxC_one [x] (by rfl) hoWB (by have := Hlj.out; simp only [List.length_singleton]; omega) (by decide) _ _ _ (by rfl) (by rfl) hrow (by have := hzWB.lt; omega) ?_
            intro v9 w9 hown9 hb9 hkt9
            obtain ⟨a9, c9, hv9, -, -⟩ := hown9.is pxC_len
            subst hv9
            have hz9 := hzWB.below hb9 (by omega)
            have hx9 : RdX w9 g qz := Bx.below hxWB hb9 (by omega)
            have hS9 := hSWB.up (hb9.mono (by omega))
            refine hK.out _ _ hS9 ?_
            simp only [Act.put, List.getElem_toArray, List.getElem_cons_succ, List.getElem_cons_zero, List.setIfInBounds_toArray, List.set_cons_zero, List.set_cons_succ]
            clear hK K
            refine wpAnyH_take (i := 6) (v := ?_) rfl (by kernel_rfl) (by kernel_rfl) (by kernel_rfl) (fun _ _ _ h => h) (Or.inl ⟨by rfl, ?_⟩) hS9 ?_
            rotate_left
            · intro wq hSw; go_simp; (try with_reducible rfl)
            simp only [Act.put, List.getElem_toArray, List.getElem_cons_succ, List.getElem_cons_zero, List.setIfInBounds_toArray, List.set_cons_zero, List.set_cons_succ]
            refine wpAnyH_one (i := 7) (by kernel_rfl) rfl (fun K hK => ?_)
            simp only [List.getElem_toArray, List.getElem_cons_succ, List.getElem_cons_zero]
            rw [if_pos (by rfl)]
            refine wp_stV _ _ _ (by rfl) hz9 _ _ (by rfl) (by rfl) (by rfl) (by rfl) 16 (by rfl) (by decide) infoSlP (by rfl) ?_
            intro w10 hz' hb10
            have hz10 : Bx w10 w.heap.size 36 #[.int .u8 0, .int .u64 0, .int .u64 0, .string ⟨#[]⟩, .int .u64 0, .int .u8 0, .int .u64 0, .int .u64 0, .int .i64 0, .bool false, .bool false, .bool false, .int .u64 0, .slice none 0 0, .slice none 0 0, .slice a9 (l ++ [x]).length c9] := hz'
            have hx10 : RdX w10 g qz := Bx.but hx9 hb10 (Ne.symm hne)
            have ho10 := hown9.but hz9 (by decide) hb10
            have hS10 := hS9.after hb10 (Nat.le_refl _)
            refine hK.out _ _ hS10 ?_
            simp only [Act.put, List.getElem_toArray, List.getElem_cons_succ, List.getElem_cons_zero, List.setIfInBounds_toArray, List.set_cons_zero, List.set_cons_succ]
            clear hK K
            refine wpAnyH_done (by kernel_rfl) ?_ _
            go_wp2_with fail
            go_roundw
            case rel => exact ⟨j + 1, a9, c9, by omega, by go_num, by rw [Hs3.out]; exact hz10, by rw [Hs3.out]; exact ho10, by rw [Hs3.out]; exact hx10, hS10⟩
            case measure => simp [intOf]; omega
          · simp only [List.getElem_toArray, List.getElem_cons_succ, List.getElem_cons_zero]
            go_simp
            have hB1 := (Below.refl W3.heap.size W3).alloc (Nat.le_refl _) (.cells #[.int .u8 (x.a.fam : Nat), V64 x.a.hi, V64 x.a.lo, .int .i64 x.bits] 26)
            have hrow := rows_new 4 pxC pxC_len W3 [x] #[.int .u8 (x.a.fam : Nat), V64 x.a.hi, V64 x.a.lo, .int .i64 x.bits] 26 rfl
            have hzWB := hzW3.up hB1
            have hoWB := hoW3.up hB1
            have hxWB := Bx.up hxW3 hB1
            have hSWB := hSW3.up (Below.alloc (Below.refl _ _) hSW3.size (.cells #[.int .u8 (x.a.fam : Nat), V64 x.a.hi, V64 x.a.lo, .int .i64 x.bits] 26))
            refine hK.out _ _ hSWB ?_
            clear hK K
            refine wpAnyH_one (i := 1) (by kernel_rfl) rfl (fun K hK => ?_)
            simp only [List.getElem_toArray, List.getElem_cons_succ, List.getElem_cons_zero]
            have hq0 := hzWB.cell 15
            simp only [List.getElem?_toArray, List.getElem?_cons_succ, List.getElem?_cons_zero] at hq0
            go_simp
            refine hK.out _ _ hSWB ?_
            clear hK K
            refine wpAnyH_one (i := 5) (by kernel_rfl) rfl (fun K hK => ?_)
            simp only [List.getElem_toArray, List.getElem_cons_succ, List.getElem_cons_zero]
            rw [if_pos (by rfl)]
            obtain ⟨iE, e1, e2, e3, e4⟩ := info_parts infoPx3
            refine wp_appR _ _ _ (by rfl) iE _ _ Tryd.underlying34 e1 e2 e3 e4 rfl (by decide) pxC_len pxC_one [x] (by rfl) hoWB (by have := Hlj.out; simp only [List.length_singleton]; omega) (by decide) _ _ _ (by rfl) (by rfl) hrow (by have := hzWB.lt; omega) ?_
            intro v9 w9 hown9 hb9 hkt9
            obtain ⟨a9, c9, hv9, -, -⟩ := hown9.is pxC_len
            subst hv9
            have hz9 := hzWB.below hb9 (by omega)
            have hx9 : RdX w9 g qz := Bx.below hxWB hb9 (by omega)
            have hS9 := hSWB.up (hb9.mono (by omega))
            refine hK.out _ _ hS9 ?_
            simp only [Act.put, List.getElem_toArray, List.getElem_cons_succ, List.getElem_cons_zero, List.setIfInBounds_toArray, List.set_cons_zero, List.set_cons_succ]
            clear hK K
            refine wpAnyH_take (i := 6) (v := ?_) rfl (by kernel_rfl) (by kernel_rfl) (by kernel_rfl) (fun _ _ _ h => h) (Or.inl ⟨by rfl, ?_⟩) hS9 ?_
            rotate_left
            · intro wq hSw; go_simp; (try with_reducible rfl)
            simp only [Act.put, List.getElem_toArray, List.getElem_cons_succ, List.getElem_cons_zero, List.setIfInBounds_toArray, List.set_cons_zero, List.set_cons_succ]
            refine wpAnyH_one (i := 7) (by kernel_rfl) rfl (fun K hK => ?_)
            simp only [List.getElem_toArray, List.getElem_cons_succ, List.getElem_cons_zero]
            rw [if_pos (by rfl)]
            refine wp_stV _ _ _ (by rfl) hz9 _ _ (by rfl) (by rfl) (by rfl) (by rfl) 16 (by rfl) (by decide) infoSlP (by rfl) ?_
            intro w10 hz' hb10
            have hz10 : Bx w10 w.heap.size 36 #[.int .u8 0, .int .u64 0, .int .u64 0, .string ⟨#[]⟩, .int .u64 0, .int .u8 0, .int .u64 0, .int .u64 0, .int .i64 0, .bool false, .bool false, .bool false, .int .u64 0, .slice none 0 0, .slice none 0 0, .slice a9 (l ++ [x]).length c9] := hz'
            have hx10 : RdX w10 g qz := Bx.but hx9 hb10 (Ne.symm hne)
            have ho10 := hown9.but hz9 (by decide) hb10
            have hS10 := hS9.after hb10 (Nat.le_refl _)
            refine hK.out _ _ hS10 ?_
            simp only [Act.put, List.getElem_toArray, List.getElem_cons_succ, List.getElem_cons_zero, List.setIfInBounds_toArray, List.set_cons_zero, List.set_cons_succ]
            clear hK K
            refine wpAnyH_done (by kernel_rfl) ?_ _
            go_wp2_with fail
            go_roundw
            case rel => exact ⟨j + 1, a9, c9, by omega, by go_num, by rw [Hs3.out]; exact hz10, by rw [Hs3.out]; exact ho10, by rw [Hs3.out]; exact hx10, hS10⟩
            case measure => simp [intOf]; omega
      · have hji : decide ((j : Int) < (n : Int)) = false := decide_eq_false (by omega)
        obtain rfl : j = n := by omega
        clear Hsu Hle hqs
        generalize L j = st at *
        obtain ⟨l, q2⟩ := st
        go_wp2_with (first
          | (refine wpList_ldB (by rfl) _ _ (by rfl) hz (by rfl) structAns 16 infoAns (by rfl) ?_)
          | (refine wpList_stB (by rfl) _ _ _ (by rfl) hz _ _ (by rfl) (by rfl) 16 16 (by rfl) (by rfl) (by decide) infoAns (by rfl) (by rfl) ?_; intro w3 hz' hbw3; have hzw3 : Bx w3 w.heap.size 36 #[.int .u8 0, .int .u64 0, .int .u64 0, .string ⟨#[]⟩, .int .u64 0, .int .u8 0, .int .u64 0, .int .u64 0, .int .i64 0, .bool false, .bool false, .bool false, .int .u64 0, .slice none 0 0, .slice none 0 0, .slice a l.length c] := hz'; clear hz'; have hxw3 := Bx.but hx hbw3 (Ne.symm hne)))
        have ho3 := hown.but hz (by decide) hbw3
        exact bodyPost_ret (results_box rfl (by rfl) (loadB hzw3 structAns infoAns rfl)) rfl ⟨none, 0, none, 0, a, c, by rw [Hk.out]; rfl, by rw [Hk.out]; exact ⟨ownR_nil _ _, ownR_nil _ _, ho3.low (Nat.le_succ _)⟩, by rw [Hk.out]; exact hxw3, hb.after hbw3 (Nat.le_refl _)⟩
end Go.Proofs.YtcobfoiajdbahaaDoor

namespace Go.Proofs.YtcobfoiajdbahaaDoor
open Go.RowKit
set_option linter.unusedVariables false
set_option linter.unusedSimpArgs false
set_option maxRecDepth 100000 in
set_option maxHeartbeats 16000000 in
theorem look_any (g : Nat) (q : P.Qs) (w : World) (hs : q.1.length ≤ 1000000) (hx : RdX w g q) :
    Calls Tryd.prog 90 #[.pointer (some ⟨g, 0, none⟩)] w fun e w' => e = .returned (anV (P.qLk q).1 none 0 none 0 none 0) ∧ RdX w' g (P.qLk q).2 ∧ But g w w' := by
  have hlt := hx.lt
  have hA := (Below.refl w.heap.size w).alloc (Nat.le_refl _) (.cells #[.int .u8 0, .int .u64 0, .int .u64 0, .string ⟨#[]⟩, .int .u64 0, .int .u8 0, .int .u64 0, .int .u64 0, .int .i64 0, .bool false, .bool false, .bool false, .int .u64 0, .slice none 0 0, .slice none 0 0, .slice none 0 0] 36)
  have hz0 := Bx.fresh w 36 #[.int .u8 0, .int .u64 0, .int .u64 0, .string ⟨#[]⟩, .int .u64 0, .int .u8 0, .int .u64 0, .int .u64 0, .int .i64 0, .bool false, .bool false, .bool false, .int .u64 0, .slice none 0 0, .slice none 0 0, .slice none 0 0]
  have hx0 := hx.up hA
  have hne : w.heap.size ≠ g := by omega
  have hle := P.qB_le 0 7 q
  have hmost := P.qB_most 0 7 q
  have HB := Lib.hid (fun wx (h : RdX wx g q) => show Calls Tryd.prog 55 #[.pointer (some ⟨g, 0, none⟩), .int .i64 0, .int .i64 7] wx fun e w' => e = .returned (.int .i64 ((P.qB 0 7 q).1 : Nat)) ∧ RdX w' g (P.qB 0 7 q).2 ∧ But g wx w' from byte_any g q 0 7 (by omega) wx (by omega) h)
  have Hq := Lib.hid (show P.qB 0 7 q = ((P.qB 0 7 q).1, (P.qB 0 7 q).2) from rfl)
  generalize (P.qB 0 7 q).2 = q1 at *
  generalize hn : (P.qB 0 7 q).1 = n at *
  clear hn
  have HX := Lib.hid (fun wx (h : RdX wx g q1) => prefix_any g q1 wx (by omega) h)
  have hle2 := P.qX_le q1
  have HL1 := Lib.hid (fun wx (h : RdX wx g q1) => lease_any g q1 wx (by omega) h)
  have HL2 := Lib.hid (fun wx (h : RdX wx g (P.qX q1).2) => lease_any g (P.qX q1).2 wx (by omega) h)
  rcases (show n = 0 ∨ n = 1 ∨ n = 2 ∨ n = 3 ∨ n = 4 ∨ n = 5 ∨ n = 6 ∨ n = 7 by omega) with rfl | rfl | rfl | rfl | rfl | rfl | rfl | rfl
  · rw [show (((0 : Nat)) : Int) = 0 from rfl] at HB
    have hn1 : bits .and .i64 0 1 = 0 := by decide
    have hn2 : bits .and .i64 0 2 = 0 := by decide
    have hn4 : bits .and .i64 0 4 = 0 := by decide
    have Hk := Lib.hid (show P.qLk q = ({ P.noAn with has := false, held := false, live := false, pool := P.noX, owner := [], til := 0 }, q1) by unfold P.qLk; rw [Hq.out]; simp)
    clear Hq
    go_enter Tryd.func90, Tryd.ntmps90
    go_wp2_with (first
      | (go_at_call 55; (with_reducible refine (HB.out _ hx0).mono ?_); rintro e w1 ⟨rfl, hxw1, hb1⟩; have hzw1 := hz0.but hb1 hne)
      | (refine wpList_stV (by rfl) _ _ _ (by rfl) hzw1 _ _ (by rfl) (by rfl) (by rfl) (by rfl) 16 (by rfl) (by decide) infoBool (by rfl) ?_; intro w2 hz' hbw2; have hzw2 : Bx w2 w.heap.size 36 #[.int .u8 0, .int .u64 0, .int .u64 0, .string ⟨#[]⟩, .int .u64 0, .int .u8 0, .int .u64 0, .int .u64 0, .int .i64 0, .bool false, .bool false, .bool false, .int .u64 0, .slice none 0 0, .slice none 0 0, .slice none 0 0] := hz'; clear hz'; have hxw2 := Bx.but hxw1 hbw2 (Ne.symm hne))
      | (refine wpList_stV (by rfl) _ _ _ (by rfl) hzw2 _ _ (by rfl) (by rfl) (by rfl) (by rfl) 16 (by rfl) (by decide) infoBool (by rfl) ?_; intro w3 hz' hbw3; have hzw3 : Bx w3 w.heap.size 36 #[.int .u8 0, .int .u64 0, .int .u64 0, .string ⟨#[]⟩, .int .u64 0, .int .u8 0, .int .u64 0, .int .u64 0, .int .i64 0, .bool false, .bool false, .bool false, .int .u64 0, .slice none 0 0, .slice none 0 0, .slice none 0 0] := hz'; clear hz'; have hxw3 := Bx.but hxw2 hbw3 (Ne.symm hne))
      | (refine wpList_stV (by rfl) _ _ _ (by rfl) hzw3 _ _ (by rfl) (by rfl) (by rfl) (by rfl) 16 (by rfl) (by decide) infoBool (by rfl) ?_; intro w4 hz' hbw4; have hzw4 : Bx w4 w.heap.size 36 #[.int .u8 0, .int .u64 0, .int .u64 0, .string ⟨#[]⟩, .int .u64 0, .int .u8 0, .int .u64 0, .int .u64 0, .int .i64 0, .bool false, .bool false, .bool false, .int .u64 0, .slice none 0 0, .slice none 0 0, .slice none 0 0] := hz'; clear hz'; have c9 := hzw4.cell 9; have c11 := hzw4.cell 11; simp only [List.getElem?_toArray, List.getElem?_cons_succ, List.getElem?_cons_zero] at c9 c11; have hxw4 := Bx.but hxw3 hbw4 (Ne.symm hne))
      | (refine wpList_ldB (by rfl) _ _ (by rfl) hzw4 (by rfl) structAns 16 infoAns (by rfl) ?_)
      | (refine wpList_stB (by rfl) _ _ _ (by rfl) hzw4 _ _ (by rfl) (by rfl) 16 16 (by rfl) (by rfl) (by decide) infoAns (by rfl) (by rfl) ?_; intro w9 hz' hbw9; have hzw9 : Bx w9 w.heap.size 36 #[.int .u8 0, .int .u64 0, .int .u64 0, .string ⟨#[]⟩, .int .u64 0, .int .u8 0, .int .u64 0, .int .u64 0, .int .i64 0, .bool false, .bool false, .bool false, .int .u64 0, .slice none 0 0, .slice none 0 0, .slice none 0 0] := hz'; clear hz'; have hxw9 := Bx.but hxw4 hbw9 (Ne.symm hne)))
    exact bodyPost_ret (results_box rfl (by rfl) (loadB hzw9 structAns infoAns rfl)) rfl ⟨by rw [Hk.out]; rfl, by rw [Hk.out]; exact hxw9, (((((But.of hA).trans hb1).after hbw2 (Nat.le_refl _)).after hbw3 (Nat.le_refl _)).after hbw4 (Nat.le_refl _)).after hbw9 (Nat.le_refl _)⟩
  · rw [show (((1 : Nat)) : Int) = 1 from rfl] at HB
    have hn1 : bits .and .i64 1 1 = 1 := by decide
    have hn2 : bits .and .i64 1 2 = 0 := by decide
    have hn4 : bits .and .i64 1 4 = 0 := by decide
    have Hk := Lib.hid (show P.qLk q = ({ P.noAn with has := true, held := false, live := false, pool := (P.qX q1).1, owner := [], til := 0 }, (P.qX q1).2) by unfold P.qLk; rw [Hq.out]; simp)
    clear Hq
    generalize P.qX q1 = xx at *
    obtain ⟨x, qf⟩ := xx
    simp only at HX  Hk
    go_enter Tryd.func90, Tryd.ntmps90
    go_wp2_with (first
      | (go_at_call 55; (with_reducible refine (HB.out _ hx0).mono ?_); rintro e w1 ⟨rfl, hxw1, hb1⟩; have hzw1 := hz0.but hb1 hne)
      | (refine wpList_stV (by rfl) _ _ _ (by rfl) hzw1 _ _ (by rfl) (by rfl) (by rfl) (by rfl) 16 (by rfl) (by decide) infoBool (by rfl) ?_; intro w2 hz' hbw2; have hzw2 : Bx w2 w.heap.size 36 #[.int .u8 0, .int .u64 0, .int .u64 0, .string ⟨#[]⟩, .int .u64 0, .int .u8 0, .int .u64 0, .int .u64 0, .int .i64 0, .bool true, .bool false, .bool false, .int .u64 0, .slice none 0 0, .slice none 0 0, .slice none 0 0] := hz'; clear hz'; have hxw2 := Bx.but hxw1 hbw2 (Ne.symm hne))
      | (refine wpList_stV (by rfl) _ _ _ (by rfl) hzw2 _ _ (by rfl) (by rfl) (by rfl) (by rfl) 16 (by rfl) (by decide) infoBool (by rfl) ?_; intro w3 hz' hbw3; have hzw3 : Bx w3 w.heap.size 36 #[.int .u8 0, .int .u64 0, .int .u64 0, .string ⟨#[]⟩, .int .u64 0, .int .u8 0, .int .u64 0, .int .u64 0, .int .i64 0, .bool true, .bool false, .bool false, .int .u64 0, .slice none 0 0, .slice none 0 0, .slice none 0 0] := hz'; clear hz'; have hxw3 := Bx.but hxw2 hbw3 (Ne.symm hne))
      | (refine wpList_stV (by rfl) _ _ _ (by rfl) hzw3 _ _ (by rfl) (by rfl) (by rfl) (by rfl) 16 (by rfl) (by decide) infoBool (by rfl) ?_; intro w4 hz' hbw4; have hzw4 : Bx w4 w.heap.size 36 #[.int .u8 0, .int .u64 0, .int .u64 0, .string ⟨#[]⟩, .int .u64 0, .int .u8 0, .int .u64 0, .int .u64 0, .int .i64 0, .bool true, .bool false, .bool false, .int .u64 0, .slice none 0 0, .slice none 0 0, .slice none 0 0] := hz'; clear hz'; have c9 := hzw4.cell 9; have c11 := hzw4.cell 11; simp only [List.getElem?_toArray, List.getElem?_cons_succ, List.getElem?_cons_zero] at c9 c11; have hxw4 := Bx.but hxw3 hbw4 (Ne.symm hne))
      | (go_at_call 51; (with_reducible refine (HX.out _ hxw4).mono ?_); rintro e w5 ⟨rfl, hxw5, hb5⟩; have hzw5 := hzw4.but hb5 hne)
      | (refine wpList_stB (by rfl) _ _ _ (by rfl) hzw5 _ _ (by rfl) (by rfl) 4 16 (by rfl) (by rfl) (by decide) infoPx (by rfl) (by rfl) ?_; intro w6 hz' hbw6; have hzw6 : Bx w6 w.heap.size 36 #[.int .u8 0, .int .u64 0, .int .u64 0, .string ⟨#[]⟩, .int .u64 0, .int .u8 (x.a.fam : Nat), V64 x.a.hi, V64 x.a.lo, .int .i64 x.bits, .bool true, .bool false, .bool false, .int .u64 0, .slice none 0 0, .slice none 0 0, .slice none 0 0] := hz'; clear hz'; have d11 := hzw6.cell 11; simp only [List.getElem?_toArray, List.getElem?_cons_succ, List.getElem?_cons_zero] at d11; have hxw6 := Bx.but hxw5 hbw6 (Ne.symm hne))
      | (refine wpList_ldB (by rfl) _ _ (by rfl) hzw6 (by rfl) structAns 16 infoAns (by rfl) ?_)
      | (refine wpList_stB (by rfl) _ _ _ (by rfl) hzw6 _ _ (by rfl) (by rfl) 16 16 (by rfl) (by rfl) (by decide) infoAns (by rfl) (by rfl) ?_; intro w9 hz' hbw9; have hzw9 : Bx w9 w.heap.size 36 #[.int .u8 0, .int .u64 0, .int .u64 0, .string ⟨#[]⟩, .int .u64 0, .int .u8 (x.a.fam : Nat), V64 x.a.hi, V64 x.a.lo, .int .i64 x.bits, .bool true, .bool false, .bool false, .int .u64 0, .slice none 0 0, .slice none 0 0, .slice none 0 0] := hz'; clear hz'; have hxw9 := Bx.but hxw6 hbw9 (Ne.symm hne)))
    exact bodyPost_ret (results_box rfl (by rfl) (loadB hzw9 structAns infoAns rfl)) rfl ⟨by rw [Hk.out]; rfl, by rw [Hk.out]; exact hxw9, (((((((But.of hA).trans hb1).after hbw2 (Nat.le_refl _)).after hbw3 (Nat.le_refl _)).after hbw4 (Nat.le_refl _)).trans hb5).after hbw6 (Nat.le_refl _)).after hbw9 (Nat.le_refl _)⟩
  · rw [show (((2 : Nat)) : Int) = 2 from rfl] at HB
    have hn1 : bits .and .i64 2 1 = 0 := by decide
    have hn2 : bits .and .i64 2 2 = 2 := by decide
    have hn4 : bits .and .i64 2 4 = 0 := by decide
    have Hk := Lib.hid (show P.qLk q = ({ P.noAn with has := false, held := true, live := false, pool := P.noX, owner := [], til := 0 }, q1) by unfold P.qLk; rw [Hq.out]; simp)
    clear Hq
    go_enter Tryd.func90, Tryd.ntmps90
    go_wp2_with (first
      | (go_at_call 55; (with_reducible refine (HB.out _ hx0).mono ?_); rintro e w1 ⟨rfl, hxw1, hb1⟩; have hzw1 := hz0.but hb1 hne)
      | (refine wpList_stV (by rfl) _ _ _ (by rfl) hzw1 _ _ (by rfl) (by rfl) (by rfl) (by rfl) 16 (by rfl) (by decide) infoBool (by rfl) ?_; intro w2 hz' hbw2; have hzw2 : Bx w2 w.heap.size 36 #[.int .u8 0, .int .u64 0, .int .u64 0, .string ⟨#[]⟩, .int .u64 0, .int .u8 0, .int .u64 0, .int .u64 0, .int .i64 0, .bool false, .bool false, .bool false, .int .u64 0, .slice none 0 0, .slice none 0 0, .slice none 0 0] := hz'; clear hz'; have hxw2 := Bx.but hxw1 hbw2 (Ne.symm hne))
      | (refine wpList_stV (by rfl) _ _ _ (by rfl) hzw2 _ _ (by rfl) (by rfl) (by rfl) (by rfl) 16 (by rfl) (by decide) infoBool (by rfl) ?_; intro w3 hz' hbw3; have hzw3 : Bx w3 w.heap.size 36 #[.int .u8 0, .int .u64 0, .int .u64 0, .string ⟨#[]⟩, .int .u64 0, .int .u8 0, .int .u64 0, .int .u64 0, .int .i64 0, .bool false, .bool true, .bool false, .int .u64 0, .slice none 0 0, .slice none 0 0, .slice none 0 0] := hz'; clear hz'; have hxw3 := Bx.but hxw2 hbw3 (Ne.symm hne))
      | (refine wpList_stV (by rfl) _ _ _ (by rfl) hzw3 _ _ (by rfl) (by rfl) (by rfl) (by rfl) 16 (by rfl) (by decide) infoBool (by rfl) ?_; intro w4 hz' hbw4; have hzw4 : Bx w4 w.heap.size 36 #[.int .u8 0, .int .u64 0, .int .u64 0, .string ⟨#[]⟩, .int .u64 0, .int .u8 0, .int .u64 0, .int .u64 0, .int .i64 0, .bool false, .bool true, .bool false, .int .u64 0, .slice none 0 0, .slice none 0 0, .slice none 0 0] := hz'; clear hz'; have c9 := hzw4.cell 9; have c11 := hzw4.cell 11; simp only [List.getElem?_toArray, List.getElem?_cons_succ, List.getElem?_cons_zero] at c9 c11; have hxw4 := Bx.but hxw3 hbw4 (Ne.symm hne))
      | (refine wpList_ldB (by rfl) _ _ (by rfl) hzw4 (by rfl) structAns 16 infoAns (by rfl) ?_)
      | (refine wpList_stB (by rfl) _ _ _ (by rfl) hzw4 _ _ (by rfl) (by rfl) 16 16 (by rfl) (by rfl) (by decide) infoAns (by rfl) (by rfl) ?_; intro w9 hz' hbw9; have hzw9 : Bx w9 w.heap.size 36 #[.int .u8 0, .int .u64 0, .int .u64 0, .string ⟨#[]⟩, .int .u64 0, .int .u8 0, .int .u64 0, .int .u64 0, .int .i64 0, .bool false, .bool true, .bool false, .int .u64 0, .slice none 0 0, .slice none 0 0, .slice none 0 0] := hz'; clear hz'; have hxw9 := Bx.but hxw4 hbw9 (Ne.symm hne)))
    exact bodyPost_ret (results_box rfl (by rfl) (loadB hzw9 structAns infoAns rfl)) rfl ⟨by rw [Hk.out]; rfl, by rw [Hk.out]; exact hxw9, (((((But.of hA).trans hb1).after hbw2 (Nat.le_refl _)).after hbw3 (Nat.le_refl _)).after hbw4 (Nat.le_refl _)).after hbw9 (Nat.le_refl _)⟩
  · rw [show (((3 : Nat)) : Int) = 3 from rfl] at HB
    have hn1 : bits .and .i64 3 1 = 1 := by decide
    have hn2 : bits .and .i64 3 2 = 2 := by decide
    have hn4 : bits .and .i64 3 4 = 0 := by decide
    have Hk := Lib.hid (show P.qLk q = ({ P.noAn with has := true, held := true, live := false, pool := (P.qX q1).1, owner := [], til := 0 }, (P.qX q1).2) by unfold P.qLk; rw [Hq.out]; simp)
    clear Hq
    generalize P.qX q1 = xx at *
    obtain ⟨x, qf⟩ := xx
    simp only at HX  Hk
    go_enter Tryd.func90, Tryd.ntmps90
    go_wp2_with (first
      | (go_at_call 55; (with_reducible refine (HB.out _ hx0).mono ?_); rintro e w1 ⟨rfl, hxw1, hb1⟩; have hzw1 := hz0.but hb1 hne)
      | (refine wpList_stV (by rfl) _ _ _ (by rfl) hzw1 _ _ (by rfl) (by rfl) (by rfl) (by rfl) 16 (by rfl) (by decide) infoBool (by rfl) ?_; intro w2 hz' hbw2; have hzw2 : Bx w2 w.heap.size 36 #[.int .u8 0, .int .u64 0, .int .u64 0, .string ⟨#[]⟩, .int .u64 0, .int .u8 0, .int .u64 0, .int .u64 0, .int .i64 0, .bool true, .bool false, .bool false, .int .u64 0, .slice none 0 0, .slice none 0 0, .slice none 0 0] := hz'; clear hz'; have hxw2 := Bx.but hxw1 hbw2 (Ne.symm hne))
      | (refine wpList_stV (by rfl) _ _ _ (by rfl) hzw2 _ _ (by rfl) (by rfl) (by rfl) (by rfl) 16 (by rfl) (by decide) infoBool (by rfl) ?_; intro w3 hz' hbw3; have hzw3 : Bx w3 w.heap.size 36 #[.int .u8 0, .int .u64 0, .int .u64 0, .string ⟨#[]⟩, .int .u64 0, .int .u8 0, .int .u64 0, .int .u64 0, .int .i64 0, .bool true, .bool true, .bool false, .int .u64 0, .slice none 0 0, .slice none 0 0, .slice none 0 0] := hz'; clear hz'; have hxw3 := Bx.but hxw2 hbw3 (Ne.symm hne))
      | (refine wpList_stV (by rfl) _ _ _ (by rfl) hzw3 _ _ (by rfl) (by rfl) (by rfl) (by rfl) 16 (by rfl) (by decide) infoBool (by rfl) ?_; intro w4 hz' hbw4; have hzw4 : Bx w4 w.heap.size 36 #[.int .u8 0, .int .u64 0, .int .u64 0, .string ⟨#[]⟩, .int .u64 0, .int .u8 0, .int .u64 0, .int .u64 0, .int .i64 0, .bool true, .bool true, .bool false, .int .u64 0, .slice none 0 0, .slice none 0 0, .slice none 0 0] := hz'; clear hz'; have c9 := hzw4.cell 9; have c11 := hzw4.cell 11; simp only [List.getElem?_toArray, List.getElem?_cons_succ, List.getElem?_cons_zero] at c9 c11; have hxw4 := Bx.but hxw3 hbw4 (Ne.symm hne))
      | (go_at_call 51; (with_reducible refine (HX.out _ hxw4).mono ?_); rintro e w5 ⟨rfl, hxw5, hb5⟩; have hzw5 := hzw4.but hb5 hne)
      | (refine wpList_stB (by rfl) _ _ _ (by rfl) hzw5 _ _ (by rfl) (by rfl) 4 16 (by rfl) (by rfl) (by decide) infoPx (by rfl) (by rfl) ?_; intro w6 hz' hbw6; have hzw6 : Bx w6 w.heap.size 36 #[.int .u8 0, .int .u64 0, .int .u64 0, .string ⟨#[]⟩, .int .u64 0, .int .u8 (x.a.fam : Nat), V64 x.a.hi, V64 x.a.lo, .int .i64 x.bits, .bool true, .bool true, .bool false, .int .u64 0, .slice none 0 0, .slice none 0 0, .slice none 0 0] := hz'; clear hz'; have d11 := hzw6.cell 11; simp only [List.getElem?_toArray, List.getElem?_cons_succ, List.getElem?_cons_zero] at d11; have hxw6 := Bx.but hxw5 hbw6 (Ne.symm hne))
      | (refine wpList_ldB (by rfl) _ _ (by rfl) hzw6 (by rfl) structAns 16 infoAns (by rfl) ?_)
      | (refine wpList_stB (by rfl) _ _ _ (by rfl) hzw6 _ _ (by rfl) (by rfl) 16 16 (by rfl) (by rfl) (by decide) infoAns (by rfl) (by rfl) ?_; intro w9 hz' hbw9; have hzw9 : Bx w9 w.heap.size 36 #[.int .u8 0, .int .u64 0, .int .u64 0, .string ⟨#[]⟩, .int .u64 0, .int .u8 (x.a.fam : Nat), V64 x.a.hi, V64 x.a.lo, .int .i64 x.bits, .bool true, .bool true, .bool false, .int .u64 0, .slice none 0 0, .slice none 0 0, .slice none 0 0] := hz'; clear hz'; have hxw9 := Bx.but hxw6 hbw9 (Ne.symm hne)))
    exact bodyPost_ret (results_box rfl (by rfl) (loadB hzw9 structAns infoAns rfl)) rfl ⟨by rw [Hk.out]; rfl, by rw [Hk.out]; exact hxw9, (((((((But.of hA).trans hb1).after hbw2 (Nat.le_refl _)).after hbw3 (Nat.le_refl _)).after hbw4 (Nat.le_refl _)).trans hb5).after hbw6 (Nat.le_refl _)).after hbw9 (Nat.le_refl _)⟩
  · rw [show (((4 : Nat)) : Int) = 4 from rfl] at HB
    have hn1 : bits .and .i64 4 1 = 0 := by decide
    have hn2 : bits .and .i64 4 2 = 0 := by decide
    have hn4 : bits .and .i64 4 4 = 4 := by decide
    have Hk := Lib.hid (show P.qLk q = ({ P.noAn with has := false, held := false, live := true, pool := P.noX, owner := (P.qL q1).1.1, til := (P.qL q1).1.2 }, (P.qL q1).2) by unfold P.qLk; rw [Hq.out]; simp)
    clear Hq
    generalize P.qL q1 = ll at *
    obtain ⟨⟨ow, ti⟩, qf⟩ := ll
    simp only at HL1 Hk
    go_enter Tryd.func90, Tryd.ntmps90
    go_wp2_with (first
      | (go_at_call 55; (with_reducible refine (HB.out _ hx0).mono ?_); rintro e w1 ⟨rfl, hxw1, hb1⟩; have hzw1 := hz0.but hb1 hne)
      | (refine wpList_stV (by rfl) _ _ _ (by rfl) hzw1 _ _ (by rfl) (by rfl) (by rfl) (by rfl) 16 (by rfl) (by decide) infoBool (by rfl) ?_; intro w2 hz' hbw2; have hzw2 : Bx w2 w.heap.size 36 #[.int .u8 0, .int .u64 0, .int .u64 0, .string ⟨#[]⟩, .int .u64 0, .int .u8 0, .int .u64 0, .int .u64 0, .int .i64 0, .bool false, .bool false, .bool false, .int .u64 0, .slice none 0 0, .slice none 0 0, .slice none 0 0] := hz'; clear hz'; have hxw2 := Bx.but hxw1 hbw2 (Ne.symm hne))
      | (refine wpList_stV (by rfl) _ _ _ (by rfl) hzw2 _ _ (by rfl) (by rfl) (by rfl) (by rfl) 16 (by rfl) (by decide) infoBool (by rfl) ?_; intro w3 hz' hbw3; have hzw3 : Bx w3 w.heap.size 36 #[.int .u8 0, .int .u64 0, .int .u64 0, .string ⟨#[]⟩, .int .u64 0, .int .u8 0, .int .u64 0, .int .u64 0, .int .i64 0, .bool false, .bool false, .bool false, .int .u64 0, .slice none 0 0, .slice none 0 0, .slice none 0 0] := hz'; clear hz'; have hxw3 := Bx.but hxw2 hbw3 (Ne.symm hne))
      | (refine wpList_stV (by rfl) _ _ _ (by rfl) hzw3 _ _ (by rfl) (by rfl) (by rfl) (by rfl) 16 (by rfl) (by decide) infoBool (by rfl) ?_; intro w4 hz' hbw4; have hzw4 : Bx w4 w.heap.size 36 #[.int .u8 0, .int .u64 0, .int .u64 0, .string ⟨#[]⟩, .int .u64 0, .int .u8 0, .int .u64 0, .int .u64 0, .int .i64 0, .bool false, .bool false, .bool true, .int .u64 0, .slice none 0 0, .slice none 0 0, .slice none 0 0] := hz'; clear hz'; have c9 := hzw4.cell 9; have c11 := hzw4.cell 11; simp only [List.getElem?_toArray, List.getElem?_cons_succ, List.getElem?_cons_zero] at c9 c11; have hxw4 := Bx.but hxw3 hbw4 (Ne.symm hne))
      | (go_at_call 89; (with_reducible refine (HL1.out _ hxw4).mono ?_); rintro e w7 ⟨rfl, hxw7, hb7⟩; have hzw7 := hzw4.but hb7 hne)
      | (refine wpList_stB (by rfl) _ _ _ (by rfl) hzw7 _ _ (by rfl) (by rfl) 2 16 (by rfl) (by rfl) (by decide) infoLe (by rfl) (by rfl) ?_; intro w8 hz' hbw8; have hzw8 : Bx w8 w.heap.size 36 #[.int .u8 0, .int .u64 0, .int .u64 0, S ow, V64 ti, .int .u8 0, .int .u64 0, .int .u64 0, .int .i64 0, .bool false, .bool false, .bool true, .int .u64 0, .slice none 0 0, .slice none 0 0, .slice none 0 0] := hz'; clear hz'; have hxw8 := Bx.but hxw7 hbw8 (Ne.symm hne))
      | (refine wpList_ldB (by rfl) _ _ (by rfl) hzw8 (by rfl) structAns 16 infoAns (by rfl) ?_)
      | (refine wpList_stB (by rfl) _ _ _ (by rfl) hzw8 _ _ (by rfl) (by rfl) 16 16 (by rfl) (by rfl) (by decide) infoAns (by rfl) (by rfl) ?_; intro w9 hz' hbw9; have hzw9 : Bx w9 w.heap.size 36 #[.int .u8 0, .int .u64 0, .int .u64 0, S ow, V64 ti, .int .u8 0, .int .u64 0, .int .u64 0, .int .i64 0, .bool false, .bool false, .bool true, .int .u64 0, .slice none 0 0, .slice none 0 0, .slice none 0 0] := hz'; clear hz'; have hxw9 := Bx.but hxw8 hbw9 (Ne.symm hne)))
    exact bodyPost_ret (results_box rfl (by rfl) (loadB hzw9 structAns infoAns rfl)) rfl ⟨by rw [Hk.out]; rfl, by rw [Hk.out]; exact hxw9, (((((((But.of hA).trans hb1).after hbw2 (Nat.le_refl _)).after hbw3 (Nat.le_refl _)).after hbw4 (Nat.le_refl _)).trans hb7).after hbw8 (Nat.le_refl _)).after hbw9 (Nat.le_refl _)⟩
  · rw [show (((5 : Nat)) : Int) = 5 from rfl] at HB
    have hn1 : bits .and .i64 5 1 = 1 := by decide
    have hn2 : bits .and .i64 5 2 = 0 := by decide
    have hn4 : bits .and .i64 5 4 = 4 := by decide
    have Hk := Lib.hid (show P.qLk q = ({ P.noAn with has := true, held := false, live := true, pool := (P.qX q1).1, owner := (P.qL (P.qX q1).2).1.1, til := (P.qL (P.qX q1).2).1.2 }, (P.qL (P.qX q1).2).2) by unfold P.qLk; rw [Hq.out]; simp)
    clear Hq
    generalize P.qL (P.qX q1).2 = ll at *
    obtain ⟨⟨ow, ti⟩, qf⟩ := ll
    generalize P.qX q1 = xx at *
    obtain ⟨x, q2⟩ := xx
    simp only at HX HL2 Hk
    go_enter Tryd.func90, Tryd.ntmps90
    go_wp2_with (first
      | (go_at_call 55; (with_reducible refine (HB.out _ hx0).mono ?_); rintro e w1 ⟨rfl, hxw1, hb1⟩; have hzw1 := hz0.but hb1 hne)
      | (refine wpList_stV (by rfl) _ _ _ (by rfl) hzw1 _ _ (by rfl) (by rfl) (by rfl) (by rfl) 16 (by rfl) (by decide) infoBool (by rfl) ?_; intro w2 hz' hbw2; have hzw2 : Bx w2 w.heap.size 36 #[.int .u8 0, .int .u64 0, .int .u64 0, .string ⟨#[]⟩, .int .u64 0, .int .u8 0, .int .u64 0, .int .u64 0, .int .i64 0, .bool true, .bool false, .bool false, .int .u64 0, .slice none 0 0, .slice none 0 0, .slice none 0 0] := hz'; clear hz'; have hxw2 := Bx.but hxw1 hbw2 (Ne.symm hne))
      | (refine wpList_stV (by rfl) _ _ _ (by rfl) hzw2 _ _ (by rfl) (by rfl) (by rfl) (by rfl) 16 (by rfl) (by decide) infoBool (by rfl) ?_; intro w3 hz' hbw3; have hzw3 : Bx w3 w.heap.size 36 #[.int .u8 0, .int .u64 0, .int .u64 0, .string ⟨#[]⟩, .int .u64 0, .int .u8 0, .int .u64 0, .int .u64 0, .int .i64 0, .bool true, .bool false, .bool false, .int .u64 0, .slice none 0 0, .slice none 0 0, .slice none 0 0] := hz'; clear hz'; have hxw3 := Bx.but hxw2 hbw3 (Ne.symm hne))
      | (refine wpList_stV (by rfl) _ _ _ (by rfl) hzw3 _ _ (by rfl) (by rfl) (by rfl) (by rfl) 16 (by rfl) (by decide) infoBool (by rfl) ?_; intro w4 hz' hbw4; have hzw4 : Bx w4 w.heap.size 36 #[.int .u8 0, .int .u64 0, .int .u64 0, .string ⟨#[]⟩, .int .u64 0, .int .u8 0, .int .u64 0, .int .u64 0, .int .i64 0, .bool true, .bool false, .bool true, .int .u64 0, .slice none 0 0, .slice none 0 0, .slice none 0 0] := hz'; clear hz'; have c9 := hzw4.cell 9; have c11 := hzw4.cell 11; simp only [List.getElem?_toArray, List.getElem?_cons_succ, List.getElem?_cons_zero] at c9 c11; have hxw4 := Bx.but hxw3 hbw4 (Ne.symm hne))
      | (go_at_call 51; (with_reducible refine (HX.out _ hxw4).mono ?_); rintro e w5 ⟨rfl, hxw5, hb5⟩; have hzw5 := hzw4.but hb5 hne)
      | (refine wpList_stB (by rfl) _ _ _ (by rfl) hzw5 _ _ (by rfl) (by rfl) 4 16 (by rfl) (by rfl) (by decide) infoPx (by rfl) (by rfl) ?_; intro w6 hz' hbw6; have hzw6 : Bx w6 w.heap.size 36 #[.int .u8 0, .int .u64 0, .int .u64 0, .string ⟨#[]⟩, .int .u64 0, .int .u8 (x.a.fam : Nat), V64 x.a.hi, V64 x.a.lo, .int .i64 x.bits, .bool true, .bool false, .bool true, .int .u64 0, .slice none 0 0, .slice none 0 0, .slice none 0 0] := hz'; clear hz'; have d11 := hzw6.cell 11; simp only [List.getElem?_toArray, List.getElem?_cons_succ, List.getElem?_cons_zero] at d11; have hxw6 := Bx.but hxw5 hbw6 (Ne.symm hne))
      | (go_at_call 89; (with_reducible refine (HL2.out _ hxw6).mono ?_); rintro e w7 ⟨rfl, hxw7, hb7⟩; have hzw7 := hzw6.but hb7 hne)
      | (refine wpList_stB (by rfl) _ _ _ (by rfl) hzw7 _ _ (by rfl) (by rfl) 2 16 (by rfl) (by rfl) (by decide) infoLe (by rfl) (by rfl) ?_; intro w8 hz' hbw8; have hzw8 : Bx w8 w.heap.size 36 #[.int .u8 0, .int .u64 0, .int .u64 0, S ow, V64 ti, .int .u8 (x.a.fam : Nat), V64 x.a.hi, V64 x.a.lo, .int .i64 x.bits, .bool true, .bool false, .bool true, .int .u64 0, .slice none 0 0, .slice none 0 0, .slice none 0 0] := hz'; clear hz'; have hxw8 := Bx.but hxw7 hbw8 (Ne.symm hne))
      | (refine wpList_ldB (by rfl) _ _ (by rfl) hzw8 (by rfl) structAns 16 infoAns (by rfl) ?_)
      | (refine wpList_stB (by rfl) _ _ _ (by rfl) hzw8 _ _ (by rfl) (by rfl) 16 16 (by rfl) (by rfl) (by decide) infoAns (by rfl) (by rfl) ?_; intro w9 hz' hbw9; have hzw9 : Bx w9 w.heap.size 36 #[.int .u8 0, .int .u64 0, .int .u64 0, S ow, V64 ti, .int .u8 (x.a.fam : Nat), V64 x.a.hi, V64 x.a.lo, .int .i64 x.bits, .bool true, .bool false, .bool true, .int .u64 0, .slice none 0 0, .slice none 0 0, .slice none 0 0] := hz'; clear hz'; have hxw9 := Bx.but hxw8 hbw9 (Ne.symm hne)))
    exact bodyPost_ret (results_box rfl (by rfl) (loadB hzw9 structAns infoAns rfl)) rfl ⟨by rw [Hk.out]; rfl, by rw [Hk.out]; exact hxw9, (((((((((But.of hA).trans hb1).after hbw2 (Nat.le_refl _)).after hbw3 (Nat.le_refl _)).after hbw4 (Nat.le_refl _)).trans hb5).after hbw6 (Nat.le_refl _)).trans hb7).after hbw8 (Nat.le_refl _)).after hbw9 (Nat.le_refl _)⟩
  · rw [show (((6 : Nat)) : Int) = 6 from rfl] at HB
    have hn1 : bits .and .i64 6 1 = 0 := by decide
    have hn2 : bits .and .i64 6 2 = 2 := by decide
    have hn4 : bits .and .i64 6 4 = 4 := by decide
    have Hk := Lib.hid (show P.qLk q = ({ P.noAn with has := false, held := true, live := true, pool := P.noX, owner := (P.qL q1).1.1, til := (P.qL q1).1.2 }, (P.qL q1).2) by unfold P.qLk; rw [Hq.out]; simp)
    clear Hq
    generalize P.qL q1 = ll at *
    obtain ⟨⟨ow, ti⟩, qf⟩ := ll
    simp only at HL1 Hk
    go_enter Tryd.func90, Tryd.ntmps90
    go_wp2_with (first
      | (go_at_call 55; (with_reducible refine (HB.out _ hx0).mono ?_); rintro e w1 ⟨rfl, hxw1, hb1⟩; have hzw1 := hz0.but hb1 hne)
      | (refine wpList_stV (by rfl) _ _ _ (by rfl) hzw1 _ _ (by rfl) (by rfl) (by rfl) (by rfl) 16 (by rfl) (by decide) infoBool (by rfl) ?_; intro w2 hz' hbw2; have hzw2 : Bx w2 w.heap.size 36 #[.int .u8 0, .int .u64 0, .int .u64 0, .string ⟨#[]⟩, .int .u64 0, .int .u8 0, .int .u64 0, .int .u64 0, .int .i64 0, .bool false, .bool false, .bool false, .int .u64 0, .slice none 0 0, .slice none 0 0, .slice none 0 0] := hz'; clear hz'; have hxw2 := Bx.but hxw1 hbw2 (Ne.symm hne))
      | (refine wpList_stV (by rfl) _ _ _ (by rfl) hzw2 _ _ (by rfl) (by rfl) (by rfl) (by rfl) 16 (by rfl) (by decide) infoBool (by rfl) ?_; intro w3 hz' hbw3; have hzw3 : Bx w3 w.heap.size 36 #[.int .u8 0, .int .u64 0, .int .u64 0, .string ⟨#[]⟩, .int .u64 0, .int .u8 0, .int .u64 0, .int .u64 0, .int .i64 0, .bool false, .bool true, .bool false, .int .u64 0, .slice none 0 0, .slice none 0 0, .slice none 0 0] := hz'; clear hz'; have hxw3 := Bx.but hxw2 hbw3 (Ne.symm hne))
      | (refine wpList_stV (by rfl) _ _ _ (by rfl) hzw3 _ _ (by rfl) (by rfl) (by rfl) (by rfl) 16 (by rfl) (by decide) infoBool (by rfl) ?_; intro w4 hz' hbw4; have hzw4 : Bx w4 w.heap.size 36 #[.int .u8 0, .int .u64 0, .int .u64 0, .string ⟨#[]⟩, .int .u64 0, .int .u8 0, .int .u64 0, .int .u64 0, .int .i64 0, .bool false, .bool true, .bool true, .int .u64 0, .slice none 0 0, .slice none 0 0, .slice none 0 0] := hz'; clear hz'; have c9 := hzw4.cell 9; have c11 := hzw4.cell 11; simp only [List.getElem?_toArray, List.getElem?_cons_succ, List.getElem?_cons_zero] at c9 c11; have hxw4 := Bx.but hxw3 hbw4 (Ne.symm hne))
      | (go_at_call 89; (with_reducible refine (HL1.out _ hxw4).mono ?_); rintro e w7 ⟨rfl, hxw7, hb7⟩; have hzw7 := hzw4.but hb7 hne)
      | (refine wpList_stB (by rfl) _ _ _ (by rfl) hzw7 _ _ (by rfl) (by rfl) 2 16 (by rfl) (by rfl) (by decide) infoLe (by rfl) (by rfl) ?_; intro w8 hz' hbw8; have hzw8 : Bx w8 w.heap.size 36 #[.int .u8 0, .int .u64 0, .int .u64 0, S ow, V64 ti, .int .u8 0, .int .u64 0, .int .u64 0, .int .i64 0, .bool false, .bool true, .bool true, .int .u64 0, .slice none 0 0, .slice none 0 0, .slice none 0 0] := hz'; clear hz'; have hxw8 := Bx.but hxw7 hbw8 (Ne.symm hne))
      | (refine wpList_ldB (by rfl) _ _ (by rfl) hzw8 (by rfl) structAns 16 infoAns (by rfl) ?_)
      | (refine wpList_stB (by rfl) _ _ _ (by rfl) hzw8 _ _ (by rfl) (by rfl) 16 16 (by rfl) (by rfl) (by decide) infoAns (by rfl) (by rfl) ?_; intro w9 hz' hbw9; have hzw9 : Bx w9 w.heap.size 36 #[.int .u8 0, .int .u64 0, .int .u64 0, S ow, V64 ti, .int .u8 0, .int .u64 0, .int .u64 0, .int .i64 0, .bool false, .bool true, .bool true, .int .u64 0, .slice none 0 0, .slice none 0 0, .slice none 0 0] := hz'; clear hz'; have hxw9 := Bx.but hxw8 hbw9 (Ne.symm hne)))
    exact bodyPost_ret (results_box rfl (by rfl) (loadB hzw9 structAns infoAns rfl)) rfl ⟨by rw [Hk.out]; rfl, by rw [Hk.out]; exact hxw9, (((((((But.of hA).trans hb1).after hbw2 (Nat.le_refl _)).after hbw3 (Nat.le_refl _)).after hbw4 (Nat.le_refl _)).trans hb7).after hbw8 (Nat.le_refl _)).after hbw9 (Nat.le_refl _)⟩
  · rw [show (((7 : Nat)) : Int) = 7 from rfl] at HB
    have hn1 : bits .and .i64 7 1 = 1 := by decide
    have hn2 : bits .and .i64 7 2 = 2 := by decide
    have hn4 : bits .and .i64 7 4 = 4 := by decide
    have Hk := Lib.hid (show P.qLk q = ({ P.noAn with has := true, held := true, live := true, pool := (P.qX q1).1, owner := (P.qL (P.qX q1).2).1.1, til := (P.qL (P.qX q1).2).1.2 }, (P.qL (P.qX q1).2).2) by unfold P.qLk; rw [Hq.out]; simp)
    clear Hq
    generalize P.qL (P.qX q1).2 = ll at *
    obtain ⟨⟨ow, ti⟩, qf⟩ := ll
    generalize P.qX q1 = xx at *
    obtain ⟨x, q2⟩ := xx
    simp only at HX HL2 Hk
    go_enter Tryd.func90, Tryd.ntmps90
    go_wp2_with (first
      | (go_at_call 55; (with_reducible refine (HB.out _ hx0).mono ?_); rintro e w1 ⟨rfl, hxw1, hb1⟩; have hzw1 := hz0.but hb1 hne)
      | (refine wpList_stV (by rfl) _ _ _ (by rfl) hzw1 _ _ (by rfl) (by rfl) (by rfl) (by rfl) 16 (by rfl) (by decide) infoBool (by rfl) ?_; intro w2 hz' hbw2; have hzw2 : Bx w2 w.heap.size 36 #[.int .u8 0, .int .u64 0, .int .u64 0, .string ⟨#[]⟩, .int .u64 0, .int .u8 0, .int .u64 0, .int .u64 0, .int .i64 0, .bool true, .bool false, .bool false, .int .u64 0, .slice none 0 0, .slice none 0 0, .slice none 0 0] := hz'; clear hz'; have hxw2 := Bx.but hxw1 hbw2 (Ne.symm hne))
      | (refine wpList_stV (by rfl) _ _ _ (by rfl) hzw2 _ _ (by rfl) (by rfl) (by rfl) (by rfl) 16 (by rfl) (by decide) infoBool (by rfl) ?_; intro w3 hz' hbw3; have hzw3 : Bx w3 w.heap.size 36 #[.int .u8 0, .int .u64 0, .int .u64 0, .string ⟨#[]⟩, .int .u64 0, .int .u8 0, .int .u64 0, .int .u64 0, .int .i64 0, .bool true, .bool true, .bool false, .int .u64 0, .slice none 0 0, .slice none 0 0, .slice none 0 0] := hz'; clear hz'; have hxw3 := Bx.but hxw2 hbw3 (Ne.symm hne))
      | (refine wpList_stV (by rfl) _ _ _ (by rfl) hzw3 _ _ (by rfl) (by rfl) (by rfl) (by rfl) 16 (by rfl) (by decide) infoBool (by rfl) ?_; intro w4 hz' hbw4; have hzw4 : Bx w4 w.heap.size 36 #[.int .u8 0, .int .u64 0, .int .u64 0, .string ⟨#[]⟩, .int .u64 0, .int .u8 0, .int .u64 0, .int .u64 0, .int .i64 0, .bool true, .bool true, .bool true, .int .u64 0, .slice none 0 0, .slice none 0 0, .slice none 0 0] := hz'; clear hz'; have c9 := hzw4.cell 9; have c11 := hzw4.cell 11; simp only [List.getElem?_toArray, List.getElem?_cons_succ, List.getElem?_cons_zero] at c9 c11; have hxw4 := Bx.but hxw3 hbw4 (Ne.symm hne))
      | (go_at_call 51; (with_reducible refine (HX.out _ hxw4).mono ?_); rintro e w5 ⟨rfl, hxw5, hb5⟩; have hzw5 := hzw4.but hb5 hne)
      | (refine wpList_stB (by rfl) _ _ _ (by rfl) hzw5 _ _ (by rfl) (by rfl) 4 16 (by rfl) (by rfl) (by decide) infoPx (by rfl) (by rfl) ?_; intro w6 hz' hbw6; have hzw6 : Bx w6 w.heap.size 36 #[.int .u8 0, .int .u64 0, .int .u64 0, .string ⟨#[]⟩, .int .u64 0, .int .u8 (x.a.fam : Nat), V64 x.a.hi, V64 x.a.lo, .int .i64 x.bits, .bool true, .bool true, .bool true, .int .u64 0, .slice none 0 0, .slice none 0 0, .slice none 0 0] := hz'; clear hz'; have d11 := hzw6.cell 11; simp only [List.getElem?_toArray, List.getElem?_cons_succ, List.getElem?_cons_zero] at d11; have hxw6 := Bx.but hxw5 hbw6 (Ne.symm hne))
      | (go_at_call 89; (with_reducible refine (HL2.out _ hxw6).mono ?_); rintro e w7 ⟨rfl, hxw7, hb7⟩; have hzw7 := hzw6.but hb7 hne)
      | (refine wpList_stB (by rfl) _ _ _ (by rfl) hzw7 _ _ (by rfl) (by rfl) 2 16 (by rfl) (by rfl) (by decide) infoLe (by rfl) (by rfl) ?_; intro w8 hz' hbw8; have hzw8 : Bx w8 w.heap.size 36 #[.int .u8 0, .int .u64 0, .int .u64 0, S ow, V64 ti, .int .u8 (x.a.fam : Nat), V64 x.a.hi, V64 x.a.lo, .int .i64 x.bits, .bool true, .bool true, .bool true, .int .u64 0, .slice none 0 0, .slice none 0 0, .slice none 0 0] := hz'; clear hz'; have hxw8 := Bx.but hxw7 hbw8 (Ne.symm hne))
      | (refine wpList_ldB (by rfl) _ _ (by rfl) hzw8 (by rfl) structAns 16 infoAns (by rfl) ?_)
      | (refine wpList_stB (by rfl) _ _ _ (by rfl) hzw8 _ _ (by rfl) (by rfl) 16 16 (by rfl) (by rfl) (by decide) infoAns (by rfl) (by rfl) ?_; intro w9 hz' hbw9; have hzw9 : Bx w9 w.heap.size 36 #[.int .u8 0, .int .u64 0, .int .u64 0, S ow, V64 ti, .int .u8 (x.a.fam : Nat), V64 x.a.hi, V64 x.a.lo, .int .i64 x.bits, .bool true, .bool true, .bool true, .int .u64 0, .slice none 0 0, .slice none 0 0, .slice none 0 0] := hz'; clear hz'; have hxw9 := Bx.but hxw8 hbw9 (Ne.symm hne)))
    exact bodyPost_ret (results_box rfl (by rfl) (loadB hzw9 structAns infoAns rfl)) rfl ⟨by rw [Hk.out]; rfl, by rw [Hk.out]; exact hxw9, (((((((((But.of hA).trans hb1).after hbw2 (Nat.le_refl _)).after hbw3 (Nat.le_refl _)).after hbw4 (Nat.le_refl _)).trans hb5).after hbw6 (Nat.le_refl _)).trans hb7).after hbw8 (Nat.le_refl _)).after hbw9 (Nat.le_refl _)⟩
set_option maxRecDepth 100000 in
set_option maxHeartbeats 16000000 in
theorem told_look (op : Nat) (hop : op = 10) : ToldOk op := by
  intro g q w hs hx
  have hlt := hx.lt
  have hA := (Below.refl w.heap.size w).alloc (Nat.le_refl _) (.cells #[.int .u8 0, .int .u64 0, .int .u64 0, .string ⟨#[]⟩, .int .u64 0, .int .u8 0, .int .u64 0, .int .u64 0, .int .i64 0, .bool false, .bool false, .bool false, .int .u64 0, .slice none 0 0, .slice none 0 0, .slice none 0 0] 36)
  have hz0 := Bx.fresh w 36 #[.int .u8 0, .int .u64 0, .int .u64 0, .string ⟨#[]⟩, .int .u64 0, .int .u8 0, .int .u64 0, .int .u64 0, .int .i64 0, .bool false, .bool false, .bool false, .int .u64 0, .slice none 0 0, .slice none 0 0, .slice none 0 0]
  have hx0 := hx.up hA
  have hne : w.heap.size ≠ g := by omega
  have HK := Lib.hid (fun wx (h : RdX wx g q) => look_any g q wx hs h)
  have Hk := Lib.hid (show P.qTold op q = P.qLk q by rw [hop]; rfl)
  have Hl := Lib.hid (show (P.qLk q).1.rows = [] ∧ (P.qLk q).1.events = [] ∧ (P.qLk q).1.pools = [] from ⟨rfl, rfl, rfl⟩)
  generalize P.qLk q = lk at *
  obtain ⟨a, q1⟩ := lk
  simp only at HK Hl
  have t5 : ((op : Int) == 5) = false := beq_eq_false_iff_ne.2 (by omega)
  have t6 : ((op : Int) == 6) = false := beq_eq_false_iff_ne.2 (by omega)
  have t7 : ((op : Int) == 7) = false := beq_eq_false_iff_ne.2 (by omega)
  have t10 : ((op : Int) == 10) = true := beq_iff_eq.2 (by omega)
  clear hop
  go_enter Tryd.func67, Tryd.ntmps67
  go_wp2_with (first
    | (go_at_call 90; (with_reducible refine (HK.out _ hx0).mono ?_); rintro e w1 ⟨rfl, hx1, hb1⟩; have hz1 := hz0.but hb1 hne)
    | (refine wpList_stB (by rfl) _ _ _ (by rfl) hz1 _ _ (by rfl) (by rfl) 16 16 (by rfl) (by rfl) (by decide) infoAns (by rfl) (by rfl) ?_; intro w2 hz' hbw2; have hzw2 : Bx w2 w.heap.size 36 #[.int .u8 (a.a.fam : Nat), V64 a.a.hi, V64 a.a.lo, S a.owner, V64 a.til, .int .u8 (a.pool.a.fam : Nat), V64 a.pool.a.hi, V64 a.pool.a.lo, .int .i64 a.pool.bits, .bool a.has, .bool a.held, .bool a.live, V64 a.clock, .slice none a.rows.length 0, .slice none a.events.length 0, .slice none a.pools.length 0] := hz'; clear hz'; have hxw2 := Bx.but hx1 hbw2 (Ne.symm hne)))
  exact bodyPost_ret (results_box rfl (by rfl) (loadB hzw2 structAns infoAns rfl)) rfl ⟨none, 0, none, 0, none, 0, by rw [Hk.out], by rw [Hk.out]; exact OwnAns.none _ _ _ Hl.out.1 Hl.out.2.1 Hl.out.2.2, by rw [Hk.out]; exact hxw2, ((But.of hA).trans hb1).after hbw2 (Nat.le_refl _)⟩
/-- Whatever the Op. -/
theorem told_any (op : Nat) : ToldOk op := by
  by_cases h1 : 5 ≤ op ∧ op ≤ 7
  · exact told_ok57 op h1
  by_cases h2 : op = 10
  · exact told_look op h2
  by_cases h3 : op = 11
  · exact told_rows op h3
  by_cases h4 : op = 12
  · exact told_events op h4
  by_cases h5 : op = 13 ∨ op = 14
  · exact told_pools op h5
  by_cases h6 : op = 15
  · exact told_clock op h6
  · exact told_other op ⟨h1, by omega⟩
theorem hear_any (s : List UInt8) (hs : s.length ≤ 1000000) (w : World) : Calls Tryd.prog 23 #[S s] w (HearDid s w) := by
  by_cases he : (P.hearE s).1 = 0
  · exact hear_ok s hs he (told_any _) w
  · exact hear_err s hs he w
end Go.Proofs.YtcobfoiajdbahaaDoor
