/- The walk of the reader of answers: told of rows, events, pools, a clock, nothing. -/
import Derived.Test.YtcobfoiajdbahaaDoorWQTold
import Derived.Test.YtcobfoiajdbahaaDoorWQAns
namespace Go.Proofs.YtcobfoiajdbahaaDoor
open Go.RowKit
set_option linter.unusedVariables false
set_option linter.unusedSimpArgs false
theorem wp_stV {P : Program} {op : Oper} {a : Act} {w : World} {K : Act → World → Prop} {Q : Exit → Act → World → Prop} (ty : TypeId) (x y : Operand) (ho : op.op = .store ty x y)
    {g : Nat} {t : TypeId} {cs : Array Value} (hbx : Bx w g t cs) (o : Nat) (v : Value) (hx : a.eval x = .pointer (some ⟨g, o, none⟩)) (hy : a.eval y = v) (hv : v.cells = #[v]) (h1 : v.oneCell' = true)
    (N : Nat) (hN : cs.size = N) (hn : o + 1 ≤ N) (hi : (P.info? ty).map (·.size) = some 1)
    {cs' : Array Value} (hcs : (putL o cs.toList [v]).toArray = cs')
    (h : ∀ w', Bx w' g t cs' → But g w w' → K (a.put op.dst undef) w') : op.wp P a w K Q := by
  subst hN hcs hy
  unfold Oper.wp execOp
  simp only [ho, hx, Instr.storeAt, Instr.sureAddr, Sem.run_bind, Sem.run_pure, Result.andThen_ok, run_storeVar_one w g o ty _ hv h1 (hbx.there hn) hi]
  exact h _ (Bx.setCells _ _ _ _ hbx) (But.setCells _ _ _ (But.refl g w))
theorem wpAnyH_two {P : Program} {ops : Array Oper} {Q : Exit → Act → World → Prop} {i j : Nat} {o o' : Oper} {fuel : Nat} {listed : Array Bool} {a : Act} {w : World} {S : World → Prop} (hr : Region.ready .any ops listed = [i, j]) (ho : ops[i]? = some o) (ho' : ops[j]? = some o')
    (h : ∀ K' : Act → World → Prop, Shut (∀ a w, S w → wpAnyH P .any ops Q S fuel (listed.setIfInBounds i true) a w → K' a w) → if Region.wanted o (yielded ops a.tmps) = true then Oper.wp P o a w K' Q else K' (a.put o.dst undef) w)
    (h' : ∀ K' : Act → World → Prop, Shut (∀ a w, S w → wpAnyH P .any ops Q S fuel (listed.setIfInBounds j true) a w → K' a w) → if Region.wanted o' (yielded ops a.tmps) = true then Oper.wp P o' a w K' Q else K' (a.put o'.dst undef) w) :
    wpAnyH P .any ops Q S (fuel + 1) listed a w :=
  ⟨(fun h0 => by rw [hr] at h0; cases h0), fun k hk => by
    rw [hr] at hk
    rcases List.mem_cons.1 hk with rfl | hk
    · exact wpOp_step ho (fun K' hK => h K' (fun a w hS hW => hK a w ⟨hS, hW⟩))
    · obtain rfl := List.mem_singleton.1 hk
      exact wpOp_step ho' (fun K' hK => h' K' (fun a w hS hW => hK a w ⟨hS, hW⟩))⟩
theorem rwC_one (r : P.Rw) : ∀ u ∈ rwC r, u.oneCell' = true := by intro u hu; simp only [rwC, List.mem_cons, List.not_mem_nil, or_false] at hu; rcases hu with rfl | rfl | rfl | rfl | rfl <;> rfl
theorem evC_one (r : P.Ev) : ∀ u ∈ evC r, u.oneCell' = true := by intro u hu; simp only [evC, List.mem_cons, List.not_mem_nil, or_false] at hu; rcases hu with rfl | rfl | rfl | rfl <;> rfl
theorem pxC_one (r : P.Px) : ∀ u ∈ pxC r, u.oneCell' = true := by intro u hu; simp only [pxC, List.mem_cons, List.not_mem_nil, or_false] at hu; rcases hu with rfl | rfl | rfl | rfl <;> rfl
theorem infoRw3 : (Tryd.prog.info? 80).map (fun i => (i.zero, i.size, i.bytes)) = some (some (.agg #[.int .u8 0, .int .u64 0, .int .u64 0, .string ⟨#[]⟩, .int .u64 0]), 5, 48) := by kernel_rfl
theorem infoEv3 : (Tryd.prog.info? 82).map (fun i => (i.zero, i.size, i.bytes)) = some (some (.agg #[.int .i64 0, .string ⟨#[]⟩, .int .u64 0, .int .u64 0]), 4, 40) := by kernel_rfl
theorem infoPx3 : (Tryd.prog.info? 26).map (fun i => (i.zero, i.size, i.bytes)) = some (some (.agg #[.int .u8 0, .int .u64 0, .int .u64 0, .int .i64 0]), 4, 32) := by kernel_rfl
theorem infoSlR : (Tryd.prog.info? 32).map (·.size) = some 1 := by kernel_rfl
theorem infoSlE : (Tryd.prog.info? 33).map (·.size) = some 1 := by kernel_rfl
theorem infoSlP : (Tryd.prog.info? 34).map (·.size) = some 1 := by kernel_rfl
theorem wrap_mid {z : Int} (h1 : -9223372036854775808 ≤ z) (h2 : z ≤ 9223372036854775807) : IntKind.i64.wrap z = z := by
  unfold IntKind.wrap
  simp [IntKind.signed, IntKind.bits]
  omega
theorem P.qRw_le (q : P.Qs) : (P.qRw q).2.1.length ≤ q.1.length := Nat.le_trans (P.qL_le _) (P.qA_le q)
theorem P.qEv_le (q : P.Qs) : (P.qEv q).2.1.length ≤ q.1.length := Nat.le_trans (P.qN_le _) (Nat.le_trans (P.qN_le _) (Nat.le_trans (P.qO_le _) (P.qB_le 1 4 q)))
theorem P.qList_le {α : Type} (f : P.Qs → α × P.Qs) (hf : ∀ q, (f q).2.1.length ≤ q.1.length) : ∀ k q, (P.qList f k q).2.1.length ≤ q.1.length
  | 0, q => Nat.le_refl _
  | k + 1, q => Nat.le_trans (hf _) (P.qList_le f hf k q)
theorem P.qB_most (lo hi : Nat) (q : P.Qs) : (P.qB lo hi q).1 ≤ hi := by
  unfold P.qB
  split
  · split
    · rename_i h; exact h.2
    · exact Nat.zero_le _
  · exact Nat.zero_le _
set_option maxRecDepth 100000 in
set_option maxHeartbeats 16000000 in
theorem told_clock (op : Nat) (hop : op = 15) : ToldOk op := by
  intro g q w hs hx
  have hlt := hx.lt
  have hA := (Below.refl w.heap.size w).alloc (Nat.le_refl _) (.cells #[.int .u8 0, .int .u64 0, .int .u64 0, .string ⟨#[]⟩, .int .u64 0, .int .u8 0, .int .u64 0, .int .u64 0, .int .i64 0, .bool false, .bool false, .bool false, .int .u64 0, .slice none 0 0, .slice none 0 0, .slice none 0 0] 36)
  have hz0 := Bx.fresh w 36 #[.int .u8 0, .int .u64 0, .int .u64 0, .string ⟨#[]⟩, .int .u64 0, .int .u8 0, .int .u64 0, .int .u64 0, .int .i64 0, .bool false, .bool false, .bool false, .int .u64 0, .slice none 0 0, .slice none 0 0, .slice none 0 0]
  have hx0 := hx.up hA
  have hne : w.heap.size ≠ g := by omega
  have HN := Lib.hid (fun wx (h : RdX wx g q) => number_any g q wx (by omega) h)
  have Hk := Lib.hid (show P.qTold op q = ({ P.noAn with clock := (P.qN q).1 }, (P.qN q).2) by rw [hop]; rfl)
  generalize P.qN q = nn at *
  obtain ⟨n, q1⟩ := nn
  simp only at HN Hk
  have t5 : ((op : Int) == 5) = false := beq_eq_false_iff_ne.2 (by omega)
  have t6 : ((op : Int) == 6) = false := beq_eq_false_iff_ne.2 (by omega)
  have t7 : ((op : Int) == 7) = false := beq_eq_false_iff_ne.2 (by omega)
  have t10 : ((op : Int) == 10) = false := beq_eq_false_iff_ne.2 (by omega)
  have t11 : ((op : Int) == 11) = false := beq_eq_false_iff_ne.2 (by omega)
  have t12 : ((op : Int) == 12) = false := beq_eq_false_iff_ne.2 (by omega)
  have t13 : ((op : Int) == 13) = false := beq_eq_false_iff_ne.2 (by omega)
  have t14 : ((op : Int) == 14) = false := beq_eq_false_iff_ne.2 (by omega)
  have t15 : ((op : Int) == 15) = true := beq_iff_eq.2 (by omega)
  clear hop
  go_enter Tryd.func67, Tryd.ntmps67
  go_wp2_with (first
    | (go_at_call 54; (with_reducible refine (HN.out _ hx0).mono ?_); rintro e w1 ⟨rfl, hx1, hb1⟩; have hz1 := hz0.but hb1 hne)
    | (refine wpList_stV (by rfl) _ _ _ (by rfl) hz1 _ _ (by rfl) (by rfl) (by rfl) (by rfl) 16 (by rfl) (by decide) infoU64 (by rfl) ?_; intro w2 hz' hbw2; have hzw2 : Bx w2 w.heap.size 36 #[.int .u8 0, .int .u64 0, .int .u64 0, .string ⟨#[]⟩, .int .u64 0, .int .u8 0, .int .u64 0, .int .u64 0, .int .i64 0, .bool false, .bool false, .bool false, V64 n, .slice none 0 0, .slice none 0 0, .slice none 0 0] := hz'; clear hz'; have hxw2 := Bx.but hx1 hbw2 (Ne.symm hne))
    | (refine wpList_ldB (by rfl) _ _ (by rfl) hzw2 (by rfl) structAns 16 infoAns (by rfl) ?_)
    | (refine wpList_stB (by rfl) _ _ _ (by rfl) hzw2 _ _ (by rfl) (by rfl) 16 16 (by rfl) (by rfl) (by decide) infoAns (by rfl) (by rfl) ?_; intro w3 hz' hbw3; have hzw3 : Bx w3 w.heap.size 36 #[.int .u8 0, .int .u64 0, .int .u64 0, .string ⟨#[]⟩, .int .u64 0, .int .u8 0, .int .u64 0, .int .u64 0, .int .i64 0, .bool false, .bool false, .bool false, V64 n, .slice none 0 0, .slice none 0 0, .slice none 0 0] := hz'; clear hz'; have hxw3 := Bx.but hxw2 hbw3 (Ne.symm hne)))
  exact bodyPost_ret (results_box rfl (by rfl) (loadB hzw3 structAns infoAns rfl)) rfl ⟨none, 0, none, 0, none, 0, by rw [Hk.out]; rfl, by rw [Hk.out]; exact OwnAns.none _ _ _ rfl rfl rfl, by rw [Hk.out]; exact hxw3, (((But.of hA).trans hb1).after hbw2 (Nat.le_refl _)).after hbw3 (Nat.le_refl _)⟩
set_option maxRecDepth 100000 in
set_option maxHeartbeats 16000000 in
theorem told_other (op : Nat) (hop : ¬ (5 ≤ op ∧ op ≤ 7) ∧ ¬ (10 ≤ op ∧ op ≤ 15)) : ToldOk op := by
  intro g q w hs hx
  have hlt := hx.lt
  have hA := (Below.refl w.heap.size w).alloc (Nat.le_refl _) (.cells #[.int .u8 0, .int .u64 0, .int .u64 0, .string ⟨#[]⟩, .int .u64 0, .int .u8 0, .int .u64 0, .int .u64 0, .int .i64 0, .bool false, .bool false, .bool false, .int .u64 0, .slice none 0 0, .slice none 0 0, .slice none 0 0] 36)
  have hz0 := Bx.fresh w 36 #[.int .u8 0, .int .u64 0, .int .u64 0, .string ⟨#[]⟩, .int .u64 0, .int .u8 0, .int .u64 0, .int .u64 0, .int .i64 0, .bool false, .bool false, .bool false, .int .u64 0, .slice none 0 0, .slice none 0 0, .slice none 0 0]
  have hx0 := hx.up hA
  have hne : w.heap.size ≠ g := by omega
  have Hk := Lib.hid (show P.qTold op q = (P.noAn, q) by unfold P.qTold; rw [if_neg hop.1, if_neg (by omega), if_neg (by omega), if_neg (by omega), if_neg (by omega), if_neg (by omega)])
  have t5 : ((op : Int) == 5) = false := beq_eq_false_iff_ne.2 (by omega)
  have t6 : ((op : Int) == 6) = false := beq_eq_false_iff_ne.2 (by omega)
  have t7 : ((op : Int) == 7) = false := beq_eq_false_iff_ne.2 (by omega)
  have t10 : ((op : Int) == 10) = false := beq_eq_false_iff_ne.2 (by omega)
  have t11 : ((op : Int) == 11) = false := beq_eq_false_iff_ne.2 (by omega)
  have t12 : ((op : Int) == 12) = false := beq_eq_false_iff_ne.2 (by omega)
  have t13 : ((op : Int) == 13) = false := beq_eq_false_iff_ne.2 (by omega)
  have t14 : ((op : Int) == 14) = false := beq_eq_false_iff_ne.2 (by omega)
  have t15 : ((op : Int) == 15) = false := beq_eq_false_iff_ne.2 (by omega)
  clear hop
  go_enter Tryd.func67, Tryd.ntmps67
  go_wp2_with (first
    | (refine wpList_ldB (by rfl) _ _ (by rfl) hz0 (by rfl) structAns 16 infoAns (by rfl) ?_)
    | (refine wpList_stB (by rfl) _ _ _ (by rfl) hz0 _ _ (by rfl) (by rfl) 16 16 (by rfl) (by rfl) (by decide) infoAns (by rfl) (by rfl) ?_; intro w3 hz' hbw3; have hzw3 : Bx w3 w.heap.size 36 #[.int .u8 0, .int .u64 0, .int .u64 0, .string ⟨#[]⟩, .int .u64 0, .int .u8 0, .int .u64 0, .int .u64 0, .int .i64 0, .bool false, .bool false, .bool false, .int .u64 0, .slice none 0 0, .slice none 0 0, .slice none 0 0] := hz'; clear hz'; have hxw3 := Bx.but hx0 hbw3 (Ne.symm hne)))
  exact bodyPost_ret (results_box rfl (by rfl) (loadB hzw3 structAns infoAns rfl)) rfl ⟨none, 0, none, 0, none, 0, by rw [Hk.out]; rfl, by rw [Hk.out]; exact OwnAns.none _ _ _ rfl rfl rfl, by rw [Hk.out]; exact hxw3, (But.of hA).after hbw3 (Nat.le_refl _)⟩
end Go.Proofs.YtcobfoiajdbahaaDoor
