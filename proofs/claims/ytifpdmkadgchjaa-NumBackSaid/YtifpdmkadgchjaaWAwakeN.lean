/- The walk of awake: it answers true. -/
import Derived.Test.YtifpdmkadgchjaaWBigP
namespace Go.Proofs.Ytifpdmkadgchjaa
open Go.RowKit
set_option linter.unusedVariables false

theorem aw_rv : P.rNum [249, 1, 0, 122] = 256 ∧ P.rSize [249, 1, 0, 122] = 3 ∧ P.rOk [249, 1, 0, 122] = true := by decide
theorem aw_rt : P.tText [2, 97, 98, 99] 2 = [97, 98] ∧ P.tSize [2, 97, 98, 99] 2 = 3 ∧ P.tOk [2, 97, 98, 99] 2 = true := by decide
theorem aw_big : P.bigS 258 3 = [0, 1, 2] ∧ P.bigE 258 3 = 0 := by decide
theorem aw_var : P.vars [0, 247, 248] = [0, 247, 248, 248] := by decide
theorem nums_new (w : World) (ns : List Nat) (cs : Array Value) (t : TypeId) (h : cs = (ns.map V64).toArray) : NumsAt (w.alloc (.cells cs t)) (some ⟨w.heap.size, 0, none⟩) ns := by
  intro i hi
  subst h
  refine ⟨w.heap.size, 0, rfl, by simp, ?_⟩
  rw [World.cell?_alloc_new]
  simp [hi]

set_option maxRecDepth 100000 in
set_option maxHeartbeats 2000000 in
theorem awake_any (w : World) : Calls Try.prog 16 #[] w fun e w' => e = .returned (.bool true) ∧ Below w.heap.size w w' := by
  have H1 := Lib.hid (fun w => readVar_any [249, 1, 0, 122] w (by decide))
  have H2 := Lib.hid (fun w => readText_any [2, 97, 98, 99] 2 w (by decide) (by decide) (by decide))
  have H3 := Lib.hid (fun w => bigPut_any 258 3 w (by decide) (by decide) (by decide))
  have H4 := Lib.hid (fun (w : World) => var_any (some ⟨w.heap.size, 0, none⟩) 3 [0, 247, 248] (w.alloc (.cells #[V64 0, V64 247, V64 248] 22)) (by decide) (by decide) (nums_new w _ _ _ rfl))
  rw [aw_rv.1, aw_rv.2.1, aw_rv.2.2] at H1
  rw [aw_rt.1, aw_rt.2.1, aw_rt.2.2] at H2
  rw [aw_big.1, aw_big.2] at H3
  rw [aw_var] at H4
  go_enter Try.func16, Try.ntmps16
  go_wp2_with (first
    | (go_at_call 10; refine (H1.out _).mono ?_; rintro e w1 ⟨rfl, hb1⟩)
    | (go_at_call 14; refine (H2.out _).mono ?_; rintro e w2 ⟨rfl, hb2⟩)
    | (go_at_call 18; refine (H3.out _).mono ?_; rintro e w3 ⟨rfl, hb3⟩)
    | (go_at_call 17; refine (H4.out _).mono ?_; rintro e w4 ⟨rfl, hb4⟩))
  go_ret
  exact ⟨rfl, (((hb1.trans (hb2.mono hb1.size)).trans (hb3.mono (Nat.le_trans hb1.size hb2.size))).alloc (Nat.le_trans hb1.size (Nat.le_trans hb2.size hb3.size)) _).trans (hb4.mono (by have := hb1.size; have := hb2.size; have := hb3.size; simp; omega))⟩
end Go.Proofs.Ytifpdmkadgchjaa
