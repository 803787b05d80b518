/- The walk of awake: it answers true. -/
import Derived.Test.YtcobfoiajdbahaaDoorWBigP
namespace Go.Proofs.YtcobfoiajdbahaaDoor
open Go.RowKit
set_option linter.unusedVariables false

theorem aw_rv : P.rNum [249, 1, 0, 122] = 256 ∧ P.rSize [249, 1, 0, 122] = 3 ∧ P.rOk [249, 1, 0, 122] = true := by decide
theorem aw_rt : P.tText [2, 97, 98, 99] 2 = [97, 98] ∧ P.tSize [2, 97, 98, 99] 2 = 3 ∧ P.tOk [2, 97, 98, 99] 2 = true := by decide
theorem aw_big : P.bigS 258 3 = [0, 1, 2] ∧ P.bigE 258 3 = 0 := by decide
theorem aw_var : P.vars [0, 247, 248] = [0, 247, 248, 248] := by decide
theorem nums_new (w : World) (ns : List Nat) (cs : Array Value) (t : TypeId) (h : cs = (ns.map V64).toArray) : NumsAt (w.alloc (.cells cs t)) (some ⟨w.heap.size, 0, none⟩) ns := by
  intro i hi
  subst h
  refine ⟨w.heap.size, 0, rfl, by simp, ?_⟩
  rw [World.cell?_alloc_new]
  simp [hi]

end Go.Proofs.YtcobfoiajdbahaaDoor
