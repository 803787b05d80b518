/- From the row's condition on the listed table to what the walks ask; the witness' world. -/
import Derived.Test.YtcobfoiajdbahaaDoorLift
import Derived.Test.YtcobfoiajdbahaaDoorWQWrite
import Derived.MakeChecks
namespace Go.Proofs.YtcobfoiajdbahaaDoor
open Go.RowKit
abbrev tabL : List (String × DataW Unit) := [("copyhold/proto.uses", Rows.laid_copyhold_proto_uses)]
def tabZs : List Int := [0, 1, 1, 1, 1, 22, 21, 22, 6, 14, 2, 67, 98, 65, 65, 0]
theorem tab_zs : ∀ i : Fin 16, ((P.uses i.val : Nat) : Int) = tabZs.getD i.val 0 := by decide
theorem gTab : Tryd.prog.globalNamed "copyhold/proto.uses" = some 0 := by kernel_rfl
theorem tTab : (Tryd.prog.globals[0]?).map (·.type) = some 90 := by kernel_rfl
theorem cells_int : Tryd.prog.cellsOf 3 = 1 := by kernel_rfl
theorem cells_tab : Tryd.prog.cellsOf 90 = 16 := by kernel_rfl
theorem tab_of_laid {W : World} (h : laidMetH Tryd.prog tabL W) : UsesOk W := by
  rw [MakeChecks.laidMetH_plain _ _ _ (by kernel_rfl)] at h
  have h' : laidMet Tryd.prog (("copyhold/proto.uses", Lib.tabData .i64 tabZs) :: []) W := h
  have hT := Lib.tabIs_of_head gTab tTab Tryd.underlying90 Tryd.underlying3 cells_int cells_tab h'
  have hc : ∀ i, i < 16 → W.cell? ⟨0, i, none⟩ = some (.int .i64 ((P.uses i : Nat) : Int)) := fun i hi => by
    rw [hT.cell gTab i hi, ← tab_zs ⟨i, hi⟩]
  exact ⟨World.block_lt_of_cell? W ⟨0, 0, none⟩ (hc 0 (by omega)), hc⟩
theorem tab_met (os : Os) (args : Array Value) : laidMetH Tryd.prog tabL ((World.doorLaid Tryd.prog 14 os).forCall (fun _ _ => 0) ⟨#[], args, []⟩).memory :=
  laidMetH_of_parts3 (fuel := 8) (laidMet_of_run' 8 (by kernel_rfl) (by kernel_rfl)) (by kernel_rfl) (by kernel_rfl)
end Go.Proofs.YtcobfoiajdbahaaDoor
