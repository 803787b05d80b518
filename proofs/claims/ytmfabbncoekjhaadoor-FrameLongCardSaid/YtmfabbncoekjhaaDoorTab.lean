/- From the row's condition on the listed table to what the walks ask; the witness' world. -/
import Derived.Test.YtmfabbncoekjhaaDoorLift
import Derived.Test.YtmfabbncoekjhaaDoorWCrc
import Derived.MakeChecks
namespace Go.Proofs.YtmfabbncoekjhaaDoor
open Go.RowKit

abbrev tabL : List (String × DataW Unit) := [("copyhold/cell.table", Rows.laid_copyhold_cell_table)]
def tabZs : List Int := [0, 498536548, 997073096, 651767980, 1994146192, 1802195444, 1303535960, 1342533948, 3988292384, 4027552580, 3604390888, 3412177804, 2607071920, 2262029012, 2685067896, 3183342108]
theorem tab_data : (Rows.laid_copyhold_cell_table : DataW Unit) = Lib.tabData .u32 tabZs := rfl
theorem tab_zs : ∀ i : Fin 16, n32 (P.tabAt i.val) = tabZs.getD i.val 0 := by decide
theorem gTab : Tryd.prog.globalNamed "copyhold/cell.table" = some 0 := by kernel_rfl
theorem tTab : (Tryd.prog.globals[0]?).map (·.type) = some 69 := by kernel_rfl
theorem cells_u32 : Tryd.prog.cellsOf 35 = 1 := by kernel_rfl
theorem cells_tab : Tryd.prog.cellsOf 69 = 16 := by kernel_rfl

theorem tab_of_laid {W : World} (h : laidMetH Tryd.prog tabL W) : TabOk W := by
  rw [MakeChecks.laidMetH_plain _ _ _ (by kernel_rfl)] at h
  have h' : laidMet Tryd.prog (("copyhold/cell.table", Lib.tabData .u32 tabZs) :: []) W := h
  have hT := Lib.tabIs_of_head gTab tTab Tryd.underlying69 Tryd.underlying35 cells_u32 cells_tab h'
  have hc : ∀ i, i < 16 → W.cell? ⟨0, i, none⟩ = some (W32 (P.tabAt i)) := fun i hi => by
    rw [hT.cell gTab i hi, ← tab_zs ⟨i, hi⟩]
  exact ⟨World.block_lt_of_cell? W ⟨0, 0, none⟩ (hc 0 (by omega)), hc⟩

theorem tab_met (os : Os) (args : Array Value) : laidMetH Tryd.prog tabL ((World.doorLaid Tryd.prog 14 os).forCall (fun _ _ => 0) ⟨#[], args, []⟩).memory :=
  laidMetH_of_parts3 (fuel := 8) (laidMet_of_run' 8 (by kernel_rfl) (by kernel_rfl)) (by kernel_rfl) (by kernel_rfl)
end Go.Proofs.YtmfabbncoekjhaaDoor
