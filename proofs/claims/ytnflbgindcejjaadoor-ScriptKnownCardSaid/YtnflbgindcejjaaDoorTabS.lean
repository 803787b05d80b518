/- The listed sentinel and the witness' world. -/
import Derived.Test.YtnflbgindcejjaaDoorLift
import Derived.MakeChecks
namespace Go.Proofs.YtnflbgindcejjaaDoor
open Go.RowKit

abbrev tabL : List (String × DataW Unit) := [("bytes.ErrTooLarge", Rows.laid_bytes_ErrTooLarge)]
set_option maxRecDepth 100000 in
theorem tab_met (os : Os) (args : Array Value) : laidMetH Tryd.prog tabL ((World.doorLaid Tryd.prog 200 os).forCall (fun _ _ => 0) ⟨#[], args, []⟩).memory :=
  laidMetH_of_parts3 (fuel := 8) (laidMet_of_run' 8 (by kernel_rfl) (by kernel_rfl)) (by kernel_rfl) (by kernel_rfl)
end Go.Proofs.YtnflbgindcejjaaDoor
