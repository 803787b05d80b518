/- The walks of cell.may and the reference's May: both are P.may. -/
import Derived.Test.YtmfabbncoekjhaaDoorProg
import Derived.Test.YtmfabbncoekjhaaDoorWords
import Derived.Test.YtmfabbncoekjhaaDoorPCell
import Derived.Deep.Light
namespace Go.Proofs.YtmfabbncoekjhaaDoor
open Go.RowKit

/-- A cell as a value. -/
abbrev cellV (c : P.Cell) : Value := .agg #[.bool c.first, .bool c.last, .int .i64 c.num, S c.data]
abbrev cellCs (c : P.Cell) : Array Value := #[.bool c.first, .bool c.last, .int .i64 c.num, S c.data]

theorem ret_bool {a b : Bool} (h : a = b) : Ending.returned (.bool a) = .returned (.bool b) := by rw [h]

set_option maxHeartbeats 400000 in
theorem may_any (f l : Bool) (n : Int) (d : List UInt8) (w : World) (hd : d.length ≤ 9223372036854775807) :
    Calls Tryd.prog 29 #[.agg #[.bool f, .bool l, .int .i64 n, S d]] w fun e w' => e = .returned (.bool (P.may ⟨f, l, n, d⟩)) ∧ Below w.heap.size w w' := by
  by_cases h0 : d = []
  · subst h0
    go_enter Tryd.func29, Tryd.ntmps29
    go_wp2
    all_goals
      go_ret
      refine ⟨ret_bool ?_, by go_grown⟩
      go_light
      by_cases hn0 : n = 0 <;> cases f <;> cases l <;> simp_all [P.may] <;> (first | omega | (rw [Bool.eq_iff_iff]; simp; omega))
  · have h1 : 0 < d.length := List.length_pos_iff.2 h0
    clear h0
    go_enter Tryd.func29, Tryd.ntmps29
    go_wp2
    all_goals
      go_ret
      refine ⟨ret_bool ?_, by go_grown⟩
      go_light
      by_cases hn0 : n = 0 <;> cases f <;> cases l <;> simp_all [P.may] <;> (first | omega | (rw [Bool.eq_iff_iff]; simp; omega))

end Go.Proofs.YtmfabbncoekjhaaDoor
