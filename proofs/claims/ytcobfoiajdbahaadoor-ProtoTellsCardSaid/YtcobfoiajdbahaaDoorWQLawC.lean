/- The walk of Great, of a call beside no answer; texts of the law. -/
import Derived.Test.YtcobfoiajdbahaaDoorWQAwake
namespace Go.Proofs.YtcobfoiajdbahaaDoor
open Go.RowKit
set_option linter.unusedVariables false
set_option linter.unusedSimpArgs false
def P.greatC (x : P.Ca) : Bool := decide (2000 < x.owner.length) || decide (2000 < x.to.length)
theorem P.greatC_no {x : P.Ca} (h : P.greatC x = false) : x.owner.length ≤ 2000 ∧ x.to.length ≤ 2000 := by
  unfold P.greatC at h
  simp only [Bool.or_eq_false_iff, decide_eq_false_iff_not] at h
  omega
end Go.Proofs.YtcobfoiajdbahaaDoor
