/- BlockKnown, proved: for every input the law returns true. -/
import Derived.Test.YthaiekilifoegaaLift
import Derived.Test.YthaiekilifoegaaLBlockKnown
import Derived.Lib.SmallJoins
import Derived.SliceStrings
namespace Go.Proofs.Ythaiekilifoegaa.blockKnown
open Go.ChangeShapes Go.WideShapes Go.ChangeAt Go.RowKit Go.Joins
open Go.ChangeMaps (open_string shut_string)

set_option maxRecDepth 100000 in
theorem lifted (os : Os) (started : os.Started) (H : Type) (enc : TypeId × Value → H) :
    ReturnsInHanded {} Try.checked os 3 .any (Rows.blockKnownSpec.pre6 enc Try.prog Try.f3 [] false)
      (Rows.blockKnownSpec.post enc Try.prog Try.f3 false true false false) := by
  refine lift_plain (C := Try.checked) own laidOut started (by kernel_rfl) Try.func3
    (ChangeSpec.witness6 (enc := enc) (C := Try.checked) false ⟨#[], #[], []⟩ 8 (by kernel_rfl) (by kernel_rfl) (by kernel_rfl) (by kernel_rfl))
    (by kernel_rfl) rfl rfl Try.underlying4 (fun ds h => ?_) (fun W base args ds ps hval hA => ?_)
  · match ds, h with
    | [], _ => rfl
  · have hA' : DataW.TrodAll enc Try.prog W 0 (fun _ => true) true Try.f3.params.toList args.toList ds ps := hA
    rw [Try.params3] at hA'
    obtain ⟨rfl, rfl, rfl⟩ := trodAll_none hA'
    exact ⟨rfl, law_known W⟩

theorem row : Rows.BlockKnownSaid :=
  OpenClaim.holds_of_wide 3 Try.f3 rfl rfl rfl rfl rfl rfl rfl ⟨rfl, rfl, rfl, rfl, rfl⟩ rfl rfl rfl rfl rfl (by kernel_rfl) Try.func3 (by kernel_rfl)
    (of_decide_eq_true (by kernel_rfl)) (by unfold Func.isWrapper; rw [if_neg (of_decide_eq_false (by kernel_rfl))]; exact ⟨rfl, rfl⟩)
    (fun os started H enc _ => lifted os started H enc)

theorem proved : Rows.BlockKnownSaid := row
#print axioms proved
end Go.Proofs.Ythaiekilifoegaa.blockKnown
