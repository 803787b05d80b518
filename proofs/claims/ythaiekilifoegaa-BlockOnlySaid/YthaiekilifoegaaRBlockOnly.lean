/- BlockOnly, proved: for every input the law returns true. -/
import Derived.Test.YthaiekilifoegaaLift
import Derived.Test.YthaiekilifoegaaLBlockOnly
import Derived.Lib.SmallJoins
import Derived.SliceStrings
namespace Go.Proofs.Ythaiekilifoegaa.blockOnly
open Go.ChangeShapes Go.WideShapes Go.ChangeAt Go.RowKit Go.Joins
open Go.ChangeMaps (open_string shut_string)

set_option maxRecDepth 100000 in
theorem lifted (os : Os) (started : os.Started) (H : Type) (enc : TypeId × Value → H) :
    ReturnsInHanded {} Try.checked os 7 .any (Rows.blockOnlySpec.pre6 enc Try.prog Try.f7 [] false)
      (Rows.blockOnlySpec.post enc Try.prog Try.f7 false true false false) := by
  refine lift_plain (C := Try.checked) own laidOut started (by kernel_rfl) Try.func7
    (ChangeSpec.witness6 (enc := enc) (C := Try.checked) false ⟨#[], #[.string ByteArray.empty], []⟩ 8 (by kernel_rfl) (by kernel_rfl) (by kernel_rfl) (by kernel_rfl))
    (by kernel_rfl) rfl rfl Try.underlying4 (fun ds h => ?_) (fun W base args ds ps hval hA => ?_)
  · match ds, h with
    | [d0], _ => rfl
  · have hval' : ∀ (j : Nat) t v, Try.f7.params[j]? = some t → args[j]? = some v → Value.okWide Try.prog W .any base t v := hval
    have hA' : DataW.TrodAll enc Try.prog W 0 (fun _ => true) true Try.f7.params.toList args.toList ds ps := hA
    rw [Try.params7] at hA' hval'
    obtain ⟨v0, d0, rfl, rfl, h0⟩ := trodAll_one hA'
    obtain ⟨⟨⟨x0⟩⟩, rfl, rfl, rfl, w0⟩ := open_string Try.underlying9 (hval' 0 9 v0 rfl rfl) h0
    exact ⟨rfl, law_only x0 W (by have h := w0; unfold maxLen at h; exact h)⟩

theorem row : Rows.BlockOnlySaid :=
  OpenClaim.holds_of_wide 7 Try.f7 rfl rfl rfl rfl rfl rfl rfl ⟨rfl, rfl, rfl, rfl, rfl⟩ rfl rfl rfl rfl rfl (by kernel_rfl) Try.func7 (by kernel_rfl)
    (of_decide_eq_true (by kernel_rfl)) (by unfold Func.isWrapper; rw [if_neg (of_decide_eq_false (by kernel_rfl))]; exact ⟨rfl, rfl⟩)
    (fun os started H enc _ => lifted os started H enc)

theorem proved : Rows.BlockOnlySaid := row
#print axioms proved
end Go.Proofs.Ythaiekilifoegaa.blockOnly
