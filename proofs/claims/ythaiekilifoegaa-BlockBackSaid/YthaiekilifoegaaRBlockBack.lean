/- BlockBack, proved: for every input the law returns true. -/
import Derived.Test.YthaiekilifoegaaLift
import Derived.Test.YthaiekilifoegaaLBlockBack
import Derived.Test.YthaiekilifoegaaOpenA
import Derived.Lib.SmallJoins
import Derived.SliceStrings
namespace Go.Proofs.Ythaiekilifoegaa.blockBack
open Go.ChangeShapes Go.WideShapes Go.ChangeAt Go.RowKit Go.Joins
open Go.ChangeMaps (open_string shut_string)

set_option maxRecDepth 100000 in
theorem lifted (os : Os) (started : os.Started) (H : Type) (enc : TypeId × Value → H) :
    ReturnsInHanded {} Try.checked os 6 .any (Rows.blockBackSpec.pre6 enc Try.prog Try.f6 [] false)
      (Rows.blockBackSpec.post enc Try.prog Try.f6 false true false false) := by
  refine lift_plain (C := Try.checked) own laidOut started (by kernel_rfl) Try.func6
    (ChangeSpec.witness6 (enc := enc) (C := Try.checked) false ⟨#[], #[.slice none 0 0, .string ByteArray.empty], []⟩ 8 (by kernel_rfl) (by kernel_rfl) (by kernel_rfl) (by kernel_rfl))
    (by kernel_rfl) rfl rfl Try.underlying4 (fun ds h => ?_) (fun W base args ds ps hval hA => ?_)
  · match ds, h with
    | [d0, d1], _ => rfl
  · have hval' : ∀ (j : Nat) t v, Try.f6.params[j]? = some t → args[j]? = some v → Value.okWide Try.prog W .any base t v := hval
    have hA' : DataW.TrodAll enc Try.prog W 0 (fun _ => true) true Try.f6.params.toList args.toList ds ps := hA
    rw [Try.params6] at hA' hval'
    obtain ⟨v0, v1, d0, d1, p0, p1, rfl, rfl, rfl, h0, h1⟩ := trodAll_two hA'
    obtain ⟨a0, n0, c0, rfl⟩ := okWide_slice Try.underlying38 (hval' 0 38 v0 rfl rfl)
    obtain ⟨x0, b0, y0, s0, k0⟩ := open_acts h0
    obtain ⟨⟨⟨x1⟩⟩, rfl, rfl, rfl, w1⟩ := open_string Try.underlying9 (hval' 1 9 v1 rfl rfl) h1
    exact ⟨rfl, law_back x0 a0 n0 c0 x1 W b0 y0 s0 k0 (by have h := w1; unfold maxLen at h; exact h)⟩

theorem row : Rows.BlockBackSaid :=
  OpenClaim.holds_of_wide 6 Try.f6 rfl rfl rfl rfl rfl rfl rfl ⟨rfl, rfl, rfl, rfl, rfl⟩ rfl rfl rfl rfl rfl (by kernel_rfl) Try.func6 (by kernel_rfl)
    (of_decide_eq_true (by kernel_rfl)) (by unfold Func.isWrapper; rw [if_neg (of_decide_eq_false (by kernel_rfl))]; exact ⟨rfl, rfl⟩)
    (fun os started H enc _ => lifted os started H enc)

theorem proved : Rows.BlockBackSaid := row
#print axioms proved
end Go.Proofs.Ythaiekilifoegaa.blockBack
