/- EditBack, proved: for every input the law returns true. -/
import Derived.Test.YthpgigjplknomaaLift
import Derived.Test.YthpgigjplknomaaLEditBack
import Derived.Test.YthpgigjplknomaaOpenE
import Derived.Lib.SmallJoins
import Derived.SliceStrings
namespace Go.Proofs.Ythpgigjplknomaa.editBack
open Go.ChangeShapes Go.WideShapes Go.ChangeAt Go.RowKit Go.Joins
open Go.ChangeMaps (open_string shut_string)

set_option maxRecDepth 100000 in
theorem lifted (os : Os) (started : os.Started) (H : Type) (enc : TypeId × Value → H) :
    ReturnsInHanded {} Try.checked os 9 .any (Rows.editBackSpec.pre6 enc Try.prog Try.f9 [] false)
      (Rows.editBackSpec.post enc Try.prog Try.f9 false true false false) := by
  refine lift_plain (C := Try.checked) own laidOut started (by kernel_rfl) Try.func9
    (ChangeSpec.witness6 (enc := enc) (C := Try.checked) false ⟨#[], #[.agg #[.slice none 0 0, .slice none 0 0, .int .u64 0, .int .u64 0, .int .u64 0], .int .u16 0, .string ByteArray.empty], []⟩ 8 (by kernel_rfl) (by kernel_rfl) (by kernel_rfl) (by kernel_rfl))
    (by kernel_rfl) rfl rfl Try.underlying4 (fun ds h => ?_) (fun W base args ds ps hval hA => ?_)
  · match ds, h with
    | [d0, d1, d2], _ => rfl
  · have hval' : ∀ (j : Nat) t v, Try.f9.params[j]? = some t → args[j]? = some v → Value.okWide Try.prog W .any base t v := hval
    have hA' : DataW.TrodAll enc Try.prog W 0 (fun _ => true) true Try.f9.params.toList args.toList ds ps := hA
    rw [Try.params9] at hA' hval'
    obtain ⟨v0, v1, v2, d0, d1, d2, p0, p1, p2, rfl, rfl, rfl, h0, h1, h2⟩ := trodAll_three hA'
    obtain ⟨x0, a0, b0, c0, e0, rfl, k0, m0, _, y0, s0⟩ := open_edit (hval' 0 29 v0 rfl rfl) h0
    obtain ⟨x1, rfl, rfl, rfl, w1⟩ := open_int Try.underlying57 (hval' 1 57 v1 rfl rfl) h1
    obtain ⟨⟨⟨x2⟩⟩, rfl, rfl, rfl, w2⟩ := open_string Try.underlying9 (hval' 2 9 v2 rfl rfl) h2
    exact ⟨rfl, law_back x0 a0 b0 c0 e0 x1 x2 W k0 m0 s0 y0 w1 (by have h := w2; unfold maxLen at h; exact h)⟩

theorem row : Rows.EditBackSaid :=
  OpenClaim.holds_of_wide 9 Try.f9 rfl rfl rfl rfl rfl rfl rfl ⟨rfl, rfl, rfl, rfl, rfl⟩ rfl rfl rfl rfl rfl (by kernel_rfl) Try.func9 (by kernel_rfl)
    (of_decide_eq_true (by kernel_rfl)) (by unfold Func.isWrapper; rw [if_neg (of_decide_eq_false (by kernel_rfl))]; exact ⟨rfl, rfl⟩)
    (fun os started H enc _ => lifted os started H enc)

theorem proved : Rows.EditBackSaid := row
#print axioms proved
end Go.Proofs.Ythpgigjplknomaa.editBack
