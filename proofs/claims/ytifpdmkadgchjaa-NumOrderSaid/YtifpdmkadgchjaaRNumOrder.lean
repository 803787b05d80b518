/- NumOrder, proved: for every input the law returns true. -/
import Derived.Test.YtifpdmkadgchjaaLift
import Derived.Test.YtifpdmkadgchjaaLNumOrder
import Derived.Lib.SmallJoins
import Derived.SliceStrings
namespace Go.Proofs.Ytifpdmkadgchjaa.numOrder
open Go.ChangeShapes Go.WideShapes Go.ChangeAt Go.RowKit Go.Joins
open Go.ChangeMaps (open_string shut_string)

set_option maxRecDepth 100000 in
theorem lifted (os : Os) (started : os.Started) (H : Type) (enc : TypeId × Value → H) :
    ReturnsInHanded {} Try.checked os 4 .any (Rows.numOrderSpec.pre6 enc Try.prog Try.f4 [] false)
      (Rows.numOrderSpec.post enc Try.prog Try.f4 false true false false) := by
  refine lift_plain (C := Try.checked) own laidOut started (by kernel_rfl) Try.func4
    (ChangeSpec.witness6 (enc := enc) (C := Try.checked) false ⟨#[], #[.int .u64 0, .int .u64 0, .string ByteArray.empty, .string ByteArray.empty], []⟩ 8 (by kernel_rfl) (by kernel_rfl) (by kernel_rfl) (by kernel_rfl))
    (by kernel_rfl) rfl rfl Try.underlying4 (fun ds h => ?_) (fun W base args ds ps hval hA => ?_)
  · match ds, h with
    | [d0, d1, d2, d3], _ => rfl
  · have hval' : ∀ (j : Nat) t v, Try.f4.params[j]? = some t → args[j]? = some v → Value.okWide Try.prog W .any base t v := hval
    have hA' : DataW.TrodAll enc Try.prog W 0 (fun _ => true) true Try.f4.params.toList args.toList ds ps := hA
    rw [Try.params4] at hA' hval'
    obtain ⟨v0, v1, v2, v3, d0, d1, d2, d3, p0, p1, p2, p3, rfl, rfl, rfl, h0, h1, h2, h3⟩ := trodAll_four hA'
    obtain ⟨x0, rfl, rfl, rfl, w0⟩ := open_int Try.underlying22 (hval' 0 22 v0 rfl rfl) h0
    obtain ⟨x1, rfl, rfl, rfl, w1⟩ := open_int Try.underlying22 (hval' 1 22 v1 rfl rfl) h1
    obtain ⟨⟨⟨x2⟩⟩, rfl, rfl, rfl, w2⟩ := open_string Try.underlying9 (hval' 2 9 v2 rfl rfl) h2
    obtain ⟨⟨⟨x3⟩⟩, rfl, rfl, rfl, w3⟩ := open_string Try.underlying9 (hval' 3 9 v3 rfl rfl) h3
    exact ⟨rfl, law_order' x0 x1 x2 x3 W w0 w1 (by have h := w2; unfold maxLen at h; exact h) (by have h := w3; unfold maxLen at h; exact h)⟩

theorem row : Rows.NumOrderSaid :=
  OpenClaim.holds_of_wide 4 Try.f4 rfl rfl rfl rfl rfl rfl rfl ⟨rfl, rfl, rfl, rfl, rfl⟩ rfl rfl rfl rfl rfl (by kernel_rfl) Try.func4 (by kernel_rfl)
    (of_decide_eq_true (by kernel_rfl)) (by unfold Func.isWrapper; rw [if_neg (of_decide_eq_false (by kernel_rfl))]; exact ⟨rfl, rfl⟩)
    (fun os started H enc _ => lifted os started H enc)

theorem proved : Rows.NumOrderSaid := row
#print axioms proved
end Go.Proofs.Ytifpdmkadgchjaa.numOrder
