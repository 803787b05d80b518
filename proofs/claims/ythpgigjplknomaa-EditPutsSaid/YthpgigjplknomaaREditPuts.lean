/- EditPuts, proved: for every input the law returns true. -/
import Derived.Test.YthpgigjplknomaaLift
import Derived.Test.YthpgigjplknomaaLEditPuts
import Derived.Test.YthpgigjplknomaaOpenE
import Derived.Lib.SmallJoins
import Derived.SliceStrings
namespace Go.Proofs.Ythpgigjplknomaa.editPuts
open Go.ChangeShapes Go.WideShapes Go.ChangeAt Go.RowKit Go.Joins
open Go.ChangeMaps (open_string shut_string)

set_option maxRecDepth 100000 in
theorem lifted (os : Os) (started : os.Started) (H : Type) (enc : TypeId × Value → H) :
    ReturnsInHanded {} Try.checked os 5 .any (Rows.editPutsSpec.pre6 enc Try.prog Try.f5 [] false)
      (Rows.editPutsSpec.post enc Try.prog Try.f5 false true false false) := by
  refine lift_plain (C := Try.checked) own laidOut started (by kernel_rfl) Try.func5
    (ChangeSpec.witness6 (enc := enc) (C := Try.checked) false ⟨#[], #[.agg #[.slice none 0 0, .slice none 0 0, .int .u64 0, .int .u64 0, .int .u64 0]], []⟩ 8 (by kernel_rfl) (by kernel_rfl) (by kernel_rfl) (by kernel_rfl))
    (by kernel_rfl) rfl rfl Try.underlying4 (fun ds h => ?_) (fun W base args ds ps hval hA => ?_)
  · match ds, h with
    | [d0], _ => rfl
  · have hval' : ∀ (j : Nat) t v, Try.f5.params[j]? = some t → args[j]? = some v → Value.okWide Try.prog W .any base t v := hval
    have hA' : DataW.TrodAll enc Try.prog W 0 (fun _ => true) true Try.f5.params.toList args.toList ds ps := hA
    rw [Try.params5] at hA' hval'
    obtain ⟨v0, d0, rfl, rfl, h0⟩ := trodAll_one hA'
    obtain ⟨x0, a0, b0, c0, e0, rfl, k0, m0, _, y0, s0⟩ := open_edit (hval' 0 29 v0 rfl rfl) h0
    exact ⟨rfl, law_puts x0 a0 b0 c0 e0 W k0 m0 s0 y0⟩

theorem row : Rows.EditPutsSaid :=
  OpenClaim.holds_of_wide 5 Try.f5 rfl rfl rfl rfl rfl rfl rfl ⟨rfl, rfl, rfl, rfl, rfl⟩ rfl rfl rfl rfl rfl (by kernel_rfl) Try.func5 (by kernel_rfl)
    (of_decide_eq_true (by kernel_rfl)) (by unfold Func.isWrapper; rw [if_neg (of_decide_eq_false (by kernel_rfl))]; exact ⟨rfl, rfl⟩)
    (fun os started H enc _ => lifted os started H enc)

theorem proved : Rows.EditPutsSaid := row
#print axioms proved
end Go.Proofs.Ythpgigjplknomaa.editPuts
