/- EditJoins, proved: for every input the law returns true. -/
import Derived.Test.YthpgigjplknomaaLift
import Derived.Test.YthpgigjplknomaaLEditJoins
import Derived.Test.YthpgigjplknomaaOpenEs
import Derived.Lib.SmallJoins
import Derived.SliceStrings
namespace Go.Proofs.Ythpgigjplknomaa.editJoins
open Go.ChangeShapes Go.WideShapes Go.ChangeAt Go.RowKit Go.Joins
open Go.ChangeMaps (open_string shut_string)

set_option maxRecDepth 100000 in
theorem lifted (os : Os) (started : os.Started) (H : Type) (enc : TypeId × Value → H) :
    ReturnsInHanded {} Try.checked os 8 .any (Rows.editJoinsSpec.pre6 enc Try.prog Try.f8 [] false)
      (Rows.editJoinsSpec.post enc Try.prog Try.f8 false true false false) := by
  refine lift_plain (C := Try.checked) own laidOut started (by kernel_rfl) Try.func8
    (ChangeSpec.witness6 (enc := enc) (C := Try.checked) false ⟨#[], #[.slice none 0 0, .slice none 0 0], []⟩ 8 (by kernel_rfl) (by kernel_rfl) (by kernel_rfl) (by kernel_rfl))
    (by kernel_rfl) rfl rfl Try.underlying4 (fun ds h => ?_) (fun W base args ds ps hval hA => ?_)
  · match ds, h with
    | [d0, d1], _ => rfl
  · have hval' : ∀ (j : Nat) t v, Try.f8.params[j]? = some t → args[j]? = some v → Value.okWide Try.prog W .any base t v := hval
    have hA' : DataW.TrodAll enc Try.prog W 0 (fun _ => true) true Try.f8.params.toList args.toList ds ps := hA
    rw [Try.params8] at hA' hval'
    obtain ⟨v0, v1, d0, d1, p0, p1, rfl, rfl, rfl, h0, h1⟩ := trodAll_two hA'
    obtain ⟨a0, n0, c0, rfl⟩ := okWide_slice Try.underlying33 (hval' 0 33 v0 rfl rfl)
    obtain ⟨x0, b0, _, s0, k0⟩ := open_eds h0
    obtain ⟨a1, n1, c1, rfl⟩ := okWide_slice Try.underlying25 (hval' 1 25 v1 rfl rfl)
    obtain ⟨x1, b1, s1, _, k1⟩ := open_tabs h1
    exact ⟨rfl, law_joins x0 a0 n0 c0 x1 a1 n1 c1 W b0 (fun e he => ⟨(s0 e he).1, (s0 e he).2.1⟩) k0 b1 s1 k1⟩

theorem row : Rows.EditJoinsSaid :=
  OpenClaim.holds_of_wide 8 Try.f8 rfl rfl rfl rfl rfl rfl rfl ⟨rfl, rfl, rfl, rfl, rfl⟩ rfl rfl rfl rfl rfl (by kernel_rfl) Try.func8 (by kernel_rfl)
    (of_decide_eq_true (by kernel_rfl)) (by unfold Func.isWrapper; rw [if_neg (of_decide_eq_false (by kernel_rfl))]; exact ⟨rfl, rfl⟩)
    (fun os started H enc _ => lifted os started H enc)

theorem proved : Rows.EditJoinsSaid := row
#print axioms proved
end Go.Proofs.Ythpgigjplknomaa.editJoins
