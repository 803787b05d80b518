/- NumPuts, proved: for every input the law returns true. -/
import Derived.Test.YtifpdmkadgchjaaLift
import Derived.Test.YtifpdmkadgchjaaLNumPuts
import Derived.Test.YtifpdmkadgchjaaOpenT
import Derived.Test.YtifpdmkadgchjaaOpenU
import Derived.Lib.SmallJoins
import Derived.SliceStrings
namespace Go.Proofs.Ytifpdmkadgchjaa.numPuts
open Go.ChangeShapes Go.WideShapes Go.ChangeAt Go.RowKit Go.Joins
open Go.ChangeMaps (open_string shut_string)

set_option maxRecDepth 100000 in
theorem lifted (os : Os) (started : os.Started) (H : Type) (enc : TypeId × Value → H) :
    ReturnsInHanded {} Try.checked os 8 .any (Rows.numPutsSpec.pre6 enc Try.prog Try.f8 [] false)
      (Rows.numPutsSpec.post enc Try.prog Try.f8 false true false false) := by
  refine lift_plain (C := Try.checked) own laidOut started (by kernel_rfl) Try.func8
    (ChangeSpec.witness6 (enc := enc) (C := Try.checked) false ⟨#[], #[.slice none 0 0, .slice none 0 0, .int .u64 0, .int .i64 0], []⟩ 8 (by kernel_rfl) (by kernel_rfl) (by kernel_rfl) (by kernel_rfl))
    (by kernel_rfl) rfl rfl Try.underlying4 (fun ds h => ?_) (fun W base args ds ps hval hA => ?_)
  · match ds, h with
    | [d0, d1, d2, d3], _ => rfl
  · have hval' : ∀ (j : Nat) t v, Try.f8.params[j]? = some t → args[j]? = some v → Value.okWide Try.prog W .any base t v := hval
    have hA' : DataW.TrodAll enc Try.prog W 0 (fun _ => true) true Try.f8.params.toList args.toList ds ps := hA
    rw [Try.params8] at hA' hval'
    obtain ⟨v0, v1, v2, v3, d0, d1, d2, d3, p0, p1, p2, p3, rfl, rfl, rfl, h0, h1, h2, h3⟩ := trodAll_four hA'
    obtain ⟨a0, n0, c0, rfl⟩ := okWide_slice Try.underlying33 (hval' 0 33 v0 rfl rfl)
    obtain ⟨x0, rfl, b0, k0, s0⟩ := open_nums Try.underlying33 Try.underlying22 (by kernel_rfl) h0
    obtain ⟨a1, n1, c1, rfl⟩ := okWide_slice Try.underlying40 (hval' 1 40 v1 rfl rfl)
    obtain ⟨x1, rfl, b1, k1, s1⟩ := open_strs Try.underlying40 Try.underlying9 (by kernel_rfl) h1
    obtain ⟨x2, rfl, rfl, rfl, w2⟩ := open_int Try.underlying22 (hval' 2 22 v2 rfl rfl) h2
    obtain ⟨x3, rfl, rfl, rfl, w3⟩ := open_int Try.underlying3 (hval' 3 3 v3 rfl rfl) h3
    exact ⟨rfl, law_puts' a0 c0 x0 a1 c1 x1 x2 x3 W b0 k0 s0 b1 k1 s1 w2 w3⟩

theorem row : Rows.NumPutsSaid :=
  OpenClaim.holds_of_wide 8 Try.f8 rfl rfl rfl rfl rfl rfl rfl ⟨rfl, rfl, rfl, rfl, rfl⟩ rfl rfl rfl rfl rfl (by kernel_rfl) Try.func8 (by kernel_rfl)
    (of_decide_eq_true (by kernel_rfl)) (by unfold Func.isWrapper; rw [if_neg (of_decide_eq_false (by kernel_rfl))]; exact ⟨rfl, rfl⟩)
    (fun os started H enc _ => lifted os started H enc)

theorem proved : Rows.NumPutsSaid := row
#print axioms proved
end Go.Proofs.Ytifpdmkadgchjaa.numPuts
