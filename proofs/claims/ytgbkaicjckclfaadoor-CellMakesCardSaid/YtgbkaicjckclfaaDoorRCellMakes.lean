/- CellMakes, proved: for every input the law returns true. -/
import Derived.Test.YtgbkaicjckclfaaDoorTab
import Derived.Test.YtgbkaicjckclfaaDoorLMakes
import Derived.Test.YtgbkaicjckclfaaDoorTie
import Derived.Test.YtgbkaicjckclfaaDoorCards
import Derived.Lib.SmallJoins
import Derived.SliceStrings
namespace Go.Proofs.YtgbkaicjckclfaaDoor.cellMakes
open Go.ChangeShapes Go.WideShapes Go.ChangeAt Go.RowKit Go.Joins
open Go.ChangeMaps (open_string shut_string)

set_option maxRecDepth 100000 in
theorem lifted (os : Os) (started : os.Started) (H : Type) (enc : TypeId × Value → H) :
    ReturnsInHanded {} Tryd.checked os 5 .any (fun w args => (Rows.cellMakesSpec.pre enc Tryd.prog Tryd.f5 [] false w args ∧ laidMetH Tryd.prog tabL w) ∧ sizedMet enc Tryd.prog Tryd.f5 (OpenSpec.ofChange Rows.cellMakesSpec) false w args)
      (Rows.cellMakesSpec.post enc Tryd.prog Tryd.f5 false true false false) := by
  refine lift_laid (C := Tryd.checked) tabL own laidOut started (by kernel_rfl) Tryd.func5
    (ChangeSpec.witness_shaped (enc := enc) (C := Tryd.checked) (os := os) (X := fun w _ => laidMetH Tryd.prog tabL w) false (World.doorLaid Tryd.prog 14 os) #[.agg #[.bool false, .bool false, .int .i64 0, .string ByteArray.empty]] 8 rfl (World.shaped_of_RefB (by kernel_rfl) (by kernel_rfl)) (by kernel_rfl) (by kernel_rfl) (by kernel_rfl) (tab_met os _))
    (by kernel_rfl) rfl rfl Tryd.underlying4 (fun ds h => ?_) (fun W base args ds ps hval hA hL => ?_)
  · match ds, h with
    | [d0], _ => rfl
  · have hval' : ∀ (j : Nat) t v, Tryd.f5.params[j]? = some t → args[j]? = some v → Value.okWide Tryd.prog W .any base t v := hval
    have hA' : DataW.TrodAll enc Tryd.prog W 0 (fun _ => true) true Tryd.f5.params.toList args.toList ds ps := hA
    rw [Tryd.params5] at hA' hval'
    have ht := tab_of_laid hL
    obtain ⟨v0, d0, rfl, rfl, h0⟩ := trodAll_one hA'
    obtain ⟨c0, c1, c2, c3, y0, y1, y2, y3, m, rfl, rfl, rfl, g0, g1, g2, g3⟩ := open_agg4 Tryd.underlying34 (by kernel_rfl) (by kernel_rfl) (hval' 0 34 v0 rfl rfl) h0
    obtain ⟨z0, e0, rfl⟩ := DataW.trod_bool Tryd.underlying4 g0
    obtain ⟨z1, e1, rfl⟩ := DataW.trod_bool Tryd.underlying4 g1
    obtain ⟨z2, e2, rfl, w2⟩ := DataW.trod_int Tryd.underlying3 g2
    obtain ⟨z3, e3, rfl, w3⟩ := DataW.trod_string Tryd.underlying9 g3
    simp at e0 e1 e2 e3
    subst e0 e1 e2 e3
    obtain ⟨⟨z3⟩⟩ := z3
    exact ⟨rfl, law_makes z0 z1 z2 z3 W (by have h := w3; unfold maxLen at h; exact h) ht⟩

theorem row : Rows.CellMakesSaid :=
  OpenClaim.holds_of_wide 5 Tryd.f5 rfl rfl rfl rfl rfl rfl rfl ⟨rfl, rfl, rfl, rfl, rfl⟩ rfl rfl rfl rfl rfl (by kernel_rfl) Tryd.func5 (by kernel_rfl)
    (of_decide_eq_true (by kernel_rfl)) (by unfold Func.isWrapper; rw [if_neg (of_decide_eq_false (by kernel_rfl))]; exact ⟨rfl, rfl⟩)
    (fun os started H enc _ => lifted os started H enc)

theorem proved : Rows.CellMakesCardSaid :=
  Claim7.holds_tied_plain_at .later [] [.data] true (true, "6d5ecced8964a7b02ed525458f5ceeb0e6409e2de196fc7a5bd2a205f614550d") false
    row (fun _ h => by cases h) (by kernel_rfl) (fun _ h => by cases h) cellMakes_row_tie rfl ⟨rfl, rfl⟩ (by kernel_rfl) rfl
    (fun f fn hf hfn => by
      obtain rfl : f = 5 := Option.some.inj ((show Tryd.prog.funcNamed "copyhold/copyholdlaw03.CellMakes" = some 5 by kernel_rfl).symm.trans hf) |>.symm
      obtain rfl : fn = Tryd.f5 := (Option.some.inj (Tryd.func5.symm.trans hfn)).symm
      refine ⟨by kernel_rfl, fun j t ht => ?_⟩
      rw [Tryd.params5] at ht
      rcases j with _ | j
      · obtain rfl : 34 = t := by simpa using ht
        exact (show Tryd.prog.wantsStandIn 34 = false by kernel_rfl)
      simp at ht)
    (by kernel_rfl)
#print axioms proved
end Go.Proofs.YtgbkaicjckclfaaDoor.cellMakes
