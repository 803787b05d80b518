/- CellBack, proved: for every input the law returns true. -/
import Derived.Test.YtgbkaicjckclfaaDoorTab
import Derived.Test.YtgbkaicjckclfaaDoorLBack
import Derived.Test.YtgbkaicjckclfaaDoorTie
import Derived.Test.YtgbkaicjckclfaaDoorCards
import Derived.Lib.SmallJoins
import Derived.SliceStrings
namespace Go.Proofs.YtgbkaicjckclfaaDoor.cellBack
open Go.ChangeShapes Go.WideShapes Go.ChangeAt Go.RowKit Go.Joins
open Go.ChangeMaps (open_string shut_string)

set_option maxRecDepth 100000 in
theorem lifted (os : Os) (started : os.Started) (H : Type) (enc : TypeId × Value → H) :
    ReturnsInHanded {} Tryd.checked os 8 .any (fun w args => (Rows.cellBackSpec.pre enc Tryd.prog Tryd.f8 [] false w args ∧ laidMetH Tryd.prog tabL w) ∧ sizedMet enc Tryd.prog Tryd.f8 (OpenSpec.ofChange Rows.cellBackSpec) false w args)
      (Rows.cellBackSpec.post enc Tryd.prog Tryd.f8 false true false false) := by
  refine lift_laid (C := Tryd.checked) tabL own laidOut started (by kernel_rfl) Tryd.func8
    (ChangeSpec.witness_shaped (enc := enc) (C := Tryd.checked) (os := os) (X := fun w _ => laidMetH Tryd.prog tabL w) false (World.doorLaid Tryd.prog 14 os) #[.agg #[.bool false, .bool false, .int .i64 0, .string ByteArray.empty], .string ByteArray.empty] 8 rfl (World.shaped_of_RefB (by kernel_rfl) (by kernel_rfl)) (by kernel_rfl) (by kernel_rfl) (by kernel_rfl) (tab_met os _))
    (by kernel_rfl) rfl rfl Tryd.underlying4 (fun ds h => ?_) (fun W base args ds ps hval hA hL => ?_)
  · match ds, h with
    | [d0, d1], _ => rfl
  · have hval' : ∀ (j : Nat) t v, Tryd.f8.params[j]? = some t → args[j]? = some v → Value.okWide Tryd.prog W .any base t v := hval
    have hA' : DataW.TrodAll enc Tryd.prog W 0 (fun _ => true) true Tryd.f8.params.toList args.toList ds ps := hA
    rw [Tryd.params8] at hA' hval'
    have ht := tab_of_laid hL
    obtain ⟨v0, v1, d0, d1, p0, p1, rfl, rfl, rfl, h0, h1⟩ := trodAll_two hA'
    obtain ⟨c0, c1, c2, c3, y0, y1, y2, y3, m, rfl, rfl, rfl, g0, g1, g2, g3⟩ := open_agg4 Tryd.underlying23 (by kernel_rfl) (by kernel_rfl) (hval' 0 23 v0 rfl rfl) h0
    obtain ⟨z0, e0, rfl⟩ := DataW.trod_bool Tryd.underlying4 g0
    obtain ⟨z1, e1, rfl⟩ := DataW.trod_bool Tryd.underlying4 g1
    obtain ⟨z2, e2, rfl, w2⟩ := DataW.trod_int Tryd.underlying3 g2
    obtain ⟨z3, e3, rfl, w3⟩ := DataW.trod_string Tryd.underlying9 g3
    simp at e0 e1 e2 e3
    subst e0 e1 e2 e3
    obtain ⟨⟨z3⟩⟩ := z3
    obtain ⟨⟨⟨x1⟩⟩, rfl, rfl, rfl, w1⟩ := open_string Tryd.underlying9 (hval' 1 9 v1 rfl rfl) h1
    exact ⟨rfl, law_back z0 z1 z2 z3 x1 W (by have h := w3; unfold maxLen at h; exact h) (by have h := w1; unfold maxLen at h; exact h) ht⟩

theorem row : Rows.CellBackSaid :=
  OpenClaim.holds_of_wide 8 Tryd.f8 rfl rfl rfl rfl rfl rfl rfl ⟨rfl, rfl, rfl, rfl, rfl⟩ rfl rfl rfl rfl rfl (by kernel_rfl) Tryd.func8 (by kernel_rfl)
    (of_decide_eq_true (by kernel_rfl)) (by unfold Func.isWrapper; rw [if_neg (of_decide_eq_false (by kernel_rfl))]; exact ⟨rfl, rfl⟩)
    (fun os started H enc _ => lifted os started H enc)

theorem proved : Rows.CellBackCardSaid :=
  Claim7.holds_tied_plain_at .later [] [.data] true (true, "6d5ecced8964a7b02ed525458f5ceeb0e6409e2de196fc7a5bd2a205f614550d") false
    row (fun _ h => by cases h) (by kernel_rfl) (fun _ h => by cases h) cellBack_row_tie rfl ⟨rfl, rfl⟩ (by kernel_rfl) rfl
    (fun f fn hf hfn => by
      obtain rfl : f = 8 := Option.some.inj ((show Tryd.prog.funcNamed "copyhold/copyholdlaw03.CellBack" = some 8 by kernel_rfl).symm.trans hf) |>.symm
      obtain rfl : fn = Tryd.f8 := (Option.some.inj (Tryd.func8.symm.trans hfn)).symm
      refine ⟨by kernel_rfl, fun j t ht => ?_⟩
      rw [Tryd.params8] at ht
      rcases j with _ | j
      · obtain rfl : 23 = t := by simpa using ht
        exact (show Tryd.prog.wantsStandIn 23 = false by kernel_rfl)
      rcases j with _ | j
      · obtain rfl : 9 = t := by simpa using ht
        exact (show Tryd.prog.wantsStandIn 9 = false by kernel_rfl)
      simp at ht)
    (by kernel_rfl)
#print axioms proved
end Go.Proofs.YtgbkaicjckclfaaDoor.cellBack
