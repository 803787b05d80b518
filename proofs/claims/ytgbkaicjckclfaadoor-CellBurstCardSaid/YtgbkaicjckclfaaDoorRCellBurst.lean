/- CellBurst, proved: for every input the law returns true. -/
import Derived.Test.YtgbkaicjckclfaaDoorTab
import Derived.Test.YtgbkaicjckclfaaDoorLBurst
import Derived.Test.YtgbkaicjckclfaaDoorTie
import Derived.Test.YtgbkaicjckclfaaDoorCards
import Derived.Lib.SmallJoins
import Derived.SliceStrings
namespace Go.Proofs.YtgbkaicjckclfaaDoor.cellBurst
open Go.ChangeShapes Go.WideShapes Go.ChangeAt Go.RowKit Go.Joins
open Go.ChangeMaps (open_string shut_string)

set_option maxRecDepth 100000 in
theorem lifted (os : Os) (started : os.Started) (H : Type) (enc : TypeId × Value → H) :
    ReturnsInHanded {} Tryd.checked os 7 .any (fun w args => (Rows.cellBurstSpec.pre enc Tryd.prog Tryd.f7 [] false w args ∧ laidMetH Tryd.prog tabL w) ∧ sizedMet enc Tryd.prog Tryd.f7 (OpenSpec.ofChange Rows.cellBurstSpec) false w args)
      (Rows.cellBurstSpec.post enc Tryd.prog Tryd.f7 false true false false) := by
  refine lift_laid (C := Tryd.checked) tabL own laidOut started (by kernel_rfl) Tryd.func7
    (ChangeSpec.witness_shaped (enc := enc) (C := Tryd.checked) (os := os) (X := fun w _ => laidMetH Tryd.prog tabL w) false (World.doorLaid Tryd.prog 14 os) #[.agg #[.bool false, .bool false, .int .i64 0, .string ByteArray.empty], .int .u8 0, .int .u32 0] 8 rfl (World.shaped_of_RefB (by kernel_rfl) (by kernel_rfl)) (by kernel_rfl) (by kernel_rfl) (by kernel_rfl) (tab_met os _))
    (by kernel_rfl) rfl rfl Tryd.underlying4 (fun ds h => ?_) (fun W base args ds ps hval hA hL => ?_)
  · match ds, h with
    | [d0, d1, d2], _ => rfl
  · have hval' : ∀ (j : Nat) t v, Tryd.f7.params[j]? = some t → args[j]? = some v → Value.okWide Tryd.prog W .any base t v := hval
    have hA' : DataW.TrodAll enc Tryd.prog W 0 (fun _ => true) true Tryd.f7.params.toList args.toList ds ps := hA
    rw [Tryd.params7] at hA' hval'
    have ht := tab_of_laid hL
    obtain ⟨v0, v1, v2, d0, d1, d2, p0, p1, p2, rfl, rfl, rfl, h0, h1, h2⟩ := trodAll_three hA'
    obtain ⟨c0, c1, c2, c3, y0, y1, y2, y3, m, rfl, rfl, rfl, g0, g1, g2, g3⟩ := open_agg4 Tryd.underlying23 (by kernel_rfl) (by kernel_rfl) (hval' 0 23 v0 rfl rfl) h0
    obtain ⟨z0, e0, rfl⟩ := DataW.trod_bool Tryd.underlying4 g0
    obtain ⟨z1, e1, rfl⟩ := DataW.trod_bool Tryd.underlying4 g1
    obtain ⟨z2, e2, rfl, w2⟩ := DataW.trod_int Tryd.underlying3 g2
    obtain ⟨z3, e3, rfl, w3⟩ := DataW.trod_string Tryd.underlying9 g3
    simp at e0 e1 e2 e3
    subst e0 e1 e2 e3
    obtain ⟨⟨z3⟩⟩ := z3
    obtain ⟨x1, rfl, rfl, rfl, w1⟩ := open_int Tryd.underlying5 (hval' 1 5 v1 rfl rfl) h1
    obtain ⟨x2, rfl, rfl, rfl, w2⟩ := open_int Tryd.underlying28 (hval' 2 28 v2 rfl rfl) h2
    exact ⟨rfl, law_burst z0 z1 z2 z3 x1 x2 W (by have h := w3; unfold maxLen at h; exact h) w1 w2 ht⟩

theorem row : Rows.CellBurstSaid :=
  OpenClaim.holds_of_wide 7 Tryd.f7 rfl rfl rfl rfl rfl rfl rfl ⟨rfl, rfl, rfl, rfl, rfl⟩ rfl rfl rfl rfl rfl (by kernel_rfl) Tryd.func7 (by kernel_rfl)
    (of_decide_eq_true (by kernel_rfl)) (by unfold Func.isWrapper; rw [if_neg (of_decide_eq_false (by kernel_rfl))]; exact ⟨rfl, rfl⟩)
    (fun os started H enc _ => lifted os started H enc)

theorem proved : Rows.CellBurstCardSaid :=
  Claim7.holds_tied_plain_at .later [] [.data] true (true, "6d5ecced8964a7b02ed525458f5ceeb0e6409e2de196fc7a5bd2a205f614550d") false
    row (fun _ h => by cases h) (by kernel_rfl) (fun _ h => by cases h) cellBurst_row_tie rfl ⟨rfl, rfl⟩ (by kernel_rfl) rfl
    (fun f fn hf hfn => by
      obtain rfl : f = 7 := Option.some.inj ((show Tryd.prog.funcNamed "copyhold/copyholdlaw03.CellBurst" = some 7 by kernel_rfl).symm.trans hf) |>.symm
      obtain rfl : fn = Tryd.f7 := (Option.some.inj (Tryd.func7.symm.trans hfn)).symm
      refine ⟨by kernel_rfl, fun j t ht => ?_⟩
      rw [Tryd.params7] at ht
      rcases j with _ | j
      · obtain rfl : 23 = t := by simpa using ht
        exact (show Tryd.prog.wantsStandIn 23 = false by kernel_rfl)
      rcases j with _ | j
      · obtain rfl : 5 = t := by simpa using ht
        exact (show Tryd.prog.wantsStandIn 5 = false by kernel_rfl)
      rcases j with _ | j
      · obtain rfl : 28 = t := by simpa using ht
        exact (show Tryd.prog.wantsStandIn 28 = false by kernel_rfl)
      simp at ht)
    (by kernel_rfl)
#print axioms proved
end Go.Proofs.YtgbkaicjckclfaaDoor.cellBurst
