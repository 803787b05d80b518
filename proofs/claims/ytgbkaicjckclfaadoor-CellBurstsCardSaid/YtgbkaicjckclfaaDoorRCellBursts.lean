/- CellBursts, proved: for every input the law returns true. -/
import Derived.Test.YtgbkaicjckclfaaDoorTab
import Derived.Test.YtgbkaicjckclfaaDoorLBursts
import Derived.Test.YtgbkaicjckclfaaDoorTie
import Derived.Test.YtgbkaicjckclfaaDoorCards
import Derived.Lib.SmallJoins
import Derived.SliceStrings
namespace Go.Proofs.YtgbkaicjckclfaaDoor.cellBursts
open Go.ChangeShapes Go.WideShapes Go.ChangeAt Go.RowKit Go.Joins
open Go.ChangeMaps (open_string shut_string)

set_option maxRecDepth 100000 in
theorem lifted (os : Os) (started : os.Started) (H : Type) (enc : TypeId × Value → H) :
    ReturnsInHanded {} Tryd.checked os 9 .any (fun w args => (Rows.cellBurstsSpec.pre enc Tryd.prog Tryd.f9 [] false w args ∧ laidMetH Tryd.prog tabL w) ∧ sizedMet enc Tryd.prog Tryd.f9 (OpenSpec.ofChange Rows.cellBurstsSpec) false w args)
      (Rows.cellBurstsSpec.post enc Tryd.prog Tryd.f9 false true false false) := by
  refine lift_laid (C := Tryd.checked) tabL own laidOut started (by kernel_rfl) Tryd.func9
    (ChangeSpec.witness_shaped (enc := enc) (C := Tryd.checked) (os := os) (X := fun w _ => laidMetH Tryd.prog tabL w) false (World.doorLaid Tryd.prog 14 os) #[.string ByteArray.empty, .int .u16 0, .int .u16 0, .int .u32 0] 8 rfl (World.shaped_of_RefB (by kernel_rfl) (by kernel_rfl)) (by kernel_rfl) (by kernel_rfl) (by kernel_rfl) (tab_met os _))
    (by kernel_rfl) rfl rfl Tryd.underlying4 (fun ds h => ?_) (fun W base args ds ps hval hA hL => ?_)
  · match ds, h with
    | [d0, d1, d2, d3], _ => rfl
  · have hval' : ∀ (j : Nat) t v, Tryd.f9.params[j]? = some t → args[j]? = some v → Value.okWide Tryd.prog W .any base t v := hval
    have hA' : DataW.TrodAll enc Tryd.prog W 0 (fun _ => true) true Tryd.f9.params.toList args.toList ds ps := hA
    rw [Tryd.params9] at hA' hval'
    have ht := tab_of_laid hL
    obtain ⟨v0, v1, v2, v3, d0, d1, d2, d3, p0, p1, p2, p3, rfl, rfl, rfl, h0, h1, h2, h3⟩ := trodAll_four hA'
    obtain ⟨⟨⟨x0⟩⟩, rfl, rfl, rfl, w0⟩ := open_string Tryd.underlying9 (hval' 0 9 v0 rfl rfl) h0
    obtain ⟨x1, rfl, rfl, rfl, w1⟩ := open_int Tryd.underlying48 (hval' 1 48 v1 rfl rfl) h1
    obtain ⟨x2, rfl, rfl, rfl, w2⟩ := open_int Tryd.underlying48 (hval' 2 48 v2 rfl rfl) h2
    obtain ⟨x3, rfl, rfl, rfl, w3⟩ := open_int Tryd.underlying28 (hval' 3 28 v3 rfl rfl) h3
    exact ⟨rfl, law_bursts x0 x1 x2 x3 W (by have h := w0; unfold maxLen at h; exact h) w1 w2 w3 ht⟩

theorem row : Rows.CellBurstsSaid :=
  OpenClaim.holds_of_wide 9 Tryd.f9 rfl rfl rfl rfl rfl rfl rfl ⟨rfl, rfl, rfl, rfl, rfl⟩ rfl rfl rfl rfl rfl (by kernel_rfl) Tryd.func9 (by kernel_rfl)
    (of_decide_eq_true (by kernel_rfl)) (by unfold Func.isWrapper; rw [if_neg (of_decide_eq_false (by kernel_rfl))]; exact ⟨rfl, rfl⟩)
    (fun os started H enc _ => lifted os started H enc)

theorem proved : Rows.CellBurstsCardSaid :=
  Claim7.holds_tied_plain_at .later [] [.data] true (true, "6d5ecced8964a7b02ed525458f5ceeb0e6409e2de196fc7a5bd2a205f614550d") false
    row (fun _ h => by cases h) (by kernel_rfl) (fun _ h => by cases h) cellBursts_row_tie rfl ⟨rfl, rfl⟩ (by kernel_rfl) rfl
    (fun f fn hf hfn => by
      obtain rfl : f = 9 := Option.some.inj ((show Tryd.prog.funcNamed "copyhold/copyholdlaw03.CellBursts" = some 9 by kernel_rfl).symm.trans hf) |>.symm
      obtain rfl : fn = Tryd.f9 := (Option.some.inj (Tryd.func9.symm.trans hfn)).symm
      refine ⟨by kernel_rfl, fun j t ht => ?_⟩
      rw [Tryd.params9] at ht
      rcases j with _ | j
      · obtain rfl : 9 = t := by simpa using ht
        exact (show Tryd.prog.wantsStandIn 9 = false by kernel_rfl)
      rcases j with _ | j
      · obtain rfl : 48 = t := by simpa using ht
        exact (show Tryd.prog.wantsStandIn 48 = false by kernel_rfl)
      rcases j with _ | j
      · obtain rfl : 48 = t := by simpa using ht
        exact (show Tryd.prog.wantsStandIn 48 = false by kernel_rfl)
      rcases j with _ | j
      · obtain rfl : 28 = t := by simpa using ht
        exact (show Tryd.prog.wantsStandIn 28 = false by kernel_rfl)
      simp at ht)
    (by kernel_rfl)
#print axioms proved
end Go.Proofs.YtgbkaicjckclfaaDoor.cellBursts
