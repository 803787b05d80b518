/- FrameMore, proved: for every input the law returns true. -/
import Derived.Test.YtmfabbncoekjhaaDoorTab
import Derived.Test.YtmfabbncoekjhaaDoorOpenS2
import Derived.Test.YtmfabbncoekjhaaDoorLFrameMore
import Derived.Test.YtmfabbncoekjhaaDoorTie
import Derived.Test.YtmfabbncoekjhaaDoorCards
import Derived.Lib.SmallJoins
import Derived.SliceStrings
namespace Go.Proofs.YtmfabbncoekjhaaDoor.frameMore
open Go.ChangeShapes Go.WideShapes Go.ChangeAt Go.RowKit Go.Joins
open Go.ChangeMaps (open_string shut_string)

set_option maxRecDepth 100000 in
theorem lifted (os : Os) (started : os.Started) (H : Type) (enc : TypeId × Value → H) :
    ReturnsInHanded {} Tryd.checked os 9 .any (fun w args => (Rows.frameMoreSpec.pre enc Tryd.prog Tryd.f9 [] false w args ∧ laidMetH Tryd.prog tabL w) ∧ sizedMet enc Tryd.prog Tryd.f9 (OpenSpec.ofChange Rows.frameMoreSpec) false w args)
      (Rows.frameMoreSpec.post enc Tryd.prog Tryd.f9 false true false false) := by
  refine lift_laid (C := Tryd.checked) tabL own laidOut started (by kernel_rfl) Tryd.func9
    (ChangeSpec.witness_shaped (enc := enc) (C := Tryd.checked) (os := os) (X := fun w _ => laidMetH Tryd.prog tabL w) false (World.doorLaid Tryd.prog 14 os) #[.slice none 0 0, .slice none 0 0] 8 rfl (World.shaped_of_RefB (by kernel_rfl) (by kernel_rfl)) (by kernel_rfl) (by kernel_rfl) (by kernel_rfl) (tab_met os _))
    (by kernel_rfl) rfl rfl Tryd.underlying4 (fun ds h => ?_) (fun W base args ds ps hval hA hL => ?_)
  · match ds, h with
    | [d0, d1], _ => rfl
  · have hval' : ∀ (j : Nat) t v, Tryd.f9.params[j]? = some t → args[j]? = some v → Value.okWide Tryd.prog W .any base t v := hval
    have hA' : DataW.TrodAll enc Tryd.prog W 0 (fun _ => true) true Tryd.f9.params.toList args.toList ds ps := hA
    rw [Tryd.params9] at hA' hval'
    have ht := tab_of_laid hL
    obtain ⟨v0, v1, d0, d1, p0, p1, rfl, rfl, rfl, h0, h1⟩ := trodAll_two hA'
    obtain ⟨a0, n0, c0, rfl⟩ := okWide_slice Tryd.underlying25 (hval' 0 25 v0 rfl rfl)
    obtain ⟨x0, rfl, b0, k0, s0, z0⟩ := open_strs2 Tryd.underlying25 Tryd.underlying9 (by kernel_rfl) h0
    obtain ⟨a1, n1, c1, rfl⟩ := okWide_slice Tryd.underlying25 (hval' 1 25 v1 rfl rfl)
    obtain ⟨x1, rfl, b1, k1, s1, z1⟩ := open_strs2 Tryd.underlying25 Tryd.underlying9 (by kernel_rfl) h1
    exact ⟨rfl, law_more a0 c0 x0 a1 c1 x1 W b0 k0 s0 z0 b1 k1 s1 z1 ht⟩

theorem row : Rows.FrameMoreSaid :=
  OpenClaim.holds_of_wide 9 Tryd.f9 rfl rfl rfl rfl rfl rfl rfl ⟨rfl, rfl, rfl, rfl, rfl⟩ rfl rfl rfl rfl rfl (by kernel_rfl) Tryd.func9 (by kernel_rfl)
    (of_decide_eq_true (by kernel_rfl)) (by unfold Func.isWrapper; rw [if_neg (of_decide_eq_false (by kernel_rfl))]; exact ⟨rfl, rfl⟩)
    (fun os started H enc _ => lifted os started H enc)

theorem proved : Rows.FrameMoreCardSaid :=
  Claim7.holds_tied_plain_at .later [] [.data] true (true, "bc5f86eb99d3c06fedda3b4994b5736fe233c369ee88c8eb7c96469c777af5fb") false
    row (fun _ h => by cases h) (by kernel_rfl) (fun _ h => by cases h) frameMore_row_tie rfl ⟨rfl, rfl⟩ (by kernel_rfl) rfl
    (fun f fn hf hfn => by
      obtain rfl : f = 9 := Option.some.inj ((show Tryd.prog.funcNamed "copyhold/copyholdlaw04.FrameMore" = some 9 by kernel_rfl).symm.trans hf) |>.symm
      obtain rfl : fn = Tryd.f9 := (Option.some.inj (Tryd.func9.symm.trans hfn)).symm
      refine ⟨by kernel_rfl, fun j t ht => ?_⟩
      rw [Tryd.params9] at ht
      rcases j with _ | j
      · obtain rfl : 25 = t := by simpa using ht
        exact (show Tryd.prog.wantsStandIn 25 = false by kernel_rfl)
      rcases j with _ | j
      · obtain rfl : 25 = t := by simpa using ht
        exact (show Tryd.prog.wantsStandIn 25 = false by kernel_rfl)
      simp at ht)
    (by kernel_rfl)
#print axioms proved
end Go.Proofs.YtmfabbncoekjhaaDoor.frameMore
