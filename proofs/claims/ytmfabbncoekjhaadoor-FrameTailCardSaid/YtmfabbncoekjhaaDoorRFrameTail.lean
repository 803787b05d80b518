/- FrameTail, proved: for every input the law returns true. -/
import Derived.Test.YtmfabbncoekjhaaDoorTab
import Derived.Test.YtmfabbncoekjhaaDoorOpenS3
import Derived.Test.YtmfabbncoekjhaaDoorLFrameTail
import Derived.Test.YtmfabbncoekjhaaDoorTie
import Derived.Test.YtmfabbncoekjhaaDoorCards
import Derived.Lib.SmallJoins
import Derived.SliceStrings
namespace Go.Proofs.YtmfabbncoekjhaaDoor.frameTail
open Go.ChangeShapes Go.WideShapes Go.ChangeAt Go.RowKit Go.Joins
open Go.ChangeMaps (open_string shut_string)

set_option maxRecDepth 100000 in
theorem lifted (os : Os) (started : os.Started) (H : Type) (enc : TypeId × Value → H) :
    ReturnsInHanded {} Tryd.checked os 7 .any (fun w args => (Rows.frameTailSpec.pre enc Tryd.prog Tryd.f7 [] false w args ∧ laidMetH Tryd.prog tabL w) ∧ sizedMet enc Tryd.prog Tryd.f7 (OpenSpec.ofChange Rows.frameTailSpec) false w args)
      (Rows.frameTailSpec.post enc Tryd.prog Tryd.f7 false true false false) := by
  refine lift_laid (C := Tryd.checked) tabL own laidOut started (by kernel_rfl) Tryd.func7
    (ChangeSpec.witness_shaped (enc := enc) (C := Tryd.checked) (os := os) (X := fun w _ => laidMetH Tryd.prog tabL w) false (World.doorLaid Tryd.prog 14 os) #[.slice none 0 0, .int .u16 0, .int .u16 0, .int .u32 0] 8 rfl (World.shaped_of_RefB (by kernel_rfl) (by kernel_rfl)) (by kernel_rfl) (by kernel_rfl) (by kernel_rfl) (tab_met os _))
    (by kernel_rfl) rfl rfl Tryd.underlying4 (fun ds h => ?_) (fun W base args ds ps hval hA hL => ?_)
  · match ds, h with
    | [d0, d1, d2, d3], _ => rfl
  · have hval' : ∀ (j : Nat) t v, Tryd.f7.params[j]? = some t → args[j]? = some v → Value.okWide Tryd.prog W .any base t v := hval
    have hA' : DataW.TrodAll enc Tryd.prog W 0 (fun _ => true) true Tryd.f7.params.toList args.toList ds ps := hA
    rw [Tryd.params7] at hA' hval'
    have ht := tab_of_laid hL
    obtain ⟨v0, v1, v2, v3, d0, d1, d2, d3, p0, p1, p2, p3, rfl, rfl, rfl, h0, h1, h2, h3⟩ := trodAll_four hA'
    obtain ⟨a0, n0, c0, rfl⟩ := okWide_slice Tryd.underlying25 (hval' 0 25 v0 rfl rfl)
    obtain ⟨x0, rfl, b0, k0, s0, z0, y0⟩ := open_strs3 Tryd.underlying25 Tryd.underlying9 (by kernel_rfl) h0
    obtain ⟨x1, rfl, rfl, rfl, w1⟩ := open_int Tryd.underlying34 (hval' 1 34 v1 rfl rfl) h1
    obtain ⟨x2, rfl, rfl, rfl, w2⟩ := open_int Tryd.underlying34 (hval' 2 34 v2 rfl rfl) h2
    obtain ⟨x3, rfl, rfl, rfl, w3⟩ := open_int Tryd.underlying35 (hval' 3 35 v3 rfl rfl) h3
    exact ⟨rfl, law_tail a0 c0 x0 x1 x2 x3 W b0 k0 s0 z0 y0 w1 w2 w3 ht⟩

theorem row : Rows.FrameTailSaid :=
  OpenClaim.holds_of_wide 7 Tryd.f7 rfl rfl rfl rfl rfl rfl rfl ⟨rfl, rfl, rfl, rfl, rfl⟩ rfl rfl rfl rfl rfl (by kernel_rfl) Tryd.func7 (by kernel_rfl)
    (of_decide_eq_true (by kernel_rfl)) (by unfold Func.isWrapper; rw [if_neg (of_decide_eq_false (by kernel_rfl))]; exact ⟨rfl, rfl⟩)
    (fun os started H enc _ => lifted os started H enc)

theorem proved : Rows.FrameTailCardSaid :=
  Claim7.holds_tied_plain_at .later [] [.data] true (true, "bc5f86eb99d3c06fedda3b4994b5736fe233c369ee88c8eb7c96469c777af5fb") false
    row (fun _ h => by cases h) (by kernel_rfl) (fun _ h => by cases h) frameTail_row_tie rfl ⟨rfl, rfl⟩ (by kernel_rfl) rfl
    (fun f fn hf hfn => by
      obtain rfl : f = 7 := Option.some.inj ((show Tryd.prog.funcNamed "copyhold/copyholdlaw04.FrameTail" = some 7 by kernel_rfl).symm.trans hf) |>.symm
      obtain rfl : fn = Tryd.f7 := (Option.some.inj (Tryd.func7.symm.trans hfn)).symm
      refine ⟨by kernel_rfl, fun j t ht => ?_⟩
      rw [Tryd.params7] at ht
      rcases j with _ | j
      · obtain rfl : 25 = t := by simpa using ht
        exact (show Tryd.prog.wantsStandIn 25 = false by kernel_rfl)
      rcases j with _ | j
      · obtain rfl : 34 = t := by simpa using ht
        exact (show Tryd.prog.wantsStandIn 34 = false by kernel_rfl)
      rcases j with _ | j
      · obtain rfl : 34 = t := by simpa using ht
        exact (show Tryd.prog.wantsStandIn 34 = false by kernel_rfl)
      rcases j with _ | j
      · obtain rfl : 35 = t := by simpa using ht
        exact (show Tryd.prog.wantsStandIn 35 = false by kernel_rfl)
      simp at ht)
    (by kernel_rfl)
#print axioms proved
end Go.Proofs.YtmfabbncoekjhaaDoor.frameTail
