/- ProtoHears, proved: for every input the law returns true. -/
import Derived.Test.YtcobfoiajdbahaaDoorTabQ
import Derived.Test.YtcobfoiajdbahaaDoorLProtoHears
import Derived.Test.YtcobfoiajdbahaaDoorTie
import Derived.Test.YtcobfoiajdbahaaDoorCards
import Derived.Lib.SmallJoins
import Derived.SliceStrings
namespace Go.Proofs.YtcobfoiajdbahaaDoor.protoHears
open Go.ChangeShapes Go.WideShapes Go.ChangeAt Go.RowKit Go.Joins
open Go.ChangeMaps (open_string shut_string)
set_option maxRecDepth 100000 in
theorem lifted (os : Os) (started : os.Started) (H : Type) (enc : TypeId × Value → H) :
    ReturnsInHanded {} Tryd.checked os 6 .any (fun w args => (Rows.protoHearsSpec.pre enc Tryd.prog Tryd.f6 [] false w args ∧ laidMetH Tryd.prog tabL w) ∧ sizedMet enc Tryd.prog Tryd.f6 (OpenSpec.ofChange Rows.protoHearsSpec) false w args)
      (Rows.protoHearsSpec.post enc Tryd.prog Tryd.f6 false true false false) := by
  refine lift_laid (C := Tryd.checked) tabL own laidOut started (by kernel_rfl) Tryd.func6
    (ChangeSpec.witness_shaped (enc := enc) (C := Tryd.checked) (os := os) (X := fun w _ => laidMetH Tryd.prog tabL w) false (World.doorLaid Tryd.prog 14 os) #[.string ByteArray.empty] 8 rfl (World.shaped_of_RefB (by kernel_rfl) (by kernel_rfl)) (by kernel_rfl) (by kernel_rfl) (by kernel_rfl) (tab_met os _))
    (by kernel_rfl) rfl rfl Tryd.underlying4 (fun ds h => ?_) (fun W base args ds ps hval hA hL => ?_)
  · match ds, h with
    | [d0], _ => rfl
  · have hval' : ∀ (j : Nat) t v, Tryd.f6.params[j]? = some t → args[j]? = some v → Value.okWide Tryd.prog W .any base t v := hval
    have hA' : DataW.TrodAll enc Tryd.prog W 0 (fun _ => true) true Tryd.f6.params.toList args.toList ds ps := hA
    rw [Tryd.params6] at hA' hval'
    have ht := tab_of_laid hL
    obtain ⟨v0, d0, rfl, rfl, h0⟩ := trodAll_one hA'
    obtain ⟨⟨⟨x0⟩⟩, rfl, rfl, rfl, w0⟩ := open_string Tryd.underlying9 (hval' 0 9 v0 rfl rfl) h0
    exact ⟨rfl, law_hears x0 W (by have h := w0; unfold maxLen at h; exact h) ht⟩
theorem row : Rows.ProtoHearsSaid :=
  OpenClaim.holds_of_wide 6 Tryd.f6 rfl rfl rfl rfl rfl rfl rfl ⟨rfl, rfl, rfl, rfl, rfl⟩ rfl rfl rfl rfl rfl (by kernel_rfl) Tryd.func6 (by kernel_rfl)
    (of_decide_eq_true (by kernel_rfl)) (by unfold Func.isWrapper; rw [if_neg (of_decide_eq_false (by kernel_rfl))]; exact ⟨rfl, rfl⟩)
    (fun os started H enc _ => lifted os started H enc)
theorem proved : Rows.ProtoHearsCardSaid :=
  Claim7.holds_tied_plain_at .later [] [.data] true (true, "59ffc2e3a0e98605a80606d6bbcb5b1fd09de06e98ec17ac82a78db08d379153") false
    row (fun _ h => by cases h) (by kernel_rfl) (fun _ h => by cases h) protoHears_row_tie rfl ⟨rfl, rfl⟩ (by kernel_rfl) rfl
    (fun f fn hf hfn => by
      obtain rfl : f = 6 := Option.some.inj ((show Tryd.prog.funcNamed "copyhold/copyholdlaw26.ProtoHears" = some 6 by kernel_rfl).symm.trans hf) |>.symm
      obtain rfl : fn = Tryd.f6 := (Option.some.inj (Tryd.func6.symm.trans hfn)).symm
      refine ⟨by kernel_rfl, fun j t ht => ?_⟩
      rw [Tryd.params6] at ht
      rcases j with _ | j
      · obtain rfl : 9 = t := by simpa using ht
        exact (show Tryd.prog.wantsStandIn 9 = false by kernel_rfl)
      simp at ht)
    (by kernel_rfl)
#print axioms proved
end Go.Proofs.YtcobfoiajdbahaaDoor.protoHears
