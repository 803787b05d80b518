/- ProtoKnown, proved: for every input the law returns true. -/
import Derived.Test.YtcobfoiajdbahaaDoorTabQ
import Derived.Test.YtcobfoiajdbahaaDoorLProtoKnownM
import Derived.Test.YtcobfoiajdbahaaDoorTie
import Derived.Test.YtcobfoiajdbahaaDoorCards
import Derived.Lib.SmallJoins
import Derived.SliceStrings
namespace Go.Proofs.YtcobfoiajdbahaaDoor.protoKnown
open Go.ChangeShapes Go.WideShapes Go.ChangeAt Go.RowKit Go.Joins
open Go.ChangeMaps (open_string shut_string)

set_option maxRecDepth 100000 in
theorem lifted (os : Os) (started : os.Started) (H : Type) (enc : TypeId × Value → H) :
    ReturnsInHanded {} Tryd.checked os 9 .any (fun w args => (Rows.protoKnownSpec.pre enc Tryd.prog Tryd.f9 [] false w args ∧ laidMetH Tryd.prog tabL w) ∧ sizedMet enc Tryd.prog Tryd.f9 (OpenSpec.ofChange Rows.protoKnownSpec) false w args)
      (Rows.protoKnownSpec.post enc Tryd.prog Tryd.f9 false true false false) := by
  refine lift_laid (C := Tryd.checked) tabL own laidOut started (by kernel_rfl) Tryd.func9
    (ChangeSpec.witness_shaped (enc := enc) (C := Tryd.checked) (os := os) (X := fun w _ => laidMetH Tryd.prog tabL w) false (World.doorLaid Tryd.prog 14 os) #[] 8 rfl (World.shaped_of_RefB (by kernel_rfl) (by kernel_rfl)) (by kernel_rfl) (by kernel_rfl) (by kernel_rfl) (tab_met os _))
    (by kernel_rfl) rfl rfl Tryd.underlying4 (fun ds h => ?_) (fun W base args ds ps hval hA hL => ?_)
  · match ds, h with
    | [], _ => rfl
  · have hA' : DataW.TrodAll enc Tryd.prog W 0 (fun _ => true) true Tryd.f9.params.toList args.toList ds ps := hA
    rw [Tryd.params9] at hA'
    have ht := tab_of_laid hL
    obtain ⟨rfl, rfl, rfl⟩ := trodAll_none hA'
    exact ⟨rfl, law_known W ht⟩

theorem row : Rows.ProtoKnownSaid :=
  OpenClaim.holds_of_wide 9 Tryd.f9 rfl rfl rfl rfl rfl rfl rfl ⟨rfl, rfl, rfl, rfl, rfl⟩ rfl rfl rfl rfl rfl (by kernel_rfl) Tryd.func9 (by kernel_rfl)
    (of_decide_eq_true (by kernel_rfl)) (by unfold Func.isWrapper; rw [if_neg (of_decide_eq_false (by kernel_rfl))]; exact ⟨rfl, rfl⟩)
    (fun os started H enc _ => lifted os started H enc)

theorem proved : Rows.ProtoKnownCardSaid :=
  Claim7.holds_tied_plain_at .later [] [.data] true (true, "59ffc2e3a0e98605a80606d6bbcb5b1fd09de06e98ec17ac82a78db08d379153") false
    row (fun _ h => by cases h) (by kernel_rfl) (fun _ h => by cases h) protoKnown_row_tie rfl ⟨rfl, rfl⟩ (by kernel_rfl) rfl
    (fun f fn hf hfn => by
      obtain rfl : f = 9 := Option.some.inj ((show Tryd.prog.funcNamed "copyhold/copyholdlaw26.ProtoKnown" = some 9 by kernel_rfl).symm.trans hf) |>.symm
      obtain rfl : fn = Tryd.f9 := (Option.some.inj (Tryd.func9.symm.trans hfn)).symm
      refine ⟨by kernel_rfl, fun j t ht => ?_⟩
      rw [Tryd.params9] at ht
      simp at ht)
    (by kernel_rfl)
#print axioms proved
end Go.Proofs.YtcobfoiajdbahaaDoor.protoKnown
