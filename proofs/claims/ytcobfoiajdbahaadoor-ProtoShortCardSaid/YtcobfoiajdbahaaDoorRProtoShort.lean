/- ProtoShort, proved: for every input the law returns true. -/
import Derived.Test.YtcobfoiajdbahaaDoorTabQ
import Derived.Test.YtcobfoiajdbahaaDoorLProtoShortM
import Derived.Test.YtcobfoiajdbahaaDoorTie
import Derived.Test.YtcobfoiajdbahaaDoorCards
import Derived.Lib.SmallJoins
import Derived.SliceStrings
namespace Go.Proofs.YtcobfoiajdbahaaDoor.protoShort
open Go.ChangeShapes Go.WideShapes Go.ChangeAt Go.RowKit Go.Joins
open Go.ChangeMaps (open_string shut_string)

set_option maxRecDepth 100000 in
theorem lifted (os : Os) (started : os.Started) (H : Type) (enc : TypeId × Value → H) :
    ReturnsInHanded {} Tryd.checked os 8 .any (fun w args => (Rows.protoShortSpec.pre enc Tryd.prog Tryd.f8 [] false w args ∧ laidMetH Tryd.prog tabL w) ∧ sizedMet enc Tryd.prog Tryd.f8 (OpenSpec.ofChange Rows.protoShortSpec) false w args)
      (Rows.protoShortSpec.post enc Tryd.prog Tryd.f8 false true false false) := by
  refine lift_laid (C := Tryd.checked) tabL own laidOut started (by kernel_rfl) Tryd.func8
    (ChangeSpec.witness_shaped (enc := enc) (C := Tryd.checked) (os := os) (X := fun w _ => laidMetH Tryd.prog tabL w) false (World.doorLaid Tryd.prog 14 os) #[.string ByteArray.empty, .int .u16 0, .string ByteArray.empty] 8 rfl (World.shaped_of_RefB (by kernel_rfl) (by kernel_rfl)) (by kernel_rfl) (by kernel_rfl) (by kernel_rfl) (tab_met os _))
    (by kernel_rfl) rfl rfl Tryd.underlying4 (fun ds h => ?_) (fun W base args ds ps hval hA hL => ?_)
  · match ds, h with
    | [d0, d1, d2], _ => rfl
  · have hval' : ∀ (j : Nat) t v, Tryd.f8.params[j]? = some t → args[j]? = some v → Value.okWide Tryd.prog W .any base t v := hval
    have hA' : DataW.TrodAll enc Tryd.prog W 0 (fun _ => true) true Tryd.f8.params.toList args.toList ds ps := hA
    rw [Tryd.params8] at hA' hval'
    have ht := tab_of_laid hL
    obtain ⟨v0, v1, v2, d0, d1, d2, p0, p1, p2, rfl, rfl, rfl, h0, h1, h2⟩ := trodAll_three hA'
    obtain ⟨⟨⟨x0⟩⟩, rfl, rfl, rfl, w0⟩ := open_string Tryd.underlying9 (hval' 0 9 v0 rfl rfl) h0
    obtain ⟨x1, rfl, rfl, rfl, w1⟩ := open_int Tryd.underlying73 (hval' 1 73 v1 rfl rfl) h1
    have b1 : 0 ≤ x1 ∧ x1 < 65536 := by
      simp [Lit.wf, IntKind.min, IntKind.max, IntKind.signed, IntKind.bits] at w1
      omega
    obtain ⟨y1, rfl⟩ : ∃ y : Nat, x1 = (y : Int) := ⟨x1.toNat, by omega⟩
    obtain ⟨⟨⟨x2⟩⟩, rfl, rfl, rfl, w2⟩ := open_string Tryd.underlying9 (hval' 2 9 v2 rfl rfl) h2
    exact ⟨rfl, law_short x0 y1 x2 W (by have h := w0; unfold maxLen at h; exact h) (by omega) (by have h := w2; unfold maxLen at h; exact h) ht⟩

theorem row : Rows.ProtoShortSaid :=
  OpenClaim.holds_of_wide 8 Tryd.f8 rfl rfl rfl rfl rfl rfl rfl ⟨rfl, rfl, rfl, rfl, rfl⟩ rfl rfl rfl rfl rfl (by kernel_rfl) Tryd.func8 (by kernel_rfl)
    (of_decide_eq_true (by kernel_rfl)) (by unfold Func.isWrapper; rw [if_neg (of_decide_eq_false (by kernel_rfl))]; exact ⟨rfl, rfl⟩)
    (fun os started H enc _ => lifted os started H enc)

theorem proved : Rows.ProtoShortCardSaid :=
  Claim7.holds_tied_plain_at .later [] [.data] true (true, "59ffc2e3a0e98605a80606d6bbcb5b1fd09de06e98ec17ac82a78db08d379153") false
    row (fun _ h => by cases h) (by kernel_rfl) (fun _ h => by cases h) protoShort_row_tie rfl ⟨rfl, rfl⟩ (by kernel_rfl) rfl
    (fun f fn hf hfn => by
      obtain rfl : f = 8 := Option.some.inj ((show Tryd.prog.funcNamed "copyhold/copyholdlaw26.ProtoShort" = some 8 by kernel_rfl).symm.trans hf) |>.symm
      obtain rfl : fn = Tryd.f8 := (Option.some.inj (Tryd.func8.symm.trans hfn)).symm
      refine ⟨by kernel_rfl, fun j t ht => ?_⟩
      rw [Tryd.params8] at ht
      rcases j with _ | j
      · obtain rfl : 9 = t := by simpa using ht
        exact (show Tryd.prog.wantsStandIn 9 = false by kernel_rfl)
      rcases j with _ | j
      · obtain rfl : 73 = t := by simpa using ht
        exact (show Tryd.prog.wantsStandIn 73 = false by kernel_rfl)
      rcases j with _ | j
      · obtain rfl : 9 = t := by simpa using ht
        exact (show Tryd.prog.wantsStandIn 9 = false by kernel_rfl)
      simp at ht)
    (by kernel_rfl)
#print axioms proved
end Go.Proofs.YtcobfoiajdbahaaDoor.protoShort
