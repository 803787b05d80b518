/- ScriptBack, proved: for every input the law returns true. -/
import Derived.Test.YtnflbgindcejjaaDoorTabS
import Derived.Test.YtnflbgindcejjaaDoorLScriptBack
import Derived.Test.YtnflbgindcejjaaDoorOpenAct
import Derived.Test.YtnflbgindcejjaaDoorTie
import Derived.Test.YtnflbgindcejjaaDoorCards
import Derived.Lib.SmallJoins
import Derived.SliceStrings
namespace Go.Proofs.YtnflbgindcejjaaDoor.scriptBack
open Go.ChangeShapes Go.WideShapes Go.ChangeAt Go.RowKit Go.Joins
open Go.ChangeMaps (open_string shut_string)

set_option maxRecDepth 100000 in
theorem lifted (os : Os) (started : os.Started) (H : Type) (enc : TypeId × Value → H) :
    ReturnsInHanded {} Tryd.checked os 6 .any (fun w args => (Rows.scriptBackSpec.pre enc Tryd.prog Tryd.f6 [] false w args ∧ laidMetH Tryd.prog tabL w) ∧ sizedMet enc Tryd.prog Tryd.f6 (OpenSpec.ofChange Rows.scriptBackSpec) false w args)
      (Rows.scriptBackSpec.post enc Tryd.prog Tryd.f6 false true false false) := by
  refine lift_laid (C := Tryd.checked) tabL own laidOut started (by kernel_rfl) Tryd.func6
    (ChangeSpec.witness_shaped (enc := enc) (C := Tryd.checked) (os := os) (X := fun w _ => laidMetH Tryd.prog tabL w) false (World.doorLaid Tryd.prog 200 os) #[.slice none 0 0, .slice none 0 0, .int .u16 0] 8 rfl (World.shaped_of_RefB (by kernel_rfl) (by kernel_rfl)) (by kernel_rfl) (by kernel_rfl) (by kernel_rfl) (tab_met os _))
    (by kernel_rfl) rfl rfl Tryd.underlying4 (fun ds h => ?_) (fun W base args ds ps hval hA hL => ?_)
  · match ds, h with
    | [d0, d1, d2], _ => rfl
  · have hval' : ∀ (j : Nat) t v, Tryd.f6.params[j]? = some t → args[j]? = some v → Value.okWide Tryd.prog W .any base t v := hval
    have hA' : DataW.TrodAll enc Tryd.prog W 0 (fun _ => true) true Tryd.f6.params.toList args.toList ds ps := hA
    rw [Tryd.params6] at hA' hval'
    obtain ⟨v0, v1, v2, d0, d1, d2, p0, p1, p2, rfl, rfl, rfl, h0, h1, h2⟩ := trodAll_three hA'
    obtain ⟨a0, n0, c0, rfl⟩ := okWide_slice Tryd.underlying36 (hval' 0 36 v0 rfl rfl)
    obtain ⟨x0, l0, m0, s0, t0, k0⟩ := open_acts h0
    obtain ⟨a1, n1, c1, rfl⟩ := okWide_slice Tryd.underlying36 (hval' 1 36 v1 rfl rfl)
    obtain ⟨x1, l1, m1, s1, t1, k1⟩ := open_acts h1
    obtain ⟨x2, rfl, rfl, rfl, w2⟩ := open_int Tryd.underlying47 (hval' 2 47 v2 rfl rfl) h2
    have b2 : 0 ≤ x2 ∧ x2 < 65536 := by
      simp [Lit.wf, IntKind.min, IntKind.max, IntKind.signed, IntKind.bits] at w2
      omega
    obtain ⟨y2, rfl⟩ : ∃ y : Nat, x2 = (y : Int) := ⟨x2.toNat, by omega⟩
    exact ⟨rfl, law_back x0 a0 n0 c0 x1 a1 n1 c1 y2 W l0 m0 s0 k0 l1 m1 s1 k1 (by omega)⟩

theorem row : Rows.ScriptBackSaid :=
  OpenClaim.holds_of_wide 6 Tryd.f6 rfl rfl rfl rfl rfl rfl rfl ⟨rfl, rfl, rfl, rfl, rfl⟩ rfl rfl rfl rfl rfl (by kernel_rfl) Tryd.func6 (by kernel_rfl)
    (of_decide_eq_true (by kernel_rfl)) (by unfold Func.isWrapper; rw [if_neg (of_decide_eq_false (by kernel_rfl))]; exact ⟨rfl, rfl⟩)
    (fun os started H enc _ => lifted os started H enc)

theorem proved : Rows.ScriptBackCardSaid :=
  Claim7.holds_tied_plain_at .later [] [.sentinel] true (true, "7e66b8fe49c97c2e7a3f0d34e69fd0b944d3f94a3ab87340e701591c9ac37efd") false
    row (fun _ h => by cases h) (by kernel_rfl) (fun _ h => by cases h) scriptBack_row_tie rfl ⟨rfl, rfl⟩ (by kernel_rfl) rfl
    (fun f fn hf hfn => by
      obtain rfl : f = 6 := Option.some.inj ((show Tryd.prog.funcNamed "copyhold/copyholdlaw29.ScriptBack" = some 6 by kernel_rfl).symm.trans hf) |>.symm
      obtain rfl : fn = Tryd.f6 := (Option.some.inj (Tryd.func6.symm.trans hfn)).symm
      refine ⟨by kernel_rfl, fun j t ht => ?_⟩
      rw [Tryd.params6] at ht
      rcases j with _ | j
      · obtain rfl : 36 = t := by simpa using ht
        exact (show Tryd.prog.wantsStandIn 36 = false by kernel_rfl)
      rcases j with _ | j
      · obtain rfl : 36 = t := by simpa using ht
        exact (show Tryd.prog.wantsStandIn 36 = false by kernel_rfl)
      rcases j with _ | j
      · obtain rfl : 47 = t := by simpa using ht
        exact (show Tryd.prog.wantsStandIn 47 = false by kernel_rfl)
      simp at ht)
    (by kernel_rfl)
#print axioms proved
end Go.Proofs.YtnflbgindcejjaaDoor.scriptBack
