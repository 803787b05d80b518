/- ScriptEach, proved: for every input the law returns true. -/
import Derived.Test.YtnflbgindcejjaaDoorTabS
import Derived.Test.YtnflbgindcejjaaDoorLScriptEach
import Derived.Test.YtnflbgindcejjaaDoorOpenAct
import Derived.Test.YtnflbgindcejjaaDoorTie
import Derived.Test.YtnflbgindcejjaaDoorCards
import Derived.Lib.SmallJoins
import Derived.SliceStrings
namespace Go.Proofs.YtnflbgindcejjaaDoor.scriptEach
open Go.ChangeShapes Go.WideShapes Go.ChangeAt Go.RowKit Go.Joins
open Go.ChangeMaps (open_string shut_string)

set_option maxRecDepth 100000 in
theorem lifted (os : Os) (started : os.Started) (H : Type) (enc : TypeId × Value → H) :
    ReturnsInHanded {} Tryd.checked os 8 .any (fun w args => (Rows.scriptEachSpec.pre enc Tryd.prog Tryd.f8 [] false w args ∧ laidMetH Tryd.prog tabL w) ∧ sizedMet enc Tryd.prog Tryd.f8 (OpenSpec.ofChange Rows.scriptEachSpec) false w args)
      (Rows.scriptEachSpec.post enc Tryd.prog Tryd.f8 false true false false) := by
  refine lift_laid (C := Tryd.checked) tabL own laidOut started (by kernel_rfl) Tryd.func8
    (ChangeSpec.witness_shaped (enc := enc) (C := Tryd.checked) (os := os) (X := fun w _ => laidMetH Tryd.prog tabL w) false (World.doorLaid Tryd.prog 200 os) #[.slice none 0 0] 8 rfl (World.shaped_of_RefB (by kernel_rfl) (by kernel_rfl)) (by kernel_rfl) (by kernel_rfl) (by kernel_rfl) (tab_met os _))
    (by kernel_rfl) rfl rfl Tryd.underlying4 (fun ds h => ?_) (fun W base args ds ps hval hA hL => ?_)
  · match ds, h with
    | [d0], _ => rfl
  · have hval' : ∀ (j : Nat) t v, Tryd.f8.params[j]? = some t → args[j]? = some v → Value.okWide Tryd.prog W .any base t v := hval
    have hA' : DataW.TrodAll enc Tryd.prog W 0 (fun _ => true) true Tryd.f8.params.toList args.toList ds ps := hA
    rw [Tryd.params8] at hA' hval'
    obtain ⟨v0, d0, rfl, rfl, h0⟩ := trodAll_one hA'
    obtain ⟨a0, n0, c0, rfl⟩ := okWide_slice Tryd.underlying36 (hval' 0 36 v0 rfl rfl)
    obtain ⟨x0, l0, m0, s0, t0, k0⟩ := open_acts h0
    exact ⟨rfl, law_each x0 a0 n0 c0 W l0 m0 s0 k0⟩

theorem row : Rows.ScriptEachSaid :=
  OpenClaim.holds_of_wide 8 Tryd.f8 rfl rfl rfl rfl rfl rfl rfl ⟨rfl, rfl, rfl, rfl, rfl⟩ rfl rfl rfl rfl rfl (by kernel_rfl) Tryd.func8 (by kernel_rfl)
    (of_decide_eq_true (by kernel_rfl)) (by unfold Func.isWrapper; rw [if_neg (of_decide_eq_false (by kernel_rfl))]; exact ⟨rfl, rfl⟩)
    (fun os started H enc _ => lifted os started H enc)

theorem proved : Rows.ScriptEachCardSaid :=
  Claim7.holds_tied_plain_at .later [] [.sentinel] true (true, "7e66b8fe49c97c2e7a3f0d34e69fd0b944d3f94a3ab87340e701591c9ac37efd") false
    row (fun _ h => by cases h) (by kernel_rfl) (fun _ h => by cases h) scriptEach_row_tie rfl ⟨rfl, rfl⟩ (by kernel_rfl) rfl
    (fun f fn hf hfn => by
      obtain rfl : f = 8 := Option.some.inj ((show Tryd.prog.funcNamed "copyhold/copyholdlaw29.ScriptEach" = some 8 by kernel_rfl).symm.trans hf) |>.symm
      obtain rfl : fn = Tryd.f8 := (Option.some.inj (Tryd.func8.symm.trans hfn)).symm
      refine ⟨by kernel_rfl, fun j t ht => ?_⟩
      rw [Tryd.params8] at ht
      rcases j with _ | j
      · obtain rfl : 36 = t := by simpa using ht
        exact (show Tryd.prog.wantsStandIn 36 = false by kernel_rfl)
      simp at ht)
    (by kernel_rfl)
#print axioms proved
end Go.Proofs.YtnflbgindcejjaaDoor.scriptEach
