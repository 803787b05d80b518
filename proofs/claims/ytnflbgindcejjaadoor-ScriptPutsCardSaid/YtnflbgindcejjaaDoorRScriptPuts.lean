/- ScriptPuts, proved: for every input the law returns true. -/
import Derived.Test.YtnflbgindcejjaaDoorTabS
import Derived.Test.YtnflbgindcejjaaDoorLScriptPuts
import Derived.Test.YtnflbgindcejjaaDoorOpenAct
import Derived.Test.YtnflbgindcejjaaDoorTie
import Derived.Test.YtnflbgindcejjaaDoorCards
import Derived.Lib.SmallJoins
import Derived.SliceStrings
namespace Go.Proofs.YtnflbgindcejjaaDoor.scriptPuts
open Go.ChangeShapes Go.WideShapes Go.ChangeAt Go.RowKit Go.Joins
open Go.ChangeMaps (open_string shut_string)

set_option maxRecDepth 100000 in
theorem lifted (os : Os) (started : os.Started) (H : Type) (enc : TypeId × Value → H) :
    ReturnsInHanded {} Tryd.checked os 4 .any (fun w args => (Rows.scriptPutsSpec.pre enc Tryd.prog Tryd.f4 [] false w args ∧ laidMetH Tryd.prog tabL w) ∧ sizedMet enc Tryd.prog Tryd.f4 (OpenSpec.ofChange Rows.scriptPutsSpec) false w args)
      (Rows.scriptPutsSpec.post enc Tryd.prog Tryd.f4 false true false false) := by
  refine lift_laid (C := Tryd.checked) tabL own laidOut started (by kernel_rfl) Tryd.func4
    (ChangeSpec.witness_shaped (enc := enc) (C := Tryd.checked) (os := os) (X := fun w _ => laidMetH Tryd.prog tabL w) false (World.doorLaid Tryd.prog 200 os) #[.slice none 0 0] 8 rfl (World.shaped_of_RefB (by kernel_rfl) (by kernel_rfl)) (by kernel_rfl) (by kernel_rfl) (by kernel_rfl) (tab_met os _))
    (by kernel_rfl) rfl rfl Tryd.underlying4 (fun ds h => ?_) (fun W base args ds ps hval hA hL => ?_)
  · match ds, h with
    | [d0], _ => rfl
  · have hval' : ∀ (j : Nat) t v, Tryd.f4.params[j]? = some t → args[j]? = some v → Value.okWide Tryd.prog W .any base t v := hval
    have hA' : DataW.TrodAll enc Tryd.prog W 0 (fun _ => true) true Tryd.f4.params.toList args.toList ds ps := hA
    rw [Tryd.params4] at hA' hval'
    obtain ⟨v0, d0, rfl, rfl, h0⟩ := trodAll_one hA'
    obtain ⟨a0, n0, c0, rfl⟩ := okWide_slice Tryd.underlying36 (hval' 0 36 v0 rfl rfl)
    obtain ⟨x0, l0, m0, s0, t0, k0⟩ := open_acts h0
    exact ⟨rfl, law_puts x0 a0 n0 c0 W l0 m0 s0⟩

theorem row : Rows.ScriptPutsSaid :=
  OpenClaim.holds_of_wide 4 Tryd.f4 rfl rfl rfl rfl rfl rfl rfl ⟨rfl, rfl, rfl, rfl, rfl⟩ rfl rfl rfl rfl rfl (by kernel_rfl) Tryd.func4 (by kernel_rfl)
    (of_decide_eq_true (by kernel_rfl)) (by unfold Func.isWrapper; rw [if_neg (of_decide_eq_false (by kernel_rfl))]; exact ⟨rfl, rfl⟩)
    (fun os started H enc _ => lifted os started H enc)

theorem proved : Rows.ScriptPutsCardSaid :=
  Claim7.holds_tied_plain_at .later [] [.sentinel] true (true, "7e66b8fe49c97c2e7a3f0d34e69fd0b944d3f94a3ab87340e701591c9ac37efd") false
    row (fun _ h => by cases h) (by kernel_rfl) (fun _ h => by cases h) scriptPuts_row_tie rfl ⟨rfl, rfl⟩ (by kernel_rfl) rfl
    (fun f fn hf hfn => by
      obtain rfl : f = 4 := Option.some.inj ((show Tryd.prog.funcNamed "copyhold/copyholdlaw29.ScriptPuts" = some 4 by kernel_rfl).symm.trans hf) |>.symm
      obtain rfl : fn = Tryd.f4 := (Option.some.inj (Tryd.func4.symm.trans hfn)).symm
      refine ⟨by kernel_rfl, fun j t ht => ?_⟩
      rw [Tryd.params4] at ht
      rcases j with _ | j
      · obtain rfl : 36 = t := by simpa using ht
        exact (show Tryd.prog.wantsStandIn 36 = false by kernel_rfl)
      simp at ht)
    (by kernel_rfl)
#print axioms proved
end Go.Proofs.YtnflbgindcejjaaDoor.scriptPuts
