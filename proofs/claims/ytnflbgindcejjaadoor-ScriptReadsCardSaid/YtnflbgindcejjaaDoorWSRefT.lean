/- The walks of the document's int31 and takeCrash (script). -/
import Derived.Test.YtnflbgindcejjaaDoorWSCrash
import Derived.Test.YtnflbgindcejjaaDoorWReadVarR
namespace Go.Proofs.YtnflbgindcejjaaDoor
open Go.RowKit
set_option linter.unusedVariables false
set_option linter.unusedSimpArgs false
attribute [local go_sem] str_dropS str_takeS

/-- What int31 gives. -/
def Int31Did (s : List UInt8) (p : Nat) (w : World) (e : Ending) (w' : World) : Prop :=
  ((P.rdS (s.drop p) = none ∧ e = .returned (.tuple #[.int .i64 0, .int .i64 (-1)])) ∨ ∃ (n q : Nat), P.rdS (s.drop p) = some (n, s.drop q) ∧ p ≤ q ∧ q ≤ s.length ∧ n ≤ 2147483647 ∧ e = .returned (.tuple #[.int .i64 n, .int .i64 q])) ∧ Below w.heap.size w w'
set_option maxRecDepth 100000 in
set_option maxHeartbeats 4000000 in
theorem int31_any (s : List UInt8) (p : Nat) (hp : p ≤ s.length) (hs : s.length ≤ 1000000) (w : World) :
    Calls Tryd.prog 56 #[S s, .int .i64 p] w (Int31Did s p w) := by
  have HV := Lib.hid (fun wx => refReadVar_any (s.drop p) wx (by rw [List.length_drop]; omega))
  have Hr := Lib.hid (show P.rdS (s.drop p) = if P.rOk (s.drop p) = true ∧ P.rNum (s.drop p) ≤ 2147483647 then some (P.rNum (s.drop p), s.drop (p + P.rSize (s.drop p))) else none by unfold P.rdS; rw [List.drop_drop])
  have hr := fun h => P.row_read (s.drop p) h
  have hd : (s.drop p).length = s.length - p := List.length_drop
  generalize hR : P.rdS (s.drop p) = R at *
  generalize hk : P.rOk (s.drop p) = ok at *
  generalize P.rNum (s.drop p) = n at *
  generalize P.rSize (s.drop p) = z at *
  cases ok with
  | false =>
    have Hr2 := Lib.hid (show R = none by rw [Hr.out, if_neg (by simp)])
    clear Hr hr
    go_enter Tryd.func56, Tryd.ntmps56
    go_wp2_with (go_at_call 45; (with_reducible refine (HV.out _).mono ?_); rintro e w1 ⟨rfl, hb1⟩)
    exact bodyPost_ret (v := .tuple #[.int .i64 0, .int .i64 (-1)]) (by simp [results, Tryd.results56, go_sem]) rfl ⟨.inl ⟨hR.trans Hr2.out, rfl⟩, hb1⟩
  | true =>
    obtain ⟨_, hz, _, hn64⟩ := hr rfl
    by_cases hn : n ≤ 2147483647
    · have Hr2 := Lib.hid (show R = some (n, s.drop (p + z)) by rw [Hr.out, if_pos ⟨rfl, hn⟩])
      have hn' : decide ((2147483647 : Int) < (n : Int)) = false := decide_eq_false (by omega)
      have hwn : wrap64 (n : Int) = (n : Int) := by rw [← i64_wrap64, IntWalk.i64_in _ (by omega)]
      have hwp : wrap64 ((p : Int) + (z : Int)) = ((p + z : Nat) : Int) := by rw [← i64_wrap64, IntWalk.i64_in _ (by omega)]; omega
      have hpz : p + z ≤ s.length := by omega
      clear Hr hr
      go_enter Tryd.func56, Tryd.ntmps56
      go_wp2_with (go_at_call 45; (with_reducible refine (HV.out _).mono ?_); rintro e w1 ⟨rfl, hb1⟩)
      exact bodyPost_ret (v := .tuple #[.int .i64 n, .int .i64 ((p : Int) + (z : Int))]) (by simp [results, Tryd.results56, go_sem]) rfl ⟨.inr ⟨n, p + z, hR.trans Hr2.out, by omega, hpz, hn, by rw [Int.natCast_add]⟩, hb1⟩
    · have Hr2 := Lib.hid (show R = none by rw [Hr.out, if_neg (fun h => hn h.2)])
      have hn' : decide ((2147483647 : Int) < (n : Int)) = true := decide_eq_true (by omega)
      clear Hr hr
      go_enter Tryd.func56, Tryd.ntmps56
      go_wp2_with (go_at_call 45; (with_reducible refine (HV.out _).mono ?_); rintro e w1 ⟨rfl, hb1⟩)
      exact bodyPost_ret (v := .tuple #[.int .i64 0, .int .i64 (-1)]) (by simp [results, Tryd.results56, go_sem]) rfl ⟨.inl ⟨hR.trans Hr2.out, rfl⟩, hb1⟩
end Go.Proofs.YtnflbgindcejjaaDoor
