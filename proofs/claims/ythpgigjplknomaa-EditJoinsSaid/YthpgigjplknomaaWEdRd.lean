/- The walks of edit's reader: number, whole, text. -/
import Derived.Test.YthpgigjplknomaaWEdOps
import Derived.Test.YthpgigjplknomaaWBut
import Derived.Test.YthpgigjplknomaaPEdit2
namespace Go.Proofs.Ythpgigjplknomaa
open Go.RowKit
set_option linter.unusedVariables false

abbrev RdBx (w : World) (g : Nat) (s : List UInt8) (bad : Bool) : Prop := Bx w g 67 #[S s, .bool bad]
theorem str_dropN (s : List UInt8) (k : Nat) : (ByteArray.mk s.toArray).extract k s.length = ⟨(s.drop k).toArray⟩ := by
  rw [ByteArray.extract_mk]
  congr 2
  exact List.take_of_length_le (by simp)
attribute [local go_sem] str_dropN

set_option maxRecDepth 100000 in
set_option maxHeartbeats 2000000 in
theorem number_rd (g : Nat) (s : List UInt8) (bad : Bool) (z : Int) (most : Nat) (hz : z = (most : Int)) (w : World) (hs : s.length ≤ 1000000) (hx : RdBx w g s bad) :
    Calls Try.prog 34 #[.pointer (some ⟨g, 0, none⟩), .int .u64 z] w fun e w' => e = .returned (V64 (P.rdS most s bad).1) ∧ RdBx w' g (P.rdS most s bad).2.1 (P.rdS most s bad).2.2 ∧ But g w w' := by
  subst hz
  have HV := Lib.hid (fun wx => readVar_any s wx (by omega))
  have hlt := hx.lt
  cases bad with
  | true =>
    have Hn := Lib.hid (show P.rdS most s true = (0, (s, true)) by unfold P.rdS; rw [if_neg (by simp)])
    generalize P.rOk s = ok at *
    generalize P.rNum s = nn at *
    generalize P.rSize s = ss at *
    generalize P.rdS most s true = res at *
    obtain ⟨x0, x1, f0, f1⟩ := hx.two
    go_enter Try.func34, Try.ntmps34
    go_wp2_with (go_at_call 52; (with_reducible refine (HV.out _).mono ?_); rintro e w1 ⟨rfl, hb1⟩; have hx1 := hx.up hb1; obtain ⟨x0', x1', f0', f1'⟩ := hx1.two)
    go_ret
    exact ⟨by rw [Hn.out]; rfl, by rw [Hn.out]; exact hx1.set 1 (.bool true), (But.of hb1).set 1 _⟩
  | false =>
    cases hok : P.rOk s with
    | false =>
      have Hn := Lib.hid (show P.rdS most s false = (0, (s, true)) by unfold P.rdS; rw [hok, if_neg (by simp)])
      rw [hok] at HV
      generalize P.rNum s = nn at *
      generalize P.rSize s = ss at *
      generalize P.rdS most s false = res at *
      obtain ⟨x0, x1, f0, f1⟩ := hx.two
      go_enter Try.func34, Try.ntmps34
      go_wp2_with (go_at_call 52; (with_reducible refine (HV.out _).mono ?_); rintro e w1 ⟨rfl, hb1⟩; have hx1 := hx.up hb1; obtain ⟨x0', x1', f0', f1'⟩ := hx1.two)
      go_ret
      exact ⟨by rw [Hn.out]; rfl, by rw [Hn.out]; exact hx1.set 1 (.bool true), (But.of hb1).set 1 _⟩
    | true =>
      have hsz := (P.row_read s hok).2.1
      rw [hok] at HV
      by_cases hm : P.rNum s ≤ most
      · have Hn := Lib.hid (show P.rdS most s false = (P.rNum s, (s.drop (P.rSize s), false)) by unfold P.rdS; rw [hok, if_pos ⟨rfl, rfl, hm⟩])
        have hm1 : decide (most < P.rNum s) = false := decide_eq_false (by omega)
        have hm2 : ((P.rNum s : Nat) : Int) ≤ (most : Int) := by omega
        clear hok
        generalize P.rNum s = nn at *
        generalize P.rSize s = ss at *
        generalize P.rdS most s false = res at *
        clear hm
        obtain ⟨x0, x1, f0, f1⟩ := hx.two
        go_enter Try.func34, Try.ntmps34
        go_wp2_with (go_at_call 52; (with_reducible refine (HV.out _).mono ?_); rintro e w1 ⟨rfl, hb1⟩; have hx1 := hx.up hb1; obtain ⟨x0', x1', f0', f1'⟩ := hx1.two)
        go_ret
        exact ⟨by rw [Hn.out]; rfl, by rw [Hn.out]; exact (hx1.set 1 (.bool false)).set 0 _, ((But.of hb1).set 1 _).set 0 _⟩
      · have Hn := Lib.hid (show P.rdS most s false = (0, (s, true)) by unfold P.rdS; rw [if_neg (fun h => hm h.2.2)])
        have hm1 : decide (most < P.rNum s) = true := decide_eq_true (by omega)
        have hm2 : (most : Int) < ((P.rNum s : Nat) : Int) := by omega
        clear hok
        generalize P.rNum s = nn at *
        generalize P.rSize s = ss at *
        generalize P.rdS most s false = res at *
        clear hm
        obtain ⟨x0, x1, f0, f1⟩ := hx.two
        go_enter Try.func34, Try.ntmps34
        go_wp2_with (go_at_call 52; (with_reducible refine (HV.out _).mono ?_); rintro e w1 ⟨rfl, hb1⟩; have hx1 := hx.up hb1; obtain ⟨x0', x1', f0', f1'⟩ := hx1.two)
        go_ret
        exact ⟨by rw [Hn.out]; rfl, by rw [Hn.out]; exact hx1.set 1 (.bool true), (But.of hb1).set 1 _⟩
set_option maxRecDepth 100000 in
set_option maxHeartbeats 2000000 in
theorem whole_rd (g : Nat) (s : List UInt8) (bad : Bool) (w : World) (hs : s.length ≤ 1000000) (hx : RdBx w g s bad) :
    Calls Try.prog 35 #[.pointer (some ⟨g, 0, none⟩)] w fun e w' => e = .returned (.int .i64 ((P.rdS 9223372036854775807 s bad).1 : Nat)) ∧ RdBx w' g (P.rdS 9223372036854775807 s bad).2.1 (P.rdS 9223372036854775807 s bad).2.2 ∧ But g w w' := by
  have HN := Lib.hid (number_rd g s bad 9223372036854775807 9223372036854775807 rfl w hs hx)
  have hle := P.rdS_le 9223372036854775807 s bad
  generalize P.rdS 9223372036854775807 s bad = res at *
  obtain ⟨r1, r2, r3⟩ := res
  simp only at HN hle
  have hw : IntKind.i64.wrap (r1 : Int) = (r1 : Int) := IntWalk.i64_in _ (by omega)
  go_enter Try.func35, Try.ntmps35
  go_wp2_with (go_at_call 34; (with_reducible refine HN.out.mono ?_); rintro e w1 ⟨rfl, hx1, hb1⟩)
  go_ret
  exact ⟨rfl, hx1, hb1⟩
set_option maxRecDepth 100000 in
set_option maxHeartbeats 2000000 in
theorem text_rd (g : Nat) (s : List UInt8) (bad : Bool) (w : World) (hs : s.length ≤ 1000000) (hx : RdBx w g s bad) :
    Calls Try.prog 36 #[.pointer (some ⟨g, 0, none⟩)] w fun e w' => e = .returned (S (P.rdX s bad).1) ∧ RdBx w' g (P.rdX s bad).2.1 (P.rdX s bad).2.2 ∧ But g w w' := by
  have HV := Lib.hid (fun wx => readText_any s 64 wx (by omega) (by omega) (by omega))
  have hlt := hx.lt
  cases bad with
  | true =>
    have Hn := Lib.hid (show P.rdX s true = ([], (s, true)) by unfold P.rdX; rw [if_neg (by simp)])
    generalize P.tOk s 64 = ok at *
    generalize P.tText s 64 = nn at *
    generalize P.tSize s 64 = ss at *
    generalize P.rdX s true = res at *
    obtain ⟨x0, x1, f0, f1⟩ := hx.two
    go_enter Try.func36, Try.ntmps36
    go_wp2_with (go_at_call 53; (with_reducible refine (HV.out _).mono ?_); rintro e w1 ⟨rfl, hb1⟩; have hx1 := hx.up hb1; obtain ⟨x0', x1', f0', f1'⟩ := hx1.two)
    go_ret
    exact ⟨by rw [Hn.out]; rfl, by rw [Hn.out]; exact hx1.set 1 (.bool true), (But.of hb1).set 1 _⟩
  | false =>
    cases hok : P.tOk s 64 with
    | false =>
      have Hn := Lib.hid (show P.rdX s false = ([], (s, true)) by unfold P.rdX; rw [hok, if_neg (by simp)])
      rw [hok] at HV
      generalize P.tText s 64 = nn at *
      generalize P.tSize s 64 = ss at *
      generalize P.rdX s false = res at *
      obtain ⟨x0, x1, f0, f1⟩ := hx.two
      go_enter Try.func36, Try.ntmps36
      go_wp2_with (go_at_call 53; (with_reducible refine (HV.out _).mono ?_); rintro e w1 ⟨rfl, hb1⟩; have hx1 := hx.up hb1; obtain ⟨x0', x1', f0', f1'⟩ := hx1.two)
      go_ret
      exact ⟨by rw [Hn.out]; rfl, by rw [Hn.out]; exact hx1.set 1 (.bool true), (But.of hb1).set 1 _⟩
    | true =>
      have hsz := (P.tOk_row hok).2.1
      have Hn := Lib.hid (show P.rdX s false = (P.tText s 64, (s.drop (P.tSize s 64), false)) by unfold P.rdX; rw [hok, if_pos ⟨rfl, rfl⟩])
      rw [hok] at HV
      clear hok
      generalize P.tText s 64 = nn at *
      generalize P.tSize s 64 = ss at *
      generalize P.rdX s false = res at *
      obtain ⟨x0, x1, f0, f1⟩ := hx.two
      go_enter Try.func36, Try.ntmps36
      go_wp2_with (go_at_call 53; (with_reducible refine (HV.out _).mono ?_); rintro e w1 ⟨rfl, hb1⟩; have hx1 := hx.up hb1; obtain ⟨x0', x1', f0', f1'⟩ := hx1.two)
      go_ret
      exact ⟨by rw [Hn.out]; rfl, by rw [Hn.out]; exact (hx1.set 1 (.bool false)).set 0 _, ((But.of hb1).set 1 _).set 0 _⟩
end Go.Proofs.Ythpgigjplknomaa
