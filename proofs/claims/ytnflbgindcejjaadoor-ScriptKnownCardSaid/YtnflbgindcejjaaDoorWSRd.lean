/- The walks of the script's reader: part, byte, number, small. -/
import Derived.Test.YtnflbgindcejjaaDoorPScript2
import Derived.Test.YtnflbgindcejjaaDoorWBut
import Derived.Test.YtnflbgindcejjaaDoorWReadVar
import Derived.Test.YtnflbgindcejjaaDoorWText
import Derived.Lib.VarintBits
namespace Go.Proofs.YtnflbgindcejjaaDoor
open Go.RowKit
set_option linter.unusedVariables false
set_option linter.unusedSimpArgs false

abbrev RdX (w : World) (g : Nat) (q : P.Qs) : Prop := Bx w g 58 #[S q.1, .bool q.2]
theorem str_dropS (s : List UInt8) (k : Nat) : (ByteArray.mk s.toArray).extract k s.length = ⟨(s.drop k).toArray⟩ := by
  rw [ByteArray.extract_mk]
  congr 2
  exact List.take_of_length_le (by simp)
theorem str_takeS (s : List UInt8) (k : Nat) : (ByteArray.mk s.toArray).extract 0 k = ⟨(s.take k).toArray⟩ := by
  rw [ByteArray.extract_mk]
  simp
attribute [local go_sem] str_dropS str_takeS
theorem i64_wrap64 (x : Int) : IntKind.i64.wrap x = wrap64 x := IntWalk.i64_left x

set_option maxRecDepth 100000 in
set_option maxHeartbeats 2000000 in
theorem part_any (g : Nat) (q : P.Qs) (n : Nat) (w : World) (hs : q.1.length ≤ 1000000000) (hn : n ≤ 1000000000) (hx : RdX w g q) :
    Calls Tryd.prog 37 #[.pointer (some ⟨g, 0, none⟩), .int .i64 n] w fun e w' => e = .returned (S (P.qP n q).1) ∧ RdX w' g (P.qP n q).2 ∧ But g w w' := by
  obtain ⟨s, bad⟩ := q
  have hlt := hx.lt
  simp only at hs hx
  obtain ⟨x0, x1, f0, f1⟩ := hx.two
  cases bad with
  | true =>
    have Hn := Lib.hid (P.qP_bad n s)
    generalize P.qP n (s, true) = res at *
    go_enter Tryd.func37, Tryd.ntmps37
    go_wp2_with fail
    go_ret
    exact ⟨by rw [Hn.out]; rfl, by rw [Hn.out]; exact hx.set 1 (.bool true), (But.refl g w).set 1 _⟩
  | false =>
    by_cases hle : n ≤ s.length
    · have Hn := Lib.hid (show P.qP n (s, false) = (s.take n, (s.drop n, false)) from if_pos ⟨rfl, hle⟩)
      generalize P.qP n (s, false) = res at *
      have hgt : decide ((s.length : Int) < (n : Int)) = false := decide_eq_false (by omega)
      go_enter Tryd.func37, Tryd.ntmps37
      go_wp2_with fail
      go_ret
      exact ⟨by rw [Hn.out]; rfl, by rw [Hn.out]; exact (hx.set 1 (.bool false)).set 0 _, ((But.refl g w).set 1 _).set 0 _⟩
    · have Hn := Lib.hid (show P.qP n (s, false) = ([], (s, true)) from if_neg (fun h => hle h.2))
      generalize P.qP n (s, false) = res at *
      have hgt : s.length < n := by omega
      go_enter Tryd.func37, Tryd.ntmps37
      go_wp2_with fail
      go_ret
      exact ⟨by rw [Hn.out]; rfl, by rw [Hn.out]; exact hx.set 1 (.bool true), (But.refl g w).set 1 _⟩

set_option maxRecDepth 100000 in
set_option maxHeartbeats 2000000 in
theorem byte_any (g : Nat) (q : P.Qs) (w : World) (hs : q.1.length ≤ 1000000000) (hx : RdX w g q) :
    Calls Tryd.prog 35 #[.pointer (some ⟨g, 0, none⟩)] w fun e w' => e = .returned (.int .i64 (P.qC q).1) ∧ RdX w' g (P.qC q).2 ∧ But g w w' := by
  have HP := Lib.hid (show Calls Tryd.prog 37 #[.pointer (some ⟨g, 0, none⟩), .int .i64 1] w fun e w' => e = .returned (S (P.qP 1 q).1) ∧ RdX w' g (P.qP 1 q).2 ∧ But g w w' from part_any g q 1 w hs (by omega) hx)
  clear hx
  by_cases hc : q.2 = false ∧ 1 ≤ q.1.length
  · have Hq := Lib.hid (show P.qC q = (P.at_ q.1 0, (q.1.drop 1, false)) from if_pos hc)
    have hq1 : P.qP 1 q = (q.1.take 1, (q.1.drop 1, false)) := if_pos hc
    obtain ⟨s, bad⟩ := q
    obtain ⟨c, t, rfl⟩ : ∃ c t, s = c :: t := by
      cases s with
      | nil => simp at hc
      | cons c t => exact ⟨c, t, rfl⟩
    rw [hq1] at HP
    simp only [List.take_succ_cons, List.take_zero, List.drop_succ_cons, List.drop_zero] at HP Hq
    rw [show P.at_ (c :: t) 0 = c.toNat from rfl] at Hq
    generalize P.qC (c :: t, bad) = res at *
    clear hq1 hc hs
    have hc0 : wrap64 ((c.toNat : Nat) : Int) = ((c.toNat : Nat) : Int) := by have := c.toNat_lt; rw [← i64_wrap64, IntWalk.i64_in _ (by omega)]
    have Hc := Lib.hid hc0
    clear hc0
    go_enter Tryd.func35, Tryd.ntmps35
    go_wp2_with (go_at_call 37; (with_reducible refine HP.out.mono ?_); rintro e w1 ⟨rfl, hx1, hb1⟩)
    go_ret
    exact ⟨by rw [Hq.out]; exact congrArg (fun z => Ending.returned (Value.int .i64 z)) Hc.out, by rw [Hq.out]; exact hx1, hb1⟩
  · have Hq := Lib.hid (show P.qC q = (0, (q.1, true)) from if_neg hc)
    have hq1 : P.qP 1 q = ([], (q.1, true)) := if_neg hc
    rw [hq1] at HP
    generalize P.qC q = res at *
    clear hq1 hc hs
    go_enter Tryd.func35, Tryd.ntmps35
    go_wp2_with (go_at_call 37; (with_reducible refine HP.out.mono ?_); rintro e w1 ⟨rfl, hx1, hb1⟩)
    go_ret
    exact ⟨by rw [Hq.out]; rfl, by rw [Hq.out]; exact hx1, hb1⟩

set_option maxRecDepth 100000 in
set_option maxHeartbeats 2000000 in
theorem number_any (g : Nat) (q : P.Qs) (w : World) (hs : q.1.length ≤ 1000000000) (hx : RdX w g q) :
    Calls Tryd.prog 38 #[.pointer (some ⟨g, 0, none⟩)] w fun e w' => e = .returned (V64 (P.qN q).1) ∧ RdX w' g (P.qN q).2 ∧ But g w w' := by
  obtain ⟨s, bad⟩ := q
  have hlt := hx.lt
  simp only at hs hx
  have HV := Lib.hid (fun wx => readVar_any s wx (by omega))
  have hsz : P.rSize s ≤ 1000000000 := by
    cases h : P.rOk s with
    | true => have := (P.row_read s h).2.1; omega
    | false => unfold P.rSize; rw [h]; simp
  have HP := Lib.hid (fun wx b (h : RdX wx g (s, b)) => part_any g (s, b) (P.rSize s) wx hs hsz h)
  obtain ⟨x0, x1, f0, f1⟩ := hx.two
  have key : ∀ b, (bad || !P.rOk s) = b → (P.qN (s, bad)).2 = (P.qP (P.rSize s) (s, b)).2 ∧ (P.qN (s, bad)).1 = P.rNum s := by
    intro b hb
    refine ⟨?_, rfl⟩
    cases bad with
    | true =>
      obtain rfl : b = true := by simpa using hb.symm
      rw [P.qN_bad, P.qP_bad]
    | false =>
      cases h : P.rOk s with
      | true =>
        obtain rfl : b = false := by rw [← hb, h]; rfl
        have := (P.row_read s h).2.1
        unfold P.qN P.qP
        rw [if_pos ⟨rfl, h⟩, if_pos ⟨rfl, this⟩]
      | false =>
        obtain rfl : b = true := by rw [← hb, h]; rfl
        rw [P.qP_bad]
        unfold P.qN
        rw [if_neg (by simp [h])]
  cases bad with
  | true =>
    have Hk := Lib.hid (key true rfl)
    clear key
    generalize P.rOk s = ok at *
    generalize P.rNum s = nn at *
    generalize P.rSize s = ss at *
    generalize P.qN (s, true) = res at *
    go_enter Tryd.func38, Tryd.ntmps38
    go_wp2_with (first
      | (go_at_call 52; (with_reducible refine (HV.out _).mono ?_); rintro e w1 ⟨rfl, hb1⟩; have hx1 := hx.up hb1; obtain ⟨x0', x1', f0', f1'⟩ := hx1.two)
      | (go_at_call 37; (with_reducible refine (HP.out _ true (hx1.set 1 (.bool true))).mono ?_); rintro e w2 ⟨rfl, hx2, hb2⟩))
    go_ret
    exact ⟨by rw [Hk.out.2]; rfl, by rw [Hk.out.1]; exact hx2, ((But.of hb1).set 1 _).trans hb2⟩
  | false =>
    cases hok : P.rOk s with
    | true =>
      have Hk := Lib.hid (key false (by rw [hok]; rfl))
      rw [hok] at HV
      clear key hok
      generalize P.rNum s = nn at *
      generalize P.rSize s = ss at *
      generalize P.qN (s, false) = res at *
      go_enter Tryd.func38, Tryd.ntmps38
      go_wp2_with (first
        | (go_at_call 52; (with_reducible refine (HV.out _).mono ?_); rintro e w1 ⟨rfl, hb1⟩; have hx1 := hx.up hb1; obtain ⟨x0', x1', f0', f1'⟩ := hx1.two)
        | (go_at_call 37; (with_reducible refine (HP.out _ false (hx1.set 1 (.bool false))).mono ?_); rintro e w2 ⟨rfl, hx2, hb2⟩))
      go_ret
      exact ⟨by rw [Hk.out.2]; rfl, by rw [Hk.out.1]; exact hx2, ((But.of hb1).set 1 _).trans hb2⟩
    | false =>
      have Hk := Lib.hid (key true (by rw [hok]; rfl))
      rw [hok] at HV
      clear key hok
      generalize P.rNum s = nn at *
      generalize P.rSize s = ss at *
      generalize P.qN (s, false) = res at *
      go_enter Tryd.func38, Tryd.ntmps38
      go_wp2_with (first
        | (go_at_call 52; (with_reducible refine (HV.out _).mono ?_); rintro e w1 ⟨rfl, hb1⟩; have hx1 := hx.up hb1; obtain ⟨x0', x1', f0', f1'⟩ := hx1.two)
        | (go_at_call 37; (with_reducible refine (HP.out _ true (hx1.set 1 (.bool true))).mono ?_); rintro e w2 ⟨rfl, hx2, hb2⟩))
      go_ret
      exact ⟨by rw [Hk.out.2]; rfl, by rw [Hk.out.1]; exact hx2, ((But.of hb1).set 1 _).trans hb2⟩

theorem P.rNum_lt (s : List UInt8) : P.rNum s < 18446744073709551616 := by
  cases h : P.rOk s with
  | true => exact (P.row_read s h).2.2.2
  | false => unfold P.rNum; rw [h]; simp
theorem and_mask31 (n : Nat) (h : n < 18446744073709551616) : wrap64 (bits .and .u64 (n : Int) 2147483647) = ((n % 2147483648 : Nat) : Int) := by
  have h1 := bits_mask .u64 64 (by decide) wraps_u64 31 (by decide) (n : Int) (by omega) (by omega)
  have h2 : bits .and .u64 (n : Int) 2147483647 = (n : Int) % 2147483648 := by simpa using h1
  rw [h2, ← i64_wrap64, IntWalk.i64_in _ (by omega)]
  omega

set_option maxRecDepth 100000 in
set_option maxHeartbeats 2000000 in
theorem small_any (g : Nat) (q : P.Qs) (w : World) (hs : q.1.length ≤ 1000000000) (hx : RdX w g q) :
    Calls Tryd.prog 53 #[.pointer (some ⟨g, 0, none⟩)] w fun e w' => e = .returned (.int .i64 (P.qS q).1) ∧ RdX w' g (P.qS q).2 ∧ But g w w' := by
  have HN := Lib.hid (number_any g q w hs hx)
  have Hq := Lib.hid (show P.qS q = ((P.qN q).1 % 2147483648, ((P.qN q).2.1, (P.qN q).2.2 || decide (2147483647 < (P.qN q).1))) from rfl)
  have hn : (P.qN q).1 < 18446744073709551616 := P.rNum_lt q.1
  clear hx
  generalize P.qN q = r at *
  generalize P.qS q = res at *
  obtain ⟨n, s, bad⟩ := r
  simp only at HN Hq hn
  have Hm := Lib.hid (and_mask31 n hn)
  cases bad with
  | true =>
    go_enter Tryd.func53, Tryd.ntmps53
    go_wp2_with (go_at_call 38; (with_reducible refine HN.out.mono ?_); rintro e w1 ⟨rfl, hx1, hb1⟩; obtain ⟨x0', x1', f0', f1'⟩ := hx1.two)
    go_ret
    exact ⟨by rw [Hq.out]; exact congrArg (fun z => Ending.returned (Value.int .i64 z)) Hm.out, by rw [Hq.out]; exact hx1.set 1 (.bool true), hb1.set 1 _⟩
  | false =>
    by_cases hb : 2147483647 < n
    · have Hd := Lib.hid (show decide (2147483647 < n) = true from decide_eq_true hb)
      have Hd2 := Lib.hid (show decide ((2147483647 : Int) < (n : Int)) = true from decide_eq_true (by omega))
      go_enter Tryd.func53, Tryd.ntmps53
      go_wp2_with (go_at_call 38; (with_reducible refine HN.out.mono ?_); rintro e w1 ⟨rfl, hx1, hb1⟩; obtain ⟨x0', x1', f0', f1'⟩ := hx1.two)
      go_ret
      exact ⟨by rw [Hq.out]; exact congrArg (fun z => Ending.returned (Value.int .i64 z)) Hm.out, by rw [Hq.out, Hd.out, Hd2.out]; exact hx1.set 1 (.bool true), hb1.set 1 _⟩
    · have Hd := Lib.hid (show decide (2147483647 < n) = false from decide_eq_false hb)
      have Hd2 := Lib.hid (show decide ((2147483647 : Int) < (n : Int)) = false from decide_eq_false (by omega))
      go_enter Tryd.func53, Tryd.ntmps53
      go_wp2_with (go_at_call 38; (with_reducible refine HN.out.mono ?_); rintro e w1 ⟨rfl, hx1, hb1⟩; obtain ⟨x0', x1', f0', f1'⟩ := hx1.two)
      go_ret
      exact ⟨by rw [Hq.out]; exact congrArg (fun z => Ending.returned (Value.int .i64 z)) Hm.out, by rw [Hq.out, Hd.out, Hd2.out]; exact hx1.set 1 (.bool false), hb1.set 1 _⟩
end Go.Proofs.YtnflbgindcejjaaDoor
