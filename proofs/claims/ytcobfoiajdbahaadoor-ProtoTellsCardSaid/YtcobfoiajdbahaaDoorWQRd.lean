/- The walks of the reader: part, number, byte, owner, addr, prefix, lease, head. -/
import Derived.Test.YtcobfoiajdbahaaDoorWQEq
import Derived.Test.YtcobfoiajdbahaaDoorWBaseQ
import Derived.Lib.VarintBits
namespace Go.Proofs.YtcobfoiajdbahaaDoor
open Go.RowKit
set_option linter.unusedVariables false
set_option linter.unusedSimpArgs false
abbrev RdX (w : World) (g : Nat) (q : P.Qs) : Prop := Bx w g 108 #[S q.1, .bool q.2]
theorem str_dropS (s : List UInt8) (k : Nat) : (ByteArray.mk s.toArray).extract k s.length = ⟨(s.drop k).toArray⟩ := by
  rw [ByteArray.extract_mk]
  congr 2
  exact List.take_of_length_le (by simp)
theorem str_takeS (s : List UInt8) (k : Nat) : (ByteArray.mk s.toArray).extract 0 k = ⟨(s.take k).toArray⟩ := by
  rw [ByteArray.extract_mk]
  simp
attribute [local go_sem] str_dropS str_takeS
theorem i64_wrap64 (x : Int) : IntKind.i64.wrap x = wrap64 x := IntWalk.i64_left x
set_option maxRecDepth 100000 in
set_option maxHeartbeats 2000000 in
theorem part_any (g : Nat) (q : P.Qs) (n : Nat) (w : World) (hs : q.1.length ≤ 1000000000) (hn : n ≤ 1000000000) (hx : RdX w g q) :
    Calls Tryd.prog 82 #[.pointer (some ⟨g, 0, none⟩), .int .i64 n] w fun e w' => e = .returned (S (P.qP n q).1) ∧ RdX w' g (P.qP n q).2 ∧ But g w w' := by
  obtain ⟨s, bad⟩ := q
  have hlt := hx.lt
  simp only at hs hx
  obtain ⟨x0, x1, f0, f1⟩ := hx.two
  cases bad with
  | true =>
    have Hn := Lib.hid (P.qP_bad n s)
    generalize P.qP n (s, true) = res at *
    go_enter Tryd.func82, Tryd.ntmps82
    go_wp2_with fail
    go_ret
    exact ⟨by rw [Hn.out]; rfl, by rw [Hn.out]; exact hx.set 1 (.bool true), (But.refl g w).set 1 _⟩
  | false =>
    by_cases hle : n ≤ s.length
    · have Hn := Lib.hid (show P.qP n (s, false) = (s.take n, (s.drop n, false)) from if_pos ⟨rfl, hle⟩)
      generalize P.qP n (s, false) = res at *
      have hgt : decide ((s.length : Int) < (n : Int)) = false := decide_eq_false (by omega)
      go_enter Tryd.func82, Tryd.ntmps82
      go_wp2_with fail
      go_ret
      exact ⟨by rw [Hn.out]; rfl, by rw [Hn.out]; exact (hx.set 1 (.bool false)).set 0 _, ((But.refl g w).set 1 _).set 0 _⟩
    · have Hn := Lib.hid (show P.qP n (s, false) = ([], (s, true)) from if_neg (fun h => hle h.2))
      generalize P.qP n (s, false) = res at *
      have hgt : s.length < n := by omega
      go_enter Tryd.func82, Tryd.ntmps82
      go_wp2_with fail
      go_ret
      exact ⟨by rw [Hn.out]; rfl, by rw [Hn.out]; exact hx.set 1 (.bool true), (But.refl g w).set 1 _⟩
set_option maxRecDepth 100000 in
set_option maxHeartbeats 2000000 in
theorem number_any (g : Nat) (q : P.Qs) (w : World) (hs : q.1.length ≤ 1000000000) (hx : RdX w g q) :
    Calls Tryd.prog 54 #[.pointer (some ⟨g, 0, none⟩)] w fun e w' => e = .returned (V64 (P.qN q).1) ∧ RdX w' g (P.qN q).2 ∧ But g w w' := by
  obtain ⟨s, bad⟩ := q
  have hlt := hx.lt
  simp only at hs hx
  have HV := Lib.hid (fun wx => readVar_any s wx (by omega))
  have hsz : P.rSize s ≤ 1000000000 := by
    cases h : P.rOk s with
    | true => have := (P.row_read s h).2.1; omega
    | false => unfold P.rSize; rw [h]; simp
  have HP := Lib.hid (fun wx b (h : RdX wx g (s, b)) => part_any g (s, b) (P.rSize s) wx hs hsz h)
  obtain ⟨x0, x1, f0, f1⟩ := hx.two
  have key : ∀ b, (bad || !P.rOk s) = b → (P.qN (s, bad)).2 = (P.qP (P.rSize s) (s, b)).2 ∧ (P.qN (s, bad)).1 = P.rNum s := by
    intro b hb
    refine ⟨?_, rfl⟩
    cases bad with
    | true =>
      obtain rfl : b = true := by simpa using hb.symm
      rw [P.qN_bad, P.qP_bad]
    | false =>
      cases h : P.rOk s with
      | true =>
        obtain rfl : b = false := by rw [← hb, h]; rfl
        have := (P.row_read s h).2.1
        unfold P.qN P.qP
        rw [if_pos ⟨rfl, h⟩, if_pos ⟨rfl, this⟩]
      | false =>
        obtain rfl : b = true := by rw [← hb, h]; rfl
        rw [P.qP_bad]
        unfold P.qN
        rw [if_neg (by simp [h])]
  cases bad with
  | true =>
    have Hk := Lib.hid (key true rfl)
    clear key
    generalize P.rOk s = ok at *
    generalize P.rNum s = nn at *
    generalize P.rSize s = ss at *
    generalize P.qN (s, true) = res at *
    go_enter Tryd.func54, Tryd.ntmps54
    go_wp2_with (first
      | (go_at_call 85; (with_reducible refine (HV.out _).mono ?_); rintro e w1 ⟨rfl, hb1⟩; have hx1 := hx.up hb1; obtain ⟨x0', x1', f0', f1'⟩ := hx1.two)
      | (go_at_call 82; (with_reducible refine (HP.out _ true (hx1.set 1 (.bool true))).mono ?_); rintro e w2 ⟨rfl, hx2, hb2⟩))
    go_ret
    exact ⟨by rw [Hk.out.2]; rfl, by rw [Hk.out.1]; exact hx2, ((But.of hb1).set 1 _).trans hb2⟩
  | false =>
    cases hok : P.rOk s with
    | true =>
      have Hk := Lib.hid (key false (by rw [hok]; rfl))
      rw [hok] at HV
      clear key hok
      generalize P.rNum s = nn at *
      generalize P.rSize s = ss at *
      generalize P.qN (s, false) = res at *
      go_enter Tryd.func54, Tryd.ntmps54
      go_wp2_with (first
        | (go_at_call 85; (with_reducible refine (HV.out _).mono ?_); rintro e w1 ⟨rfl, hb1⟩; have hx1 := hx.up hb1; obtain ⟨x0', x1', f0', f1'⟩ := hx1.two)
        | (go_at_call 82; (with_reducible refine (HP.out _ false (hx1.set 1 (.bool false))).mono ?_); rintro e w2 ⟨rfl, hx2, hb2⟩))
      go_ret
      exact ⟨by rw [Hk.out.2]; rfl, by rw [Hk.out.1]; exact hx2, ((But.of hb1).set 1 _).trans hb2⟩
    | false =>
      have Hk := Lib.hid (key true (by rw [hok]; rfl))
      rw [hok] at HV
      clear key hok
      generalize P.rNum s = nn at *
      generalize P.rSize s = ss at *
      generalize P.qN (s, false) = res at *
      go_enter Tryd.func54, Tryd.ntmps54
      go_wp2_with (first
        | (go_at_call 85; (with_reducible refine (HV.out _).mono ?_); rintro e w1 ⟨rfl, hb1⟩; have hx1 := hx.up hb1; obtain ⟨x0', x1', f0', f1'⟩ := hx1.two)
        | (go_at_call 82; (with_reducible refine (HP.out _ true (hx1.set 1 (.bool true))).mono ?_); rintro e w2 ⟨rfl, hx2, hb2⟩))
      go_ret
      exact ⟨by rw [Hk.out.2]; rfl, by rw [Hk.out.1]; exact hx2, ((But.of hb1).set 1 _).trans hb2⟩
set_option maxRecDepth 100000 in
set_option maxHeartbeats 2000000 in
theorem byte_any (g : Nat) (q : P.Qs) (lo hi : Nat) (hh : hi < 256) (w : World) (hs : q.1.length ≤ 1000000000) (hx : RdX w g q) :
    Calls Tryd.prog 55 #[.pointer (some ⟨g, 0, none⟩), .int .i64 (lo : Nat), .int .i64 (hi : Nat)] w fun e w' => e = .returned (.int .i64 ((P.qB lo hi q).1 : Nat)) ∧ RdX w' g (P.qB lo hi q).2 ∧ But g w w' := by
  have HP := Lib.hid (show Calls Tryd.prog 82 #[.pointer (some ⟨g, 0, none⟩), .int .i64 1] w fun e w' => e = .returned (S (P.qP 1 q).1) ∧ RdX w' g (P.qP 1 q).2 ∧ But g w w' from part_any g q 1 w hs (by omega) hx)
  clear hx
  by_cases hc : q.2 = false ∧ 1 ≤ q.1.length
  · have hq1 : P.qP 1 q = (q.1.take 1, (q.1.drop 1, false)) := if_pos hc
    have Hq := Lib.hid (show P.qB lo hi q = if lo ≤ P.at_ q.1 0 ∧ P.at_ q.1 0 ≤ hi then (P.at_ q.1 0, (q.1.drop 1, false)) else (0, (q.1.drop 1, true)) from if_pos hc)
    obtain ⟨s, bad⟩ := q
    obtain ⟨c, t, rfl⟩ : ∃ c t, s = c :: t := by
      cases s with
      | nil => simp at hc
      | cons c t => exact ⟨c, t, rfl⟩
    rw [hq1] at HP
    simp only [List.take_succ_cons, List.take_zero, List.drop_succ_cons, List.drop_zero] at HP Hq
    rw [show P.at_ (c :: t) 0 = c.toNat from rfl] at Hq
    generalize P.qB lo hi (c :: t, bad) = res at *
    clear hq1 hc hs
    have hcl := c.toNat_lt
    have hc0 : wrap64 ((c.toNat : Nat) : Int) = ((c.toNat : Nat) : Int) := by rw [← i64_wrap64, IntWalk.i64_in _ (by omega)]
    have hbs : (ByteArray.mk [c].toArray)[0]'(by show 0 < 1; omega) = c := rfl
    by_cases h1 : lo ≤ c.toNat
    · by_cases h2 : c.toNat ≤ hi
      · rw [if_pos ⟨h1, h2⟩] at Hq
        have d1 : decide (c.toNat < lo) = false := decide_eq_false (by omega)
        have d2 : decide (hi < c.toNat) = false := decide_eq_false (by omega)
        clear h1 h2
        go_enter Tryd.func55, Tryd.ntmps55
        go_wp2_with (go_at_call 82; (with_reducible refine HP.out.mono ?_); rintro e w1 ⟨rfl, hx1, hb1⟩; obtain ⟨x0', x1', f0', f1'⟩ := hx1.two)
        go_ret
        exact ⟨by rw [Hq.out]; rfl, by rw [Hq.out]; exact hx1.set 1 (.bool false), hb1.set 1 _⟩
      · rw [if_neg (fun h => h2 h.2)] at Hq
        have d1 : decide (c.toNat < lo) = false := decide_eq_false (by omega)
        have d2 : decide (hi < c.toNat) = true := decide_eq_true (by omega)
        clear h1 h2
        go_enter Tryd.func55, Tryd.ntmps55
        go_wp2_with (go_at_call 82; (with_reducible refine HP.out.mono ?_); rintro e w1 ⟨rfl, hx1, hb1⟩; obtain ⟨x0', x1', f0', f1'⟩ := hx1.two)
        go_ret
        exact ⟨by rw [Hq.out]; rfl, by rw [Hq.out]; exact hx1.set 1 (.bool true), hb1.set 1 _⟩
    · rw [if_neg (fun h => h1 h.1)] at Hq
      have d1 : decide (c.toNat < lo) = true := decide_eq_true (by omega)
      clear h1
      go_enter Tryd.func55, Tryd.ntmps55
      go_wp2_with (go_at_call 82; (with_reducible refine HP.out.mono ?_); rintro e w1 ⟨rfl, hx1, hb1⟩; obtain ⟨x0', x1', f0', f1'⟩ := hx1.two)
      go_ret
      exact ⟨by rw [Hq.out]; rfl, by rw [Hq.out]; exact hx1.set 1 (.bool true), hb1.set 1 _⟩
  · have Hq := Lib.hid (show P.qB lo hi q = (0, (q.1, true)) from if_neg hc)
    have hq1 : P.qP 1 q = ([], (q.1, true)) := if_neg hc
    rw [hq1] at HP
    generalize P.qB lo hi q = res at *
    clear hq1 hc hs
    go_enter Tryd.func55, Tryd.ntmps55
    go_wp2_with (go_at_call 82; (with_reducible refine HP.out.mono ?_); rintro e w1 ⟨rfl, hx1, hb1⟩; obtain ⟨x0', x1', f0', f1'⟩ := hx1.two)
    go_ret
    exact ⟨by rw [Hq.out]; rfl, by rw [Hq.out]; exact hx1.set 1 (.bool true), hb1.set 1 _⟩
set_option maxRecDepth 100000 in
set_option maxHeartbeats 2000000 in
theorem owner_any (g : Nat) (q : P.Qs) (w : World) (hs : q.1.length ≤ 1000000000) (hx : RdX w g q) :
    Calls Tryd.prog 53 #[.pointer (some ⟨g, 0, none⟩)] w fun e w' => e = .returned (S (P.qO q).1) ∧ RdX w' g (P.qO q).2 ∧ But g w w' := by
  obtain ⟨s, bad⟩ := q
  have hlt := hx.lt
  simp only at hs hx
  have HV := Lib.hid (fun wx => readText_any s 32 wx (by omega) (by omega) (by omega))
  have hsz : P.tSize s 32 ≤ s.length := by
    unfold P.tSize
    split
    · rename_i h
      unfold P.tOk at h
      simp only [Bool.and_eq_true, decide_eq_true_eq] at h
      omega
    · omega
  have HP := Lib.hid (fun wx b (h : RdX wx g (s, b)) => part_any g (s, b) (P.tSize s 32) wx hs (by omega) h)
  obtain ⟨x0, x1, f0, f1⟩ := hx.two
  cases bad with
  | true =>
    have Hk := Lib.hid (show P.qO (s, true) = (P.tText s 32, (P.qP (P.tSize s 32) (s, true)).2) by rw [P.qP_bad]; unfold P.qO; simp)
    generalize P.tOk s 32 = ok at *
    generalize P.qO (s, true) = res at *
    generalize P.tText s 32 = T at *
    generalize P.tSize s 32 = Z at *
    go_enter Tryd.func53, Tryd.ntmps53
    go_wp2_with (first
      | (go_at_call 84; (with_reducible refine (HV.out _).mono ?_); rintro e w1 ⟨rfl, hb1⟩; have hx1 := hx.up hb1; obtain ⟨y0, y1, g0, g1⟩ := hx1.two)
      | (go_at_call 82; (with_reducible refine (HP.out _ true (hx1.set 1 (.bool true))).mono ?_); rintro e w2 ⟨rfl, hx2, hb2⟩))
    go_ret
    exact ⟨by rw [Hk.out]; rfl, by rw [Hk.out]; exact hx2, ((But.of hb1).set 1 _).trans hb2⟩
  | false =>
    cases hok : P.tOk s 32 with
    | false =>
      have Hk := Lib.hid (show P.qO (s, false) = (P.tText s 32, (P.qP (P.tSize s 32) (s, true)).2) by rw [P.qP_bad]; unfold P.qO; simp [hok])
      rw [hok] at HV
      clear hok
      generalize P.qO (s, false) = res at *
      generalize P.tText s 32 = T at *
      generalize P.tSize s 32 = Z at *
      go_enter Tryd.func53, Tryd.ntmps53
      go_wp2_with (first
        | (go_at_call 84; (with_reducible refine (HV.out _).mono ?_); rintro e w1 ⟨rfl, hb1⟩; have hx1 := hx.up hb1; obtain ⟨y0, y1, g0, g1⟩ := hx1.two)
        | (go_at_call 82; (with_reducible refine (HP.out _ true (hx1.set 1 (.bool true))).mono ?_); rintro e w2 ⟨rfl, hx2, hb2⟩))
      go_ret
      exact ⟨by rw [Hk.out]; rfl, by rw [Hk.out]; exact hx2, ((But.of hb1).set 1 _).trans hb2⟩
    | true =>
      rw [hok] at HV
      by_cases hT : P.tText s 32 = []
      · have Hk := Lib.hid (show P.qO (s, false) = ([], (P.qP (P.tSize s 32) (s, true)).2) by rw [P.qP_bad]; unfold P.qO; simp [hT])
        rw [hT] at HV
        clear hok hT
        generalize P.qO (s, false) = res at *
        generalize P.tSize s 32 = Z at *
        go_enter Tryd.func53, Tryd.ntmps53
        go_wp2_with (first
          | (go_at_call 84; (with_reducible refine (HV.out _).mono ?_); rintro e w1 ⟨rfl, hb1⟩; have hx1 := hx.up hb1; obtain ⟨y0, y1, g0, g1⟩ := hx1.two)
          | (go_at_call 82; (with_reducible refine (HP.out _ true (hx1.set 1 (.bool true))).mono ?_); rintro e w2 ⟨rfl, hx2, hb2⟩))
        go_ret
        exact ⟨by rw [Hk.out]; rfl, by rw [Hk.out]; exact hx2, ((But.of hb1).set 1 _).trans hb2⟩
      · have Hk := Lib.hid (show P.qO (s, false) = (P.tText s 32, (P.qP (P.tSize s 32) (s, false)).2) by unfold P.qO P.qP; rw [if_pos ⟨rfl, hok, hT⟩, if_pos ⟨rfl, hsz⟩])
        obtain ⟨c, t, hct⟩ : ∃ c t, P.tText s 32 = c :: t := by
          cases h : P.tText s 32 with
          | nil => exact absurd h hT
          | cons c t => exact ⟨c, t, rfl⟩
        clear hok hT
        generalize P.qO (s, false) = res at *
        generalize P.tText s 32 = T at *
        have hT2 : T.isEmpty = false := by rw [hct]; rfl
        have hT3 : ¬ T = [] := by rw [hct]; simp
        clear hct
        generalize P.tSize s 32 = Z at *
        go_enter Tryd.func53, Tryd.ntmps53
        go_wp2_with (first
          | (go_at_call 84; (with_reducible refine (HV.out _).mono ?_); rintro e w1 ⟨rfl, hb1⟩; have hx1 := hx.up hb1; obtain ⟨y0, y1, g0, g1⟩ := hx1.two)
          | (go_at_call 82; (with_reducible refine (HP.out _ false (hx1.set 1 (.bool false))).mono ?_); rintro e w2 ⟨rfl, hx2, hb2⟩))
        go_ret
        exact ⟨by rw [Hk.out]; rfl, by rw [Hk.out]; exact hx2, ((But.of hb1).set 1 _).trans hb2⟩
theorem RdX.ofBut {w w' : World} {g h : Nat} {q : P.Qs} (hx : RdX w h q) (hb : But g w w') (hne : h ≠ g) : RdX w' h q := Bx.but hx hb hne
set_option maxRecDepth 100000 in
set_option maxHeartbeats 4000000 in
theorem addr_any (g : Nat) (q : P.Qs) (w : World) (hs : q.1.length ≤ 1000000000) (hx : RdX w g q) :
    Calls Tryd.prog 52 #[.pointer (some ⟨g, 0, none⟩)] w fun e w' => e = .returned (adV (P.qA q).1) ∧ RdX w' g (P.qA q).2 ∧ But g w w' := by
  have hlt := hx.lt
  have hA := (Below.refl w.heap.size w).alloc (Nat.le_refl _) (.cells #[.int .u8 0, .int .u64 0, .int .u64 0] 24)
  have hz0 := Bx.fresh w 24 #[.int .u8 0, .int .u64 0, .int .u64 0]
  have hx0 := hx.up hA
  have hne : w.heap.size ≠ g := by omega
  have HB := Lib.hid (fun wx (h : RdX wx g q) => show Calls Tryd.prog 55 #[.pointer (some ⟨g, 0, none⟩), .int .i64 4, .int .i64 6] wx fun e w' => e = .returned (.int .i64 ((P.qB 4 6 q).1 : Nat)) ∧ RdX w' g (P.qB 4 6 q).2 ∧ But g wx w' from byte_any g q 4 6 (by omega) wx hs h)
  have hle := P.qB_le 4 6 q
  have hb6 : (P.qB 4 6 q).1 ≤ 6 := by unfold P.qB; split <;> (try split) <;> simp <;> omega
  have Hk := Lib.hid (show P.qA q = ((P.fromB (P.qB 4 6 q).1 (P.qP (if (P.qB 4 6 q).1 = 6 then 16 else 4) (P.qB 4 6 q).2).1).1, ((P.qP (if (P.qB 4 6 q).1 = 6 then 16 else 4) (P.qB 4 6 q).2).2.1, (P.qP (if (P.qB 4 6 q).1 = 6 then 16 else 4) (P.qB 4 6 q).2).2.2 || !(P.fromB (P.qB 4 6 q).1 (P.qP (if (P.qB 4 6 q).1 = 6 then 16 else 4) (P.qB 4 6 q).2).1).2)) from rfl)
  generalize P.qA q = res at *
  generalize P.qB 4 6 q = f at *
  obtain ⟨fam, q1⟩ := f
  simp only at HB hle hb6 Hk
  have HP := Lib.hid (fun wx (m : Nat) (hm : m ≤ 16) (h : RdX wx g q1) => part_any g q1 m wx (by omega) (by omega) h)
  have hsz : ∀ m, (P.qP m q1).1.length ≤ 1000000000 := fun m => by unfold P.qP; split <;> simp <;> omega
  by_cases h6 : fam = 6
  · rw [if_pos h6] at Hk
    have HP' := Lib.hid (fun wx (h : RdX wx g q1) => show Calls Tryd.prog 82 #[.pointer (some ⟨g, 0, none⟩), .int .i64 16] wx fun e w' => e = .returned (S (P.qP 16 q1).1) ∧ RdX w' g (P.qP 16 q1).2 ∧ But g wx w' from HP.out wx 16 (by omega) h)
    have hF := hsz 16
    clear HP hsz
    generalize P.qP 16 q1 = r at *
    obtain ⟨t, s2, b2⟩ := r
    simp only at HP' hF Hk
    have HF := Lib.hid (fun wx => fromB_any fam t (by omega) hF wx)
    generalize P.fromB fam t = a at *
    obtain ⟨a, ok⟩ := a
    simp only at HF Hk
    have t6 : ((fam : Int) == 6) = true := beq_iff_eq.2 (by omega)
    clear h6
    cases b2 <;> cases ok
    · go_enter Tryd.func52, Tryd.ntmps52
      go_wp2_with (first
        | (go_at_call 55; (with_reducible refine (HB.out _ hx0).mono ?_); rintro e w1 ⟨rfl, hx1, hb1⟩; have hz1 := hz0.but hb1 hne)
        | (go_at_call 82; (with_reducible refine (HP'.out _ hx1).mono ?_); rintro e w2 ⟨rfl, hx2, hb2⟩; have hz2 := hz1.but hb2 hne)
        | (go_at_call 83; (with_reducible refine (HF.out _).mono ?_); rintro e w3 ⟨rfl, hb3⟩; have hx3 := hx2.up hb3; have hz3 := hz2.up hb3; have hlt3 := hz3.lt; have hgl3 := hx3.lt; obtain ⟨y0, y1, g0, g1⟩ := hx3.two; obtain ⟨c0, c1, c2, k0, k1, k2⟩ := hz3.three))
      have hgz : g ≠ w.heap.size := fun h => hne h.symm
      have hzf := ((hz3.other hgz 1 (.bool true)).set3 (.int .u8 (a.fam : Nat)) (V64 a.hi) (V64 a.lo)).up ((Below.refl _ _).alloc (Nat.le_refl _) (.cells #[.int .u8 (a.fam : Nat), V64 a.hi, V64 a.lo] 24))
      have hxf := ((((hx3.set 1 (.bool true)).other hne 0 (.int .u8 (a.fam : Nat))).other hne 1 (V64 a.hi)).other hne 2 (V64 a.lo)).up ((Below.refl _ _).alloc (Nat.le_refl _) (.cells #[.int .u8 (a.fam : Nat), V64 a.hi, V64 a.lo] 24))
      have hbf := (((((((But.of hA).trans hb1).trans hb2).trans (But.of hb3)).set 1 (.bool true)).setNew (p := ⟨w.heap.size, 0, none⟩) (Nat.le_refl _) (.int .u8 (a.fam : Nat))).setNew (p := ⟨w.heap.size, 1, none⟩) (Nat.le_refl _) (V64 a.hi)).setNew (p := ⟨w.heap.size, 2, none⟩) (Nat.le_refl _) (V64 a.lo)
      have hbg := hbf.alloc (.cells #[.int .u8 (a.fam : Nat), V64 a.hi, V64 a.lo] 24)
      obtain ⟨e0, e1, e2, _, _, _⟩ := hzf.three
      exact bodyPost_ret (v := adV a) (by simp [results, Tryd.results52, go_sem, e0, e1, e2]) rfl ⟨by rw [Hk.out], by rw [Hk.out]; exact hxf, hbg⟩
    · go_enter Tryd.func52, Tryd.ntmps52
      go_wp2_with (first
        | (go_at_call 55; (with_reducible refine (HB.out _ hx0).mono ?_); rintro e w1 ⟨rfl, hx1, hb1⟩; have hz1 := hz0.but hb1 hne)
        | (go_at_call 82; (with_reducible refine (HP'.out _ hx1).mono ?_); rintro e w2 ⟨rfl, hx2, hb2⟩; have hz2 := hz1.but hb2 hne)
        | (go_at_call 83; (with_reducible refine (HF.out _).mono ?_); rintro e w3 ⟨rfl, hb3⟩; have hx3 := hx2.up hb3; have hz3 := hz2.up hb3; have hlt3 := hz3.lt; have hgl3 := hx3.lt; obtain ⟨y0, y1, g0, g1⟩ := hx3.two; obtain ⟨c0, c1, c2, k0, k1, k2⟩ := hz3.three))
      have hgz : g ≠ w.heap.size := fun h => hne h.symm
      have hzf := ((hz3.other hgz 1 (.bool false)).set3 (.int .u8 (a.fam : Nat)) (V64 a.hi) (V64 a.lo)).up ((Below.refl _ _).alloc (Nat.le_refl _) (.cells #[.int .u8 (a.fam : Nat), V64 a.hi, V64 a.lo] 24))
      have hxf := ((((hx3.set 1 (.bool false)).other hne 0 (.int .u8 (a.fam : Nat))).other hne 1 (V64 a.hi)).other hne 2 (V64 a.lo)).up ((Below.refl _ _).alloc (Nat.le_refl _) (.cells #[.int .u8 (a.fam : Nat), V64 a.hi, V64 a.lo] 24))
      have hbf := (((((((But.of hA).trans hb1).trans hb2).trans (But.of hb3)).set 1 (.bool false)).setNew (p := ⟨w.heap.size, 0, none⟩) (Nat.le_refl _) (.int .u8 (a.fam : Nat))).setNew (p := ⟨w.heap.size, 1, none⟩) (Nat.le_refl _) (V64 a.hi)).setNew (p := ⟨w.heap.size, 2, none⟩) (Nat.le_refl _) (V64 a.lo)
      have hbg := hbf.alloc (.cells #[.int .u8 (a.fam : Nat), V64 a.hi, V64 a.lo] 24)
      obtain ⟨e0, e1, e2, _, _, _⟩ := hzf.three
      exact bodyPost_ret (v := adV a) (by simp [results, Tryd.results52, go_sem, e0, e1, e2]) rfl ⟨by rw [Hk.out], by rw [Hk.out]; exact hxf, hbg⟩
    · go_enter Tryd.func52, Tryd.ntmps52
      go_wp2_with (first
        | (go_at_call 55; (with_reducible refine (HB.out _ hx0).mono ?_); rintro e w1 ⟨rfl, hx1, hb1⟩; have hz1 := hz0.but hb1 hne)
        | (go_at_call 82; (with_reducible refine (HP'.out _ hx1).mono ?_); rintro e w2 ⟨rfl, hx2, hb2⟩; have hz2 := hz1.but hb2 hne)
        | (go_at_call 83; (with_reducible refine (HF.out _).mono ?_); rintro e w3 ⟨rfl, hb3⟩; have hx3 := hx2.up hb3; have hz3 := hz2.up hb3; have hlt3 := hz3.lt; have hgl3 := hx3.lt; obtain ⟨y0, y1, g0, g1⟩ := hx3.two; obtain ⟨c0, c1, c2, k0, k1, k2⟩ := hz3.three))
      have hgz : g ≠ w.heap.size := fun h => hne h.symm
      have hzf := ((hz3.other hgz 1 (.bool true)).set3 (.int .u8 (a.fam : Nat)) (V64 a.hi) (V64 a.lo)).up ((Below.refl _ _).alloc (Nat.le_refl _) (.cells #[.int .u8 (a.fam : Nat), V64 a.hi, V64 a.lo] 24))
      have hxf := ((((hx3.set 1 (.bool true)).other hne 0 (.int .u8 (a.fam : Nat))).other hne 1 (V64 a.hi)).other hne 2 (V64 a.lo)).up ((Below.refl _ _).alloc (Nat.le_refl _) (.cells #[.int .u8 (a.fam : Nat), V64 a.hi, V64 a.lo] 24))
      have hbf := (((((((But.of hA).trans hb1).trans hb2).trans (But.of hb3)).set 1 (.bool true)).setNew (p := ⟨w.heap.size, 0, none⟩) (Nat.le_refl _) (.int .u8 (a.fam : Nat))).setNew (p := ⟨w.heap.size, 1, none⟩) (Nat.le_refl _) (V64 a.hi)).setNew (p := ⟨w.heap.size, 2, none⟩) (Nat.le_refl _) (V64 a.lo)
      have hbg := hbf.alloc (.cells #[.int .u8 (a.fam : Nat), V64 a.hi, V64 a.lo] 24)
      obtain ⟨e0, e1, e2, _, _, _⟩ := hzf.three
      exact bodyPost_ret (v := adV a) (by simp [results, Tryd.results52, go_sem, e0, e1, e2]) rfl ⟨by rw [Hk.out], by rw [Hk.out]; exact hxf, hbg⟩
    · go_enter Tryd.func52, Tryd.ntmps52
      go_wp2_with (first
        | (go_at_call 55; (with_reducible refine (HB.out _ hx0).mono ?_); rintro e w1 ⟨rfl, hx1, hb1⟩; have hz1 := hz0.but hb1 hne)
        | (go_at_call 82; (with_reducible refine (HP'.out _ hx1).mono ?_); rintro e w2 ⟨rfl, hx2, hb2⟩; have hz2 := hz1.but hb2 hne)
        | (go_at_call 83; (with_reducible refine (HF.out _).mono ?_); rintro e w3 ⟨rfl, hb3⟩; have hx3 := hx2.up hb3; have hz3 := hz2.up hb3; have hlt3 := hz3.lt; have hgl3 := hx3.lt; obtain ⟨y0, y1, g0, g1⟩ := hx3.two; obtain ⟨c0, c1, c2, k0, k1, k2⟩ := hz3.three))
      have hgz : g ≠ w.heap.size := fun h => hne h.symm
      have hzf := ((hz3.other hgz 1 (.bool true)).set3 (.int .u8 (a.fam : Nat)) (V64 a.hi) (V64 a.lo)).up ((Below.refl _ _).alloc (Nat.le_refl _) (.cells #[.int .u8 (a.fam : Nat), V64 a.hi, V64 a.lo] 24))
      have hxf := ((((hx3.set 1 (.bool true)).other hne 0 (.int .u8 (a.fam : Nat))).other hne 1 (V64 a.hi)).other hne 2 (V64 a.lo)).up ((Below.refl _ _).alloc (Nat.le_refl _) (.cells #[.int .u8 (a.fam : Nat), V64 a.hi, V64 a.lo] 24))
      have hbf := (((((((But.of hA).trans hb1).trans hb2).trans (But.of hb3)).set 1 (.bool true)).setNew (p := ⟨w.heap.size, 0, none⟩) (Nat.le_refl _) (.int .u8 (a.fam : Nat))).setNew (p := ⟨w.heap.size, 1, none⟩) (Nat.le_refl _) (V64 a.hi)).setNew (p := ⟨w.heap.size, 2, none⟩) (Nat.le_refl _) (V64 a.lo)
      have hbg := hbf.alloc (.cells #[.int .u8 (a.fam : Nat), V64 a.hi, V64 a.lo] 24)
      obtain ⟨e0, e1, e2, _, _, _⟩ := hzf.three
      exact bodyPost_ret (v := adV a) (by simp [results, Tryd.results52, go_sem, e0, e1, e2]) rfl ⟨by rw [Hk.out], by rw [Hk.out]; exact hxf, hbg⟩
  · rw [if_neg h6] at Hk
    have HP' := Lib.hid (fun wx (h : RdX wx g q1) => show Calls Tryd.prog 82 #[.pointer (some ⟨g, 0, none⟩), .int .i64 4] wx fun e w' => e = .returned (S (P.qP 4 q1).1) ∧ RdX w' g (P.qP 4 q1).2 ∧ But g wx w' from HP.out wx 4 (by omega) h)
    have hF := hsz 4
    clear HP hsz
    generalize P.qP 4 q1 = r at *
    obtain ⟨t, s2, b2⟩ := r
    simp only at HP' hF Hk
    have HF := Lib.hid (fun wx => fromB_any fam t (by omega) hF wx)
    generalize P.fromB fam t = a at *
    obtain ⟨a, ok⟩ := a
    simp only at HF Hk
    have t6 : ((fam : Int) == 6) = false := beq_eq_false_iff_ne.2 (by omega)
    clear h6
    cases b2 <;> cases ok
    · go_enter Tryd.func52, Tryd.ntmps52
      go_wp2_with (first
        | (go_at_call 55; (with_reducible refine (HB.out _ hx0).mono ?_); rintro e w1 ⟨rfl, hx1, hb1⟩; have hz1 := hz0.but hb1 hne)
        | (go_at_call 82; (with_reducible refine (HP'.out _ hx1).mono ?_); rintro e w2 ⟨rfl, hx2, hb2⟩; have hz2 := hz1.but hb2 hne)
        | (go_at_call 83; (with_reducible refine (HF.out _).mono ?_); rintro e w3 ⟨rfl, hb3⟩; have hx3 := hx2.up hb3; have hz3 := hz2.up hb3; have hlt3 := hz3.lt; have hgl3 := hx3.lt; obtain ⟨y0, y1, g0, g1⟩ := hx3.two; obtain ⟨c0, c1, c2, k0, k1, k2⟩ := hz3.three))
      have hgz : g ≠ w.heap.size := fun h => hne h.symm
      have hzf := ((hz3.other hgz 1 (.bool true)).set3 (.int .u8 (a.fam : Nat)) (V64 a.hi) (V64 a.lo)).up ((Below.refl _ _).alloc (Nat.le_refl _) (.cells #[.int .u8 (a.fam : Nat), V64 a.hi, V64 a.lo] 24))
      have hxf := ((((hx3.set 1 (.bool true)).other hne 0 (.int .u8 (a.fam : Nat))).other hne 1 (V64 a.hi)).other hne 2 (V64 a.lo)).up ((Below.refl _ _).alloc (Nat.le_refl _) (.cells #[.int .u8 (a.fam : Nat), V64 a.hi, V64 a.lo] 24))
      have hbf := (((((((But.of hA).trans hb1).trans hb2).trans (But.of hb3)).set 1 (.bool true)).setNew (p := ⟨w.heap.size, 0, none⟩) (Nat.le_refl _) (.int .u8 (a.fam : Nat))).setNew (p := ⟨w.heap.size, 1, none⟩) (Nat.le_refl _) (V64 a.hi)).setNew (p := ⟨w.heap.size, 2, none⟩) (Nat.le_refl _) (V64 a.lo)
      have hbg := hbf.alloc (.cells #[.int .u8 (a.fam : Nat), V64 a.hi, V64 a.lo] 24)
      obtain ⟨e0, e1, e2, _, _, _⟩ := hzf.three
      exact bodyPost_ret (v := adV a) (by simp [results, Tryd.results52, go_sem, e0, e1, e2]) rfl ⟨by rw [Hk.out], by rw [Hk.out]; exact hxf, hbg⟩
    · go_enter Tryd.func52, Tryd.ntmps52
      go_wp2_with (first
        | (go_at_call 55; (with_reducible refine (HB.out _ hx0).mono ?_); rintro e w1 ⟨rfl, hx1, hb1⟩; have hz1 := hz0.but hb1 hne)
        | (go_at_call 82; (with_reducible refine (HP'.out _ hx1).mono ?_); rintro e w2 ⟨rfl, hx2, hb2⟩; have hz2 := hz1.but hb2 hne)
        | (go_at_call 83; (with_reducible refine (HF.out _).mono ?_); rintro e w3 ⟨rfl, hb3⟩; have hx3 := hx2.up hb3; have hz3 := hz2.up hb3; have hlt3 := hz3.lt; have hgl3 := hx3.lt; obtain ⟨y0, y1, g0, g1⟩ := hx3.two; obtain ⟨c0, c1, c2, k0, k1, k2⟩ := hz3.three))
      have hgz : g ≠ w.heap.size := fun h => hne h.symm
      have hzf := ((hz3.other hgz 1 (.bool false)).set3 (.int .u8 (a.fam : Nat)) (V64 a.hi) (V64 a.lo)).up ((Below.refl _ _).alloc (Nat.le_refl _) (.cells #[.int .u8 (a.fam : Nat), V64 a.hi, V64 a.lo] 24))
      have hxf := ((((hx3.set 1 (.bool false)).other hne 0 (.int .u8 (a.fam : Nat))).other hne 1 (V64 a.hi)).other hne 2 (V64 a.lo)).up ((Below.refl _ _).alloc (Nat.le_refl _) (.cells #[.int .u8 (a.fam : Nat), V64 a.hi, V64 a.lo] 24))
      have hbf := (((((((But.of hA).trans hb1).trans hb2).trans (But.of hb3)).set 1 (.bool false)).setNew (p := ⟨w.heap.size, 0, none⟩) (Nat.le_refl _) (.int .u8 (a.fam : Nat))).setNew (p := ⟨w.heap.size, 1, none⟩) (Nat.le_refl _) (V64 a.hi)).setNew (p := ⟨w.heap.size, 2, none⟩) (Nat.le_refl _) (V64 a.lo)
      have hbg := hbf.alloc (.cells #[.int .u8 (a.fam : Nat), V64 a.hi, V64 a.lo] 24)
      obtain ⟨e0, e1, e2, _, _, _⟩ := hzf.three
      exact bodyPost_ret (v := adV a) (by simp [results, Tryd.results52, go_sem, e0, e1, e2]) rfl ⟨by rw [Hk.out], by rw [Hk.out]; exact hxf, hbg⟩
    · go_enter Tryd.func52, Tryd.ntmps52
      go_wp2_with (first
        | (go_at_call 55; (with_reducible refine (HB.out _ hx0).mono ?_); rintro e w1 ⟨rfl, hx1, hb1⟩; have hz1 := hz0.but hb1 hne)
        | (go_at_call 82; (with_reducible refine (HP'.out _ hx1).mono ?_); rintro e w2 ⟨rfl, hx2, hb2⟩; have hz2 := hz1.but hb2 hne)
        | (go_at_call 83; (with_reducible refine (HF.out _).mono ?_); rintro e w3 ⟨rfl, hb3⟩; have hx3 := hx2.up hb3; have hz3 := hz2.up hb3; have hlt3 := hz3.lt; have hgl3 := hx3.lt; obtain ⟨y0, y1, g0, g1⟩ := hx3.two; obtain ⟨c0, c1, c2, k0, k1, k2⟩ := hz3.three))
      have hgz : g ≠ w.heap.size := fun h => hne h.symm
      have hzf := ((hz3.other hgz 1 (.bool true)).set3 (.int .u8 (a.fam : Nat)) (V64 a.hi) (V64 a.lo)).up ((Below.refl _ _).alloc (Nat.le_refl _) (.cells #[.int .u8 (a.fam : Nat), V64 a.hi, V64 a.lo] 24))
      have hxf := ((((hx3.set 1 (.bool true)).other hne 0 (.int .u8 (a.fam : Nat))).other hne 1 (V64 a.hi)).other hne 2 (V64 a.lo)).up ((Below.refl _ _).alloc (Nat.le_refl _) (.cells #[.int .u8 (a.fam : Nat), V64 a.hi, V64 a.lo] 24))
      have hbf := (((((((But.of hA).trans hb1).trans hb2).trans (But.of hb3)).set 1 (.bool true)).setNew (p := ⟨w.heap.size, 0, none⟩) (Nat.le_refl _) (.int .u8 (a.fam : Nat))).setNew (p := ⟨w.heap.size, 1, none⟩) (Nat.le_refl _) (V64 a.hi)).setNew (p := ⟨w.heap.size, 2, none⟩) (Nat.le_refl _) (V64 a.lo)
      have hbg := hbf.alloc (.cells #[.int .u8 (a.fam : Nat), V64 a.hi, V64 a.lo] 24)
      obtain ⟨e0, e1, e2, _, _, _⟩ := hzf.three
      exact bodyPost_ret (v := adV a) (by simp [results, Tryd.results52, go_sem, e0, e1, e2]) rfl ⟨by rw [Hk.out], by rw [Hk.out]; exact hxf, hbg⟩
    · go_enter Tryd.func52, Tryd.ntmps52
      go_wp2_with (first
        | (go_at_call 55; (with_reducible refine (HB.out _ hx0).mono ?_); rintro e w1 ⟨rfl, hx1, hb1⟩; have hz1 := hz0.but hb1 hne)
        | (go_at_call 82; (with_reducible refine (HP'.out _ hx1).mono ?_); rintro e w2 ⟨rfl, hx2, hb2⟩; have hz2 := hz1.but hb2 hne)
        | (go_at_call 83; (with_reducible refine (HF.out _).mono ?_); rintro e w3 ⟨rfl, hb3⟩; have hx3 := hx2.up hb3; have hz3 := hz2.up hb3; have hlt3 := hz3.lt; have hgl3 := hx3.lt; obtain ⟨y0, y1, g0, g1⟩ := hx3.two; obtain ⟨c0, c1, c2, k0, k1, k2⟩ := hz3.three))
      have hgz : g ≠ w.heap.size := fun h => hne h.symm
      have hzf := ((hz3.other hgz 1 (.bool true)).set3 (.int .u8 (a.fam : Nat)) (V64 a.hi) (V64 a.lo)).up ((Below.refl _ _).alloc (Nat.le_refl _) (.cells #[.int .u8 (a.fam : Nat), V64 a.hi, V64 a.lo] 24))
      have hxf := ((((hx3.set 1 (.bool true)).other hne 0 (.int .u8 (a.fam : Nat))).other hne 1 (V64 a.hi)).other hne 2 (V64 a.lo)).up ((Below.refl _ _).alloc (Nat.le_refl _) (.cells #[.int .u8 (a.fam : Nat), V64 a.hi, V64 a.lo] 24))
      have hbf := (((((((But.of hA).trans hb1).trans hb2).trans (But.of hb3)).set 1 (.bool true)).setNew (p := ⟨w.heap.size, 0, none⟩) (Nat.le_refl _) (.int .u8 (a.fam : Nat))).setNew (p := ⟨w.heap.size, 1, none⟩) (Nat.le_refl _) (V64 a.hi)).setNew (p := ⟨w.heap.size, 2, none⟩) (Nat.le_refl _) (V64 a.lo)
      have hbg := hbf.alloc (.cells #[.int .u8 (a.fam : Nat), V64 a.hi, V64 a.lo] 24)
      obtain ⟨e0, e1, e2, _, _, _⟩ := hzf.three
      exact bodyPost_ret (v := adV a) (by simp [results, Tryd.results52, go_sem, e0, e1, e2]) rfl ⟨by rw [Hk.out], by rw [Hk.out]; exact hxf, hbg⟩
set_option maxRecDepth 100000 in
set_option maxHeartbeats 4000000 in
theorem prefix_any (g : Nat) (q : P.Qs) (w : World) (hs : q.1.length ≤ 1000000000) (hx : RdX w g q) :
    Calls Tryd.prog 51 #[.pointer (some ⟨g, 0, none⟩)] w fun e w' => e = .returned (pxV (P.qX q).1) ∧ RdX w' g (P.qX q).2 ∧ But g w w' := by
  have hlt := hx.lt
  have hA := (Below.refl w.heap.size w).alloc (Nat.le_refl _) (.cells #[.int .u8 0, .int .u64 0, .int .u64 0, .int .i64 0] 26)
  have hz0 := Bx.fresh w 26 #[.int .u8 0, .int .u64 0, .int .u64 0, .int .i64 0]
  have hx0 := hx.up hA
  have hne : w.heap.size ≠ g := by omega
  have HA := Lib.hid (fun wx (h : RdX wx g q) => addr_any g q wx hs h)
  have hle := P.qA_le q
  have hty := P.qX_ty q
  have Hk := Lib.hid (show P.qX q = (⟨(P.qA q).1, ((P.qB 0 255 (P.qA q).2).1 : Int)⟩, ((P.qB 0 255 (P.qA q).2).2.1, (P.qB 0 255 (P.qA q).2).2.2 || !P.pxOk ⟨(P.qA q).1, ((P.qB 0 255 (P.qA q).2).1 : Int)⟩)) from rfl)
  have HB := Lib.hid (fun wx (h : RdX wx g (P.qA q).2) => show Calls Tryd.prog 55 #[.pointer (some ⟨g, 0, none⟩), .int .i64 0, .int .i64 255] wx fun e w' => e = .returned (.int .i64 ((P.qB 0 255 (P.qA q).2).1 : Nat)) ∧ RdX w' g (P.qB 0 255 (P.qA q).2).2 ∧ But g wx w' from byte_any g (P.qA q).2 0 255 (by omega) wx (by omega) h)
  have hty' : P.tyX ⟨(P.qA q).1, ((P.qB 0 255 (P.qA q).2).1 : Int)⟩ := hty
  have HR := Lib.hid (fun wx => pxRight_any ⟨(P.qA q).1, ((P.qB 0 255 (P.qA q).2).1 : Int)⟩ hty' wx)
  clear hty hty'
  generalize P.qX q = res at *
  generalize P.qB 0 255 (P.qA q).2 = bb at *
  generalize P.qA q = aa at *
  obtain ⟨a, q1⟩ := aa
  obtain ⟨b, s2, bad⟩ := bb
  simp only at HA HB HR Hk hle
  generalize P.pxOk ⟨a, (b : Int)⟩ = ok at *
  cases bad with
  | true =>
    rw [Bool.true_or] at Hk
    go_enter Tryd.func51, Tryd.ntmps51
    go_wp2_with (first
      | (go_at_call 52; (with_reducible refine (HA.out _ hx0).mono ?_); rintro e w1 ⟨rfl, hx1, hb1⟩; have hz1 := hz0.but hb1 hne; have hp1 := Bx.fresh w1 26 #[.int .u8 (a.fam : Nat), V64 a.hi, V64 a.lo, .int .i64 0]; have hB1 := (Below.refl w1.heap.size w1).alloc (Nat.le_refl _) (.cells #[.int .u8 (a.fam : Nat), V64 a.hi, V64 a.lo, .int .i64 0] 26); have hx1' := hx1.up hB1; have hz1' := hz1.up hB1; have hn1 : w1.heap.size ≠ g := (by have := hx1.lt; omega); have hzn : w.heap.size ≠ w1.heap.size := (by have := hz1.lt; omega); have hge1 := hb1.size)
      | (go_at_call 55; (with_reducible refine (HB.out _ hx1').mono ?_); rintro e w2 ⟨rfl, hx2, hb2⟩; have hz2 := hz1'.but hb2 hne; have hp2 := hp1.but hb2 hn1; obtain ⟨c0, c1, c2, c3, k0, k1, k2, k3⟩ := hp2.fourP; have hx2' : RdX (w2.setCell ⟨w1.heap.size, 3, none⟩ (.int .i64 (b : Nat))) g (s2, true) := hx2.other hn1 3 _; have hz2' := hz2.other (Ne.symm hzn) 3 (.int .i64 (b : Nat)); have hp2' : Bx (w2.setCell ⟨w1.heap.size, 3, none⟩ (.int .i64 (b : Nat))) w1.heap.size 26 #[.int .u8 (a.fam : Nat), V64 a.hi, V64 a.lo, .int .i64 (b : Nat)] := hp2.set 3 _; obtain ⟨y0, y1, g0, g1⟩ := hx2.two; obtain ⟨z0, z1, z2, z3, m0, m1, m2, m3⟩ := hz2.fourP))
    have hge' : w.heap.size ≤ w1.heap.size := by have := hA.size; omega
    have hgz : g ≠ w.heap.size := fun h => hne h.symm
    have hzf := (hz2'.other hgz 1 (.bool true)).set4P (.int .u8 (a.fam : Nat)) (V64 a.hi) (V64 a.lo) (.int .i64 (b : Nat))
    have hxf := ((((hx2'.set 1 (.bool true)).other hne 0 (.int .u8 (a.fam : Nat))).other hne 1 (V64 a.hi)).other hne 2 (V64 a.lo)).other hne 3 (.int .i64 (b : Nat))
    have hbf := ((((((((((But.of hA).trans hb1).trans (But.of hB1)).trans hb2).setNew (p := ⟨w1.heap.size, 3, none⟩) hge' (.int .i64 (b : Nat))).set 1 (.bool true)).setNew (p := ⟨w.heap.size, 0, none⟩) (Nat.le_refl _) (.int .u8 (a.fam : Nat))).setNew (p := ⟨w.heap.size, 1, none⟩) (Nat.le_refl _) (V64 a.hi)).setNew (p := ⟨w.heap.size, 2, none⟩) (Nat.le_refl _) (V64 a.lo)).setNew (p := ⟨w.heap.size, 3, none⟩) (Nat.le_refl _) (.int .i64 (b : Nat)))
    obtain ⟨e0, e1, e2, e3, _, _, _, _⟩ := hzf.fourP
    exact bodyPost_ret (v := .agg #[.int .u8 (a.fam : Nat), V64 a.hi, V64 a.lo, .int .i64 (b : Nat)]) (by simp [results, Tryd.results51, go_sem, e0, e1, e2, e3]) rfl ⟨by rw [Hk.out], by rw [Hk.out]; exact hxf, hbf⟩
  | false =>
    cases ok with
    | true =>
      go_enter Tryd.func51, Tryd.ntmps51
      go_wp2_with (first
        | (go_at_call 52; (with_reducible refine (HA.out _ hx0).mono ?_); rintro e w1 ⟨rfl, hx1, hb1⟩; have hz1 := hz0.but hb1 hne; have hp1 := Bx.fresh w1 26 #[.int .u8 (a.fam : Nat), V64 a.hi, V64 a.lo, .int .i64 0]; have hB1 := (Below.refl w1.heap.size w1).alloc (Nat.le_refl _) (.cells #[.int .u8 (a.fam : Nat), V64 a.hi, V64 a.lo, .int .i64 0] 26); have hx1' := hx1.up hB1; have hz1' := hz1.up hB1; have hn1 : w1.heap.size ≠ g := (by have := hx1.lt; omega); have hzn : w.heap.size ≠ w1.heap.size := (by have := hz1.lt; omega); have hge1 := hb1.size)
        | (go_at_call 55; (with_reducible refine (HB.out _ hx1').mono ?_); rintro e w2 ⟨rfl, hx2, hb2⟩; have hz2 := hz1'.but hb2 hne; have hp2 := hp1.but hb2 hn1; obtain ⟨c0, c1, c2, c3, k0, k1, k2, k3⟩ := hp2.fourP; have hx2' : RdX (w2.setCell ⟨w1.heap.size, 3, none⟩ (.int .i64 (b : Nat))) g (s2, false) := hx2.other hn1 3 _; have hz2' := hz2.other (Ne.symm hzn) 3 (.int .i64 (b : Nat)); have hp2' : Bx (w2.setCell ⟨w1.heap.size, 3, none⟩ (.int .i64 (b : Nat))) w1.heap.size 26 #[.int .u8 (a.fam : Nat), V64 a.hi, V64 a.lo, .int .i64 (b : Nat)] := hp2.set 3 _; obtain ⟨y0, y1, g0, g1⟩ := hx2.two)
        | (go_at_call 69; (with_reducible refine (HR.out _).mono ?_); rintro e w3 ⟨rfl, hb3⟩; have hx3 := hx2'.up hb3; have hz3 := hz2'.up hb3; have hp3 := hp2'.up hb3; obtain ⟨y0, y1, g0, g1⟩ := hx3.two; obtain ⟨z0, z1, z2, z3, m0, m1, m2, m3⟩ := hz3.fourP; obtain ⟨v0, v1, v2, v3, _, _, _, _⟩ := hp3.fourP))
      have hge' : w.heap.size ≤ w1.heap.size := by have := hA.size; omega
      have hgz : g ≠ w.heap.size := fun h => hne h.symm
      have hzf := (hz3.other hgz 1 (.bool false)).set4P (.int .u8 (a.fam : Nat)) (V64 a.hi) (V64 a.lo) (.int .i64 (b : Nat))
      have hxf := ((((hx3.set 1 (.bool false)).other hne 0 (.int .u8 (a.fam : Nat))).other hne 1 (V64 a.hi)).other hne 2 (V64 a.lo)).other hne 3 (.int .i64 (b : Nat))
      have hbf := (((((((((((But.of hA).trans hb1).trans (But.of hB1)).trans hb2).setNew (p := ⟨w1.heap.size, 3, none⟩) hge' (.int .i64 (b : Nat))).trans (But.of hb3)).set 1 (.bool false)).setNew (p := ⟨w.heap.size, 0, none⟩) (Nat.le_refl _) (.int .u8 (a.fam : Nat))).setNew (p := ⟨w.heap.size, 1, none⟩) (Nat.le_refl _) (V64 a.hi)).setNew (p := ⟨w.heap.size, 2, none⟩) (Nat.le_refl _) (V64 a.lo)).setNew (p := ⟨w.heap.size, 3, none⟩) (Nat.le_refl _) (.int .i64 (b : Nat)))
      obtain ⟨e0, e1, e2, e3, _, _, _, _⟩ := hzf.fourP
      exact bodyPost_ret (v := .agg #[.int .u8 (a.fam : Nat), V64 a.hi, V64 a.lo, .int .i64 (b : Nat)]) (by simp [results, Tryd.results51, go_sem, e0, e1, e2, e3]) rfl ⟨by rw [Hk.out], by rw [Hk.out]; exact hxf, hbf⟩
    | false =>
      go_enter Tryd.func51, Tryd.ntmps51
      go_wp2_with (first
        | (go_at_call 52; (with_reducible refine (HA.out _ hx0).mono ?_); rintro e w1 ⟨rfl, hx1, hb1⟩; have hz1 := hz0.but hb1 hne; have hp1 := Bx.fresh w1 26 #[.int .u8 (a.fam : Nat), V64 a.hi, V64 a.lo, .int .i64 0]; have hB1 := (Below.refl w1.heap.size w1).alloc (Nat.le_refl _) (.cells #[.int .u8 (a.fam : Nat), V64 a.hi, V64 a.lo, .int .i64 0] 26); have hx1' := hx1.up hB1; have hz1' := hz1.up hB1; have hn1 : w1.heap.size ≠ g := (by have := hx1.lt; omega); have hzn : w.heap.size ≠ w1.heap.size := (by have := hz1.lt; omega); have hge1 := hb1.size)
        | (go_at_call 55; (with_reducible refine (HB.out _ hx1').mono ?_); rintro e w2 ⟨rfl, hx2, hb2⟩; have hz2 := hz1'.but hb2 hne; have hp2 := hp1.but hb2 hn1; obtain ⟨c0, c1, c2, c3, k0, k1, k2, k3⟩ := hp2.fourP; have hx2' : RdX (w2.setCell ⟨w1.heap.size, 3, none⟩ (.int .i64 (b : Nat))) g (s2, false) := hx2.other hn1 3 _; have hz2' := hz2.other (Ne.symm hzn) 3 (.int .i64 (b : Nat)); have hp2' : Bx (w2.setCell ⟨w1.heap.size, 3, none⟩ (.int .i64 (b : Nat))) w1.heap.size 26 #[.int .u8 (a.fam : Nat), V64 a.hi, V64 a.lo, .int .i64 (b : Nat)] := hp2.set 3 _; obtain ⟨y0, y1, g0, g1⟩ := hx2.two)
        | (go_at_call 69; (with_reducible refine (HR.out _).mono ?_); rintro e w3 ⟨rfl, hb3⟩; have hx3 := hx2'.up hb3; have hz3 := hz2'.up hb3; have hp3 := hp2'.up hb3; obtain ⟨y0, y1, g0, g1⟩ := hx3.two; obtain ⟨z0, z1, z2, z3, m0, m1, m2, m3⟩ := hz3.fourP; obtain ⟨v0, v1, v2, v3, _, _, _, _⟩ := hp3.fourP))
      have hge' : w.heap.size ≤ w1.heap.size := by have := hA.size; omega
      have hgz : g ≠ w.heap.size := fun h => hne h.symm
      have hzf := (hz3.other hgz 1 (.bool true)).set4P (.int .u8 (a.fam : Nat)) (V64 a.hi) (V64 a.lo) (.int .i64 (b : Nat))
      have hxf := ((((hx3.set 1 (.bool true)).other hne 0 (.int .u8 (a.fam : Nat))).other hne 1 (V64 a.hi)).other hne 2 (V64 a.lo)).other hne 3 (.int .i64 (b : Nat))
      have hbf := (((((((((((But.of hA).trans hb1).trans (But.of hB1)).trans hb2).setNew (p := ⟨w1.heap.size, 3, none⟩) hge' (.int .i64 (b : Nat))).trans (But.of hb3)).set 1 (.bool true)).setNew (p := ⟨w.heap.size, 0, none⟩) (Nat.le_refl _) (.int .u8 (a.fam : Nat))).setNew (p := ⟨w.heap.size, 1, none⟩) (Nat.le_refl _) (V64 a.hi)).setNew (p := ⟨w.heap.size, 2, none⟩) (Nat.le_refl _) (V64 a.lo)).setNew (p := ⟨w.heap.size, 3, none⟩) (Nat.le_refl _) (.int .i64 (b : Nat)))
      obtain ⟨e0, e1, e2, e3, _, _, _, _⟩ := hzf.fourP
      exact bodyPost_ret (v := .agg #[.int .u8 (a.fam : Nat), V64 a.hi, V64 a.lo, .int .i64 (b : Nat)]) (by simp [results, Tryd.results51, go_sem, e0, e1, e2, e3]) rfl ⟨by rw [Hk.out], by rw [Hk.out]; exact hxf, hbf⟩
set_option maxRecDepth 100000 in
set_option maxHeartbeats 4000000 in
theorem lease_any (g : Nat) (q : P.Qs) (w : World) (hs : q.1.length ≤ 1000000000) (hx : RdX w g q) :
    Calls Tryd.prog 89 #[.pointer (some ⟨g, 0, none⟩)] w fun e w' => e = .returned (.agg #[S (P.qL q).1.1, V64 (P.qL q).1.2]) ∧ RdX w' g (P.qL q).2 ∧ But g w w' := by
  have hlt := hx.lt
  have hA := (Below.refl w.heap.size w).alloc (Nat.le_refl _) (.cells #[S [], .int .u64 0] 31)
  have hz0 := Bx.fresh w 31 #[S [], .int .u64 0]
  have hx0 := hx.up hA
  have hne : w.heap.size ≠ g := by omega
  have hle := P.qO_le q
  have HO := Lib.hid (fun wx (h : RdX wx g q) => owner_any g q wx hs h)
  have HN := Lib.hid (fun wx (h : RdX wx g (P.qO q).2) => number_any g (P.qO q).2 wx (by omega) h)
  have Hk := Lib.hid (show P.qL q = (((P.qO q).1, (P.qN (P.qO q).2).1), (P.qN (P.qO q).2).2) from rfl)
  generalize P.qL q = res at *
  generalize P.qN (P.qO q).2 = u at *
  generalize P.qO q = o at *
  obtain ⟨o, q1⟩ := o
  obtain ⟨u, s2, b2⟩ := u
  simp only at HO HN Hk hle
  go_enter Tryd.func89, Tryd.ntmps89
  go_wp2_with (first
    | (go_at_call 53; (with_reducible refine (HO.out _ hx0).mono ?_); rintro e w1 ⟨rfl, hx1, hb1⟩; have hz1 := hz0.but hb1 hne)
    | (go_at_call 54; (with_reducible refine (HN.out _ hx1).mono ?_); rintro e w2 ⟨rfl, hx2, hb2⟩; have hz2 := hz1.but hb2 hne; obtain ⟨c0, c1, k0, k1⟩ := hz2.two))
  have hzf := hz2.set2 (S o) (V64 u)
  have hxf := (hx2.other hne 0 (S o)).other hne 1 (V64 u)
  have hbf := ((((But.of hA).trans hb1).trans hb2).setNew (p := ⟨w.heap.size, 0, none⟩) (Nat.le_refl _) (S o)).setNew (p := ⟨w.heap.size, 1, none⟩) (Nat.le_refl _) (V64 u)
  obtain ⟨e0, e1, _, _⟩ := hzf.two
  exact bodyPost_ret (v := .agg #[S o, V64 u]) (by simp [results, Tryd.results89, go_sem, e0, e1]) rfl ⟨by rw [Hk.out], by rw [Hk.out]; exact hxf, hbf⟩
theorem Bx.set15 {w : World} {g : Nat} {t : TypeId} {a0 a1 a2 a3 a4 a5 a6 a7 a8 a9 a10 a11 a12 a13 a14 : Value} (h : Bx w g t #[a0, a1, a2, a3, a4, a5, a6, a7, a8, a9, a10, a11, a12, a13, a14]) (b0 b1 b2 b3 b4 b5 b6 b7 b8 b9 b10 b11 b12 b13 b14 : Value) : Bx (((((((((((((((w.setCell ⟨g, 0, none⟩ b0).setCell ⟨g, 1, none⟩ b1).setCell ⟨g, 2, none⟩ b2).setCell ⟨g, 3, none⟩ b3).setCell ⟨g, 4, none⟩ b4).setCell ⟨g, 5, none⟩ b5).setCell ⟨g, 6, none⟩ b6).setCell ⟨g, 7, none⟩ b7).setCell ⟨g, 8, none⟩ b8).setCell ⟨g, 9, none⟩ b9).setCell ⟨g, 10, none⟩ b10).setCell ⟨g, 11, none⟩ b11).setCell ⟨g, 12, none⟩ b12).setCell ⟨g, 13, none⟩ b13).setCell ⟨g, 14, none⟩ b14) g t #[b0, b1, b2, b3, b4, b5, b6, b7, b8, b9, b10, b11, b12, b13, b14] := by
  have h0 : Bx _ g t #[b0, a1, a2, a3, a4, a5, a6, a7, a8, a9, a10, a11, a12, a13, a14] := h.set 0 b0
  have h1 : Bx _ g t #[b0, b1, a2, a3, a4, a5, a6, a7, a8, a9, a10, a11, a12, a13, a14] := h0.set 1 b1
  have h2 : Bx _ g t #[b0, b1, b2, a3, a4, a5, a6, a7, a8, a9, a10, a11, a12, a13, a14] := h1.set 2 b2
  have h3 : Bx _ g t #[b0, b1, b2, b3, a4, a5, a6, a7, a8, a9, a10, a11, a12, a13, a14] := h2.set 3 b3
  have h4 : Bx _ g t #[b0, b1, b2, b3, b4, a5, a6, a7, a8, a9, a10, a11, a12, a13, a14] := h3.set 4 b4
  have h5 : Bx _ g t #[b0, b1, b2, b3, b4, b5, a6, a7, a8, a9, a10, a11, a12, a13, a14] := h4.set 5 b5
  have h6 : Bx _ g t #[b0, b1, b2, b3, b4, b5, b6, a7, a8, a9, a10, a11, a12, a13, a14] := h5.set 6 b6
  have h7 : Bx _ g t #[b0, b1, b2, b3, b4, b5, b6, b7, a8, a9, a10, a11, a12, a13, a14] := h6.set 7 b7
  have h8 : Bx _ g t #[b0, b1, b2, b3, b4, b5, b6, b7, b8, a9, a10, a11, a12, a13, a14] := h7.set 8 b8
  have h9 : Bx _ g t #[b0, b1, b2, b3, b4, b5, b6, b7, b8, b9, a10, a11, a12, a13, a14] := h8.set 9 b9
  have h10 : Bx _ g t #[b0, b1, b2, b3, b4, b5, b6, b7, b8, b9, b10, a11, a12, a13, a14] := h9.set 10 b10
  have h11 : Bx _ g t #[b0, b1, b2, b3, b4, b5, b6, b7, b8, b9, b10, b11, a12, a13, a14] := h10.set 11 b11
  have h12 : Bx _ g t #[b0, b1, b2, b3, b4, b5, b6, b7, b8, b9, b10, b11, b12, a13, a14] := h11.set 12 b12
  have h13 : Bx _ g t #[b0, b1, b2, b3, b4, b5, b6, b7, b8, b9, b10, b11, b12, b13, a14] := h12.set 13 b13
  have h14 : Bx _ g t #[b0, b1, b2, b3, b4, b5, b6, b7, b8, b9, b10, b11, b12, b13, b14] := h13.set 14 b14
  exact h14
abbrev hdV (h : Nat × Nat × Nat) : Value := .agg #[.int .u8 (h.1 : Nat), .int .u8 (h.2.1 : Nat), V64 h.2.2, .int .u8 0, .int .u64 0, .int .u64 0, .int .i64 0, .int .u8 0, .int .u64 0, .int .u64 0, .string ⟨#[]⟩, .string ⟨#[]⟩, .int .u64 0, .int .u64 0, .int .i64 0]
set_option maxRecDepth 100000 in
set_option maxHeartbeats 4000000 in
theorem head_any (g : Nat) (q : P.Qs) (w : World) (hs : q.1.length ≤ 1000000000) (hx : RdX w g q) :
    Calls Tryd.prog 49 #[.pointer (some ⟨g, 0, none⟩)] w fun e w' => e = .returned (hdV (P.qH q).1) ∧ RdX w' g (P.qH q).2 ∧ But g w w' := by
  have hlt := hx.lt
  have hA := (Below.refl w.heap.size w).alloc (Nat.le_refl _) (.cells #[.int .u8 0, .int .u8 0, .int .u64 0, .int .u8 0, .int .u64 0, .int .u64 0, .int .i64 0, .int .u8 0, .int .u64 0, .int .u64 0, .string ⟨#[]⟩, .string ⟨#[]⟩, .int .u64 0, .int .u64 0, .int .i64 0] 28)
  have hz0 := Bx.fresh w 28 #[.int .u8 0, .int .u8 0, .int .u64 0, .int .u8 0, .int .u64 0, .int .u64 0, .int .i64 0, .int .u8 0, .int .u64 0, .int .u64 0, .string ⟨#[]⟩, .string ⟨#[]⟩, .int .u64 0, .int .u64 0, .int .i64 0]
  have hx0 := hx.up hA
  have hne : w.heap.size ≠ g := by omega
  have hl1 := P.qB_le 0 255 q
  have hl2 := P.qB_le 0 255 (P.qB 0 255 q).2
  have hb1' := P.qB_lt 0 255 q
  have hb2' := P.qB_lt 0 255 (P.qB 0 255 q).2
  have H1 := Lib.hid (fun wx (h : RdX wx g q) => show Calls Tryd.prog 55 #[.pointer (some ⟨g, 0, none⟩), .int .i64 0, .int .i64 255] wx fun e w' => e = .returned (.int .i64 ((P.qB 0 255 q).1 : Nat)) ∧ RdX w' g (P.qB 0 255 q).2 ∧ But g wx w' from byte_any g q 0 255 (by omega) wx hs h)
  have H2 := Lib.hid (fun wx (h : RdX wx g (P.qB 0 255 q).2) => show Calls Tryd.prog 55 #[.pointer (some ⟨g, 0, none⟩), .int .i64 0, .int .i64 255] wx fun e w' => e = .returned (.int .i64 ((P.qB 0 255 (P.qB 0 255 q).2).1 : Nat)) ∧ RdX w' g (P.qB 0 255 (P.qB 0 255 q).2).2 ∧ But g wx w' from byte_any g (P.qB 0 255 q).2 0 255 (by omega) wx (by omega) h)
  have H3 := Lib.hid (fun wx (h : RdX wx g (P.qB 0 255 (P.qB 0 255 q).2).2) => show Calls Tryd.prog 82 #[.pointer (some ⟨g, 0, none⟩), .int .i64 8] wx fun e w' => e = .returned (S (P.qP 8 (P.qB 0 255 (P.qB 0 255 q).2).2).1) ∧ RdX w' g (P.qP 8 (P.qB 0 255 (P.qB 0 255 q).2).2).2 ∧ But g wx w' from part_any g (P.qB 0 255 (P.qB 0 255 q).2).2 8 wx (by omega) (by omega) h)
  have hl3 : (P.qP 8 (P.qB 0 255 (P.qB 0 255 q).2).2).1.length ≤ 1000000000 := by unfold P.qP; split <;> simp <;> omega
  have Hk := Lib.hid (show P.qH q = (((P.qB 0 255 q).1, (P.qB 0 255 (P.qB 0 255 q).2).1, P.bigNum (P.qP 8 (P.qB 0 255 (P.qB 0 255 q).2).2).1 8), (P.qP 8 (P.qB 0 255 (P.qB 0 255 q).2).2).2) from rfl)
  generalize P.qH q = res at *
  generalize P.qP 8 (P.qB 0 255 (P.qB 0 255 q).2).2 = p8 at *
  generalize P.qB 0 255 (P.qB 0 255 q).2 = b2 at *
  generalize P.qB 0 255 q = b1 at *
  obtain ⟨op, q1⟩ := b1
  obtain ⟨cl, q2⟩ := b2
  obtain ⟨t, s3, bad⟩ := p8
  simp only at H1 H2 H3 Hk hl3 hb1' hb2'
  have HB := Lib.hid (fun wx => big8_any t 8 rfl wx hl3)
  generalize P.bigNum t 8 = n at *
  generalize P.bigOk t 8 = ok at *
  clear hl1 hl2 hl3
  go_enter Tryd.func49, Tryd.ntmps49
  go_wp2_with (first
    | (go_at_call 55; (with_reducible refine (H1.out _ hx0).mono ?_); rintro e w1 ⟨rfl, hx1, hb1⟩; have hz1 := hz0.but hb1 hne)
    | (go_at_call 55; (with_reducible refine (H2.out _ hx1).mono ?_); rintro e w2 ⟨rfl, hx2, hb2⟩; have hz2 := hz1.but hb2 hne; have hp2 := Bx.fresh w2 28 #[.int .u8 (op : Nat), .int .u8 (cl : Nat), .int .u64 0, .int .u8 0, .int .u64 0, .int .u64 0, .int .i64 0, .int .u8 0, .int .u64 0, .int .u64 0, .string ⟨#[]⟩, .string ⟨#[]⟩, .int .u64 0, .int .u64 0, .int .i64 0]; have hB2 := (Below.refl w2.heap.size w2).alloc (Nat.le_refl _) (.cells #[.int .u8 (op : Nat), .int .u8 (cl : Nat), .int .u64 0, .int .u8 0, .int .u64 0, .int .u64 0, .int .i64 0, .int .u8 0, .int .u64 0, .int .u64 0, .string ⟨#[]⟩, .string ⟨#[]⟩, .int .u64 0, .int .u64 0, .int .i64 0] 28); have hx2' := hx2.up hB2; have hz2' := hz2.up hB2; have hn2 : w2.heap.size ≠ g := (by have := hx2.lt; omega); have hzn : w.heap.size ≠ w2.heap.size := (by have := hz2.lt; omega))
    | (go_at_call 82; (with_reducible refine (H3.out _ hx2').mono ?_); rintro e w3 ⟨rfl, hx3, hb3⟩; have hz3 := hz2'.but hb3 hne; have hp3 := hp2.but hb3 hn2)
    | (go_at_call 81; (with_reducible refine (HB.out _).mono ?_); rintro e w4 ⟨rfl, hb4⟩; have hx4 := hx3.up hb4; have hz4 := hz3.up hb4; have hp4 := hp3.up hb4; obtain ⟨⟨c0, c1, c2, c3, c4, c5, c6, c7, c8, c9, c10, c11, c12, c13, c14⟩, k0, k1, k2, k3, k4, k5, k6, k7, k8, k9, k10, k11, k12, k13, k14⟩ := hp4.cells15; obtain ⟨⟨d0, d1, d2, d3, d4, d5, d6, d7, d8, d9, d10, d11, d12, d13, d14⟩, m0, m1, m2, m3, m4, m5, m6, m7, m8, m9, m10, m11, m12, m13, m14⟩ := (hz4.other (Ne.symm hzn) 2 (V64 n)).cells15))
  have hge2 : w.heap.size ≤ w2.heap.size := by have := hz2.lt; omega
  have hzp := hz4.other (Ne.symm hzn) 2 (V64 n)
  have hzf := hzp.set15 (.int .u8 (op : Nat)) (.int .u8 (cl : Nat)) (V64 n) (.int .u8 0) (.int .u64 0) (.int .u64 0) (.int .i64 0) (.int .u8 0) (.int .u64 0) (.int .u64 0) (.string ⟨#[]⟩) (.string ⟨#[]⟩) (.int .u64 0) (.int .u64 0) (.int .i64 0)
  have hxp := hx4.other hn2 2 (V64 n)
  have hxf := (((((((((((((((hxp.other hne 0 (.int .u8 (op : Nat))).other hne 1 (.int .u8 (cl : Nat))).other hne 2 (V64 n)).other hne 3 (.int .u8 0)).other hne 4 (.int .u64 0)).other hne 5 (.int .u64 0)).other hne 6 (.int .i64 0)).other hne 7 (.int .u8 0)).other hne 8 (.int .u64 0)).other hne 9 (.int .u64 0)).other hne 10 (.string ⟨#[]⟩)).other hne 11 (.string ⟨#[]⟩)).other hne 12 (.int .u64 0)).other hne 13 (.int .u64 0)).other hne 14 (.int .i64 0))
  have hbp := ((((((But.of hA).trans hb1).trans hb2).trans (But.of hB2)).trans hb3).trans (But.of hb4)).setNew (p := ⟨w2.heap.size, 2, none⟩) hge2 (V64 n)
  have hbf := (((((((((((((((hbp.setNew (p := ⟨w.heap.size, 0, none⟩) (Nat.le_refl _) (.int .u8 (op : Nat))).setNew (p := ⟨w.heap.size, 1, none⟩) (Nat.le_refl _) (.int .u8 (cl : Nat))).setNew (p := ⟨w.heap.size, 2, none⟩) (Nat.le_refl _) (V64 n)).setNew (p := ⟨w.heap.size, 3, none⟩) (Nat.le_refl _) (.int .u8 0)).setNew (p := ⟨w.heap.size, 4, none⟩) (Nat.le_refl _) (.int .u64 0)).setNew (p := ⟨w.heap.size, 5, none⟩) (Nat.le_refl _) (.int .u64 0)).setNew (p := ⟨w.heap.size, 6, none⟩) (Nat.le_refl _) (.int .i64 0)).setNew (p := ⟨w.heap.size, 7, none⟩) (Nat.le_refl _) (.int .u8 0)).setNew (p := ⟨w.heap.size, 8, none⟩) (Nat.le_refl _) (.int .u64 0)).setNew (p := ⟨w.heap.size, 9, none⟩) (Nat.le_refl _) (.int .u64 0)).setNew (p := ⟨w.heap.size, 10, none⟩) (Nat.le_refl _) (.string ⟨#[]⟩)).setNew (p := ⟨w.heap.size, 11, none⟩) (Nat.le_refl _) (.string ⟨#[]⟩)).setNew (p := ⟨w.heap.size, 12, none⟩) (Nat.le_refl _) (.int .u64 0)).setNew (p := ⟨w.heap.size, 13, none⟩) (Nat.le_refl _) (.int .u64 0)).setNew (p := ⟨w.heap.size, 14, none⟩) (Nat.le_refl _) (.int .i64 0))
  have hzf' : Bx ((((((((((((((((w4.setCell ⟨w2.heap.size, 2, none⟩ (V64 n)).setCell ⟨w.heap.size, 0, none⟩ (.int .u8 (op : Nat))).setCell ⟨w.heap.size, 1, none⟩ (.int .u8 (cl : Nat))).setCell ⟨w.heap.size, 2, none⟩ (V64 n)).setCell ⟨w.heap.size, 3, none⟩ (.int .u8 0)).setCell ⟨w.heap.size, 4, none⟩ (.int .u64 0)).setCell ⟨w.heap.size, 5, none⟩ (.int .u64 0)).setCell ⟨w.heap.size, 6, none⟩ (.int .i64 0)).setCell ⟨w.heap.size, 7, none⟩ (.int .u8 0)).setCell ⟨w.heap.size, 8, none⟩ (.int .u64 0)).setCell ⟨w.heap.size, 9, none⟩ (.int .u64 0)).setCell ⟨w.heap.size, 10, none⟩ (.string ⟨#[]⟩)).setCell ⟨w.heap.size, 11, none⟩ (.string ⟨#[]⟩)).setCell ⟨w.heap.size, 12, none⟩ (.int .u64 0)).setCell ⟨w.heap.size, 13, none⟩ (.int .u64 0)).setCell ⟨w.heap.size, 14, none⟩ (.int .i64 0)) w.heap.size 28 #[.int .u8 (op : Nat), .int .u8 (cl : Nat), V64 n, .int .u8 0, .int .u64 0, .int .u64 0, .int .i64 0, .int .u8 0, .int .u64 0, .int .u64 0, .string ⟨#[]⟩, .string ⟨#[]⟩, .int .u64 0, .int .u64 0, .int .i64 0] := hzf
  clear hzp hxp hbp hzf c0 c1 c2 c3 c4 c5 c6 c7 c8 c9 c10 c11 c12 c13 c14 k0 k1 k2 k3 k4 k5 k6 k7 k8 k9 k10 k11 k12 k13 k14 d0 d1 d2 d3 d4 d5 d6 d7 d8 d9 d10 d11 d12 d13 d14 m0 m1 m2 m3 m4 m5 m6 m7 m8 m9 m10 m11 m12 m13 m14
  generalize hWf : ((((((((((((((((w4.setCell ⟨w2.heap.size, 2, none⟩ (V64 n)).setCell ⟨w.heap.size, 0, none⟩ (.int .u8 (op : Nat))).setCell ⟨w.heap.size, 1, none⟩ (.int .u8 (cl : Nat))).setCell ⟨w.heap.size, 2, none⟩ (V64 n)).setCell ⟨w.heap.size, 3, none⟩ (.int .u8 0)).setCell ⟨w.heap.size, 4, none⟩ (.int .u64 0)).setCell ⟨w.heap.size, 5, none⟩ (.int .u64 0)).setCell ⟨w.heap.size, 6, none⟩ (.int .i64 0)).setCell ⟨w.heap.size, 7, none⟩ (.int .u8 0)).setCell ⟨w.heap.size, 8, none⟩ (.int .u64 0)).setCell ⟨w.heap.size, 9, none⟩ (.int .u64 0)).setCell ⟨w.heap.size, 10, none⟩ (.string ⟨#[]⟩)).setCell ⟨w.heap.size, 11, none⟩ (.string ⟨#[]⟩)).setCell ⟨w.heap.size, 12, none⟩ (.int .u64 0)).setCell ⟨w.heap.size, 13, none⟩ (.int .u64 0)).setCell ⟨w.heap.size, 14, none⟩ (.int .i64 0)) = wf at *
  obtain ⟨⟨e0, e1, e2, e3, e4, e5, e6, e7, e8, e9, e10, e11, e12, e13, e14⟩, _⟩ := hzf'.cells15
  exact bodyPost_ret (v := .agg #[.int .u8 (op : Nat), .int .u8 (cl : Nat), V64 n, .int .u8 0, .int .u64 0, .int .u64 0, .int .i64 0, .int .u8 0, .int .u64 0, .int .u64 0, .string ⟨#[]⟩, .string ⟨#[]⟩, .int .u64 0, .int .u64 0, .int .i64 0]) (by simp [results, Tryd.results49, go_sem, e0, e1, e2, e3, e4, e5, e6, e7, e8, e9, e10, e11, e12, e13, e14]) rfl ⟨by rw [Hk.out], by rw [Hk.out]; exact hxf, hbf⟩
end Go.Proofs.YtcobfoiajdbahaaDoor
