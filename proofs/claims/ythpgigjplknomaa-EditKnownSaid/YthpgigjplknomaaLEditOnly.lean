/- The walk of EditOnly: it answers true. -/
import Derived.Test.YthpgigjplknomaaWAwakeE
namespace Go.Proofs.Ythpgigjplknomaa
open Go.RowKit
set_option linter.unusedVariables false
set_option linter.unusedSimpArgs false

theorem decode_no (s : List UInt8) (h : P.eok s = false) (w : World) (hs : s.length ≤ 90000) :
    Calls Try.prog 14 #[S s] w fun e w' => (∃ a c b d, e = .returned (.tuple #[.agg #[.slice a 0 c, .slice b 0 d, .int .u64 0, .int .u64 0, .int .u64 0], .bool false])) ∧ Below w.heap.size w w' := by
  refine (decode_e s w hs).mono ?_
  rintro e w' ⟨⟨a, c, b, d, rfl, _⟩, hb⟩
  rw [h, (P.eok_none h).2]
  exact ⟨⟨a, c, b, d, rfl⟩, hb⟩
theorem given_zero (a b : Option Addr) (c d : Nat) (w : World) :
    Calls Try.prog 16 #[.agg #[.slice a 0 c, .slice b 0 d, .int .u64 0, .int .u64 0, .int .u64 0]] w fun e w' => e = .returned (.agg #[.slice a 0 c, .slice b 0 d, .int .u64 0, .int .u64 0, .int .u64 0]) ∧ Below w.heap.size w w' := given_any a b 0 c 0 d 0 0 0 w
theorem same_zero (a b : Option Addr) (c d : Nat) (w : World) :
    Calls Try.prog 15 #[.agg #[.slice a 0 c, .slice b 0 d, .int .u64 0, .int .u64 0, .int .u64 0], .agg #[.slice none 0 0, .slice none 0 0, .int .u64 0, .int .u64 0, .int .u64 0]] w fun e w' => e = .returned (.bool true) ∧ Below w.heap.size w w' :=
  same_e P.noE 0 0 rfl rfl a none b none c 0 d 0 w (by decide) (by decide) ⟨tabs_none _ _, nums_none _ _⟩ ⟨tabs_none _ _, nums_none _ _⟩
attribute [local go_sem] str_take

set_option maxRecDepth 100000 in
set_option maxHeartbeats 4000000 in
theorem law_only0 (s : List UInt8) (w : World) (hs : s.length ≤ 9000) :
    Calls Try.prog 10 #[S s] w fun e w' => e = .returned (.bool true) ∧ Below w.heap.size w w' := by
  have hsi : (s.length : Int) ≤ 9000 := by omega
  cases hok : P.eok s with
  | false =>
    have HD := Lib.hid (fun wx => decode_no s hok wx (by omega))
    clear hok
    go_enter Try.func10, Try.ntmps10
    go_wp2_with (first
      | (go_at_call 14; (with_reducible refine (HD.out _).mono ?_); rintro e w1 ⟨⟨a1, c1, b1, d1, rfl⟩, hb1⟩; have hc1 := Chain.up hb1 ((Below.refl w1.heap.size w1).alloc (Nat.le_refl _) (.cells #[.slice a1 0 c1, .slice b1 0 d1, .int .u64 0, .int .u64 0, .int .u64 0] 29)))
      | (go_at_call 16; (with_reducible refine (given_zero _ _ _ _ _).mono ?_); rintro e w2 ⟨rfl, hb2⟩; have hc2 := Chain.up hc1 hb2)
      | (go_at_call 15; (with_reducible refine (same_zero _ _ _ _ _).mono ?_); rintro e w3 ⟨rfl, hb3⟩; have hc3 := Chain.up hc2 hb3)
      | (go_at_call 18; (with_reducible refine (awake_any _).mono ?_); rintro e w4 ⟨rfl, hb4⟩; have hc4 := Chain.up hc3 hb4))
    go_ret
    exact ⟨rfl, hc4⟩
  | true =>
    have HD := Lib.hid (fun wx => decode_e s wx (by omega))
    have hl := P.edOf_len s (by omega)
    obtain ⟨hm, henc, hle, hty⟩ := P.decE_some (P.eok_some hok)
    have Hres := Lib.hid (show P.resE (P.edOf s) = (s, 0) by unfold P.resE; rw [hm, henc]; simp [hle])
    have Hchk := Lib.hid (show (P.chkE (P.edOf s) : Int) = 0 by unfold P.chkE; rw [hm]; rfl)
    rw [hok] at HD
    have Hty := Lib.hid hty
    clear hm henc hle hok hty
    generalize P.edOf s = x at *
    have HE := Lib.hid (fun (a b : Option Addr) (c d : Nat) wx (hp : EdAt wx a b x) => encode_any x a b c d wx hl.1 hl.2 hp Hty.out)
    rw [Hres.out] at HE
    have HC := Lib.hid (fun (a b : Option Addr) (c d : Nat) wx (hp : EdAt wx a b x) => check_any x a b x.add.length c x.drop.length d rfl rfl wx (by omega) (by omega) hp x.log x.seq x.next 0 Hchk.out)
    clear hl
    go_enter Try.func10, Try.ntmps10
    go_wp2_with (first
      | (go_at_call 14; (with_reducible refine (HD.out _).mono ?_); rintro e w1 ⟨⟨a1, c1, b1, d1, rfl, he1⟩, hb1⟩; have ha1 := (Below.refl w1.heap.size w1).alloc (Nat.le_refl _) (.cells #[.slice a1 x.add.length c1, .slice b1 x.drop.length d1, V64 x.log, V64 x.seq, V64 x.next] 29); have hc1 := Chain.up hb1 ha1; have hE1 := he1.up ha1; have hx1 := Bx.fresh w1 29 #[.slice a1 x.add.length c1, .slice b1 x.drop.length d1, V64 x.log, V64 x.seq, V64 x.next]; obtain ⟨p0, p1, p2, p3, p4⟩ := hx1.five)
      | (go_at_call 11; (with_reducible refine (HE.out _ _ _ _ _ hE1).mono ?_); rintro e w2 ⟨rfl, hb2⟩; have hc2 := Chain.up hc1 hb2; have hE2 := hE1.up hb2; have hx2 := hx1.up hb2; obtain ⟨q0, q1, q2, q3, q4⟩ := hx2.five)
      | (go_at_call 13; (with_reducible refine (HC.out _ _ _ _ _ hE2).mono ?_); rintro e w3 ⟨rfl, hb3⟩; have hc3 := Chain.up hc2 hb3)
      | (go_at_call 18; (with_reducible refine (awake_any _).mono ?_); rintro e w4 ⟨rfl, hb4⟩; have hc4 := Chain.up hc3 hb4))
    go_ret
    exact ⟨rfl, hc4⟩
set_option maxRecDepth 100000 in
set_option maxHeartbeats 4000000 in
theorem law_only1 (s s0 : List UInt8) (w : World) (hbig : 9000 < s0.length) (hqs : s0.take 9000 = s) (hs : s.length ≤ 9000) :
    Calls Try.prog 10 #[S s0] w fun e w' => e = .returned (.bool true) ∧ Below w.heap.size w w' := by
  have hsi : (9000 : Int) < (s0.length : Int) := by omega
  have hbi : 9000 ≤ s0.length := by omega
  cases hok : P.eok s with
  | false =>
    have HD := Lib.hid (fun wx => decode_no s hok wx (by omega))
    clear hok
    go_enter Try.func10, Try.ntmps10
    go_wp2_with (first
      | (go_at_call 14; (with_reducible refine (HD.out _).mono ?_); rintro e w1 ⟨⟨a1, c1, b1, d1, rfl⟩, hb1⟩; have hc1 := Chain.up hb1 ((Below.refl w1.heap.size w1).alloc (Nat.le_refl _) (.cells #[.slice a1 0 c1, .slice b1 0 d1, .int .u64 0, .int .u64 0, .int .u64 0] 29)))
      | (go_at_call 16; (with_reducible refine (given_zero _ _ _ _ _).mono ?_); rintro e w2 ⟨rfl, hb2⟩; have hc2 := Chain.up hc1 hb2)
      | (go_at_call 15; (with_reducible refine (same_zero _ _ _ _ _).mono ?_); rintro e w3 ⟨rfl, hb3⟩; have hc3 := Chain.up hc2 hb3)
      | (go_at_call 18; (with_reducible refine (awake_any _).mono ?_); rintro e w4 ⟨rfl, hb4⟩; have hc4 := Chain.up hc3 hb4))
    go_ret
    exact ⟨rfl, hc4⟩
  | true =>
    have HD := Lib.hid (fun wx => decode_e s wx (by omega))
    have hl := P.edOf_len s (by omega)
    obtain ⟨hm, henc, hle, hty⟩ := P.decE_some (P.eok_some hok)
    have Hres := Lib.hid (show P.resE (P.edOf s) = (s, 0) by unfold P.resE; rw [hm, henc]; simp [hle])
    have Hchk := Lib.hid (show (P.chkE (P.edOf s) : Int) = 0 by unfold P.chkE; rw [hm]; rfl)
    rw [hok] at HD
    have Hty := Lib.hid hty
    clear hm henc hle hok hty
    generalize P.edOf s = x at *
    have HE := Lib.hid (fun (a b : Option Addr) (c d : Nat) wx (hp : EdAt wx a b x) => encode_any x a b c d wx hl.1 hl.2 hp Hty.out)
    rw [Hres.out] at HE
    have HC := Lib.hid (fun (a b : Option Addr) (c d : Nat) wx (hp : EdAt wx a b x) => check_any x a b x.add.length c x.drop.length d rfl rfl wx (by omega) (by omega) hp x.log x.seq x.next 0 Hchk.out)
    clear hl
    go_enter Try.func10, Try.ntmps10
    go_wp2_with (first
      | (go_at_call 14; (with_reducible refine (HD.out _).mono ?_); rintro e w1 ⟨⟨a1, c1, b1, d1, rfl, he1⟩, hb1⟩; have ha1 := (Below.refl w1.heap.size w1).alloc (Nat.le_refl _) (.cells #[.slice a1 x.add.length c1, .slice b1 x.drop.length d1, V64 x.log, V64 x.seq, V64 x.next] 29); have hc1 := Chain.up hb1 ha1; have hE1 := he1.up ha1; have hx1 := Bx.fresh w1 29 #[.slice a1 x.add.length c1, .slice b1 x.drop.length d1, V64 x.log, V64 x.seq, V64 x.next]; obtain ⟨p0, p1, p2, p3, p4⟩ := hx1.five)
      | (go_at_call 11; (with_reducible refine (HE.out _ _ _ _ _ hE1).mono ?_); rintro e w2 ⟨rfl, hb2⟩; have hc2 := Chain.up hc1 hb2; have hE2 := hE1.up hb2; have hx2 := hx1.up hb2; obtain ⟨q0, q1, q2, q3, q4⟩ := hx2.five)
      | (go_at_call 13; (with_reducible refine (HC.out _ _ _ _ _ hE2).mono ?_); rintro e w3 ⟨rfl, hb3⟩; have hc3 := Chain.up hc2 hb3)
      | (go_at_call 18; (with_reducible refine (awake_any _).mono ?_); rintro e w4 ⟨rfl, hb4⟩; have hc4 := Chain.up hc3 hb4))
    go_ret
    exact ⟨rfl, hc4⟩
theorem law_only (s : List UInt8) (w : World) (_hs : s.length ≤ 9223372036854775807) :
    Calls Try.prog 10 #[S s] w fun e w' => e = .returned (.bool true) ∧ Below w.heap.size w w' := by
  by_cases h : s.length ≤ 9000
  · exact law_only0 s w h
  · exact law_only1 (s.take 9000) s w (by omega) rfl (by rw [List.length_take]; omega)
end Go.Proofs.Ythpgigjplknomaa
