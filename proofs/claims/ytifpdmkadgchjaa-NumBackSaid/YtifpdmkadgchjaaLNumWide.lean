/- The walk of NumWide: it answers true. -/
import Derived.Test.YtifpdmkadgchjaaWTextsR
import Derived.Test.YtifpdmkadgchjaaWf
import Derived.Test.YtifpdmkadgchjaaPOrd
namespace Go.Proofs.Ytifpdmkadgchjaa
open Go.RowKit
set_option linter.unusedVariables false

theorem Chain.up {w wx wy : World} (h : Below w.heap.size w wx) (hb : Below wx.heap.size wx wy) : Below w.heap.size w wy := h.trans (hb.mono h.size)

attribute [local go_sem] str_app

set_option maxRecDepth 100000 in
set_option maxHeartbeats 4000000 in
theorem law_wide (a b : Nat) (k : Int) (x : List UInt8) (w : World) (ha : a < 18446744073709551616) (hb : b < 18446744073709551616) (hk0 : -9223372036854775808 ≤ k) (hk1 : k ≤ 9223372036854775807) (hx : x.length ≤ 9223372036854775807) :
    Calls Try.prog 6 #[V64 a, V64 b, .int .i64 k, S x] w fun e w' => e = .returned (.bool true) ∧ Below w.heap.size w w' := by
  by_cases h100 : 100 < x.length
  · go_enter Try.func6, Try.ntmps6
    go_wp2_with (go_at_call 16; (with_reducible refine (awake_any _).mono ?_); rintro e w7 ⟨rfl, hb7⟩)
    go_ret
    exact ⟨rfl, hb7⟩
  · have Hbig := Lib.hid (fun w' => And.intro (bigPut_any a k w' ha hk0 hk1) (bigPut_any b k w' hb hk0 hk1))
    by_cases hk : 1 ≤ k ∧ k ≤ 8
    · obtain ⟨m, rfl⟩ : ∃ m : Nat, k = (m : Int) := ⟨k.toNat, by omega⟩
      have h1 : 1 ≤ m := by omega
      have h8 : m ≤ 8 := by omega
      have hfa := P.fits_iff a m ha
      have hfb := P.fits_iff b m hb
      by_cases hda : P.dig a ≤ m
      · have hE := P.bigE_ok a m h1 h8 hda
        have hz := hfa.1 hda
        have hzi : (a : Int) / 2 ^ (8 * m) = 0 := by exact_mod_cast hz
        by_cases hdb : P.dig b ≤ m
        · have hEb := P.bigE_ok b m h1 h8 hdb
          rw [hE.1, hE.2, hEb.1, hEb.2] at Hbig
          have hla := P.be_length m a
          have hlb := P.be_length m b
          have hlt := P.be_less m a b ((P.dig_iff a m ha).1 hda) ((P.dig_iff b m hb).1 hdb)
          have hrd := P.readBig_be m a h1 h8 ((P.dig_iff a m ha).1 hda) x
          have Hrb := Lib.hid (fun w => big_any (P.be m a ++ x) m w (by simp; omega) (by omega) (by omega))
          rw [hrd.1, hrd.2] at Hrb
          generalize P.be m a = s at *
          generalize P.be m b = t at *
          by_cases hm8 : m = 8
          · subst hm8
            rw [show ((8 : Nat) : Int) = 8 from rfl] at Hbig Hrb ⊢
            clear hE hEb hfa hfb hda hdb hrd
            go_enter Try.func6, Try.ntmps6
            go_wp2_with (first
              | (go_at_call 18; (with_reducible refine ((Hbig.out _).1).mono ?_); rintro e w1 ⟨rfl, hb1⟩)
              | (go_at_call 18; (with_reducible refine ((Hbig.out _).2).mono ?_); rintro e w2 ⟨rfl, hb2⟩)
              | (go_at_call 12; (with_reducible refine ((Hrb.out _)).mono ?_); rintro e w4 ⟨rfl, hb4⟩)
              | (go_at_call 16; (with_reducible refine (awake_any _).mono ?_); rintro e w3 ⟨rfl, hb3⟩))
            go_ret
            exact ⟨rfl, Chain.up (Chain.up (Chain.up hb1 hb2) hb4) hb3⟩
          · have hmi : ¬ (m : Int) = 8 := by omega
            clear hE hEb hfa hfb hda hdb hrd
            go_enter Try.func6, Try.ntmps6
            go_wp2_with (first
              | (go_at_call 18; (with_reducible refine ((Hbig.out _).1).mono ?_); rintro e w1 ⟨rfl, hb1⟩)
              | (go_at_call 18; (with_reducible refine ((Hbig.out _).2).mono ?_); rintro e w2 ⟨rfl, hb2⟩)
              | (go_at_call 12; (with_reducible refine ((Hrb.out _)).mono ?_); rintro e w4 ⟨rfl, hb4⟩)
              | (go_at_call 16; (with_reducible refine (awake_any _).mono ?_); rintro e w3 ⟨rfl, hb3⟩))
            go_ret
            exact ⟨rfl, Chain.up (Chain.up (Chain.up hb1 hb2) hb4) hb3⟩
        · have hEb := P.bigE_long b m h1 h8 (by omega)
          rw [hE.1, hE.2, hEb.1, hEb.2] at Hbig
          have hmi : ¬ (m : Int) = 8 := by have := P.dig_le b; omega
          generalize P.be m a = s at *
          clear hE hEb hfa hfb hda hdb
          go_enter Try.func6, Try.ntmps6
          go_wp2_with (first
            | (go_at_call 18; (with_reducible refine ((Hbig.out _).1).mono ?_); rintro e w1 ⟨rfl, hb1⟩)
            | (go_at_call 18; (with_reducible refine ((Hbig.out _).2).mono ?_); rintro e w2 ⟨rfl, hb2⟩)
            | (go_at_call 16; (with_reducible refine (awake_any _).mono ?_); rintro e w3 ⟨rfl, hb3⟩))
          go_ret
          exact ⟨rfl, Chain.up (Chain.up hb1 hb2) hb3⟩
      · have hE := P.bigE_long a m h1 h8 (by omega)
        have hz : 0 < a / 2 ^ (8 * m) := Nat.pos_of_ne_zero (fun h => hda (hfa.2 h))
        have hzi : ¬ (a : Int) / 2 ^ (8 * m) = 0 := by
          intro h
          have : a / 2 ^ (8 * m) = 0 := by exact_mod_cast h
          omega
        have hmi : ¬ (m : Int) = 8 := by have := P.dig_le a; omega
        have hq1 : ((m : Int) == 8) = false := by simpa using hmi
        have hq2 : ((a : Int) / 2 ^ (8 * m) == 0) = false := by simpa using hzi
        rw [hE.1, hE.2] at Hbig
        generalize P.bigS b m = bs at *
        generalize P.bigE b m = be at *
        clear hE hfa hfb hda
        go_enter Try.func6, Try.ntmps6
        go_wp2_with (first
          | (go_at_call 18; (with_reducible refine ((Hbig.out _).1).mono ?_); rintro e w1 ⟨rfl, hb1⟩)
          | (go_at_call 18; (with_reducible refine ((Hbig.out _).2).mono ?_); rintro e w2 ⟨rfl, hb2⟩)
          | (go_at_call 16; (with_reducible refine (awake_any _).mono ?_); rintro e w3 ⟨rfl, hb3⟩))
        go_ret
        exact ⟨rfl, Chain.up (Chain.up hb1 hb2) hb3⟩
    · rw [(P.bigE_bad a k hk).1, (P.bigE_bad a k hk).2, (P.bigE_bad b k hk).1, (P.bigE_bad b k hk).2] at Hbig
      have hk' : k < 1 ∨ 8 < k := by omega
      clear hk
      rcases hk' with hk | hk
      all_goals
        go_enter Try.func6, Try.ntmps6
        go_wp2_with (first
          | (go_at_call 18; (with_reducible refine ((Hbig.out _).1).mono ?_); rintro e w1 ⟨rfl, hb1⟩)
          | (go_at_call 18; (with_reducible refine ((Hbig.out _).2).mono ?_); rintro e w2 ⟨rfl, hb2⟩)
          | (go_at_call 16; (with_reducible refine (awake_any _).mono ?_); rintro e w3 ⟨rfl, hb3⟩))
        go_ret
        exact ⟨rfl, Chain.up (Chain.up hb1 hb2) hb3⟩

theorem law_wide' (a b k : Int) (x : List UInt8) (w : World) (ha : (Lit.int .u64 a).wf = true) (hb : (Lit.int .u64 b).wf = true) (hk : (Lit.int .i64 k).wf = true) (hx : x.length ≤ 9223372036854775807) :
    Calls Try.prog 6 #[.int .u64 a, .int .u64 b, .int .i64 k, S x] w fun e w' => e = .returned (.bool true) ∧ Below w.heap.size w w' := by
  have h1 := u64_bd ha
  have h2 := u64_bd hb
  obtain ⟨n, rfl⟩ : ∃ n : Nat, a = (n : Int) := ⟨a.toNat, by omega⟩
  obtain ⟨m, rfl⟩ : ∃ n : Nat, b = (n : Int) := ⟨b.toNat, by omega⟩
  exact law_wide n m k x w (by omega) (by omega) (i64_bd hk).1 (i64_bd hk).2 hx
end Go.Proofs.Ytifpdmkadgchjaa
