/- The walk of NumPuts: it answers true. -/
import Derived.Test.YtifpdmkadgchjaaWTextsR
import Derived.Test.YtifpdmkadgchjaaWf
namespace Go.Proofs.Ytifpdmkadgchjaa
open Go.RowKit
set_option linter.unusedVariables false

set_option maxRecDepth 100000 in
set_option maxHeartbeats 4000000 in
theorem law_puts (a : Option Addr) (c : Nat) (ns : List Nat) (hn9 : ns.length ≤ 9223372036854775807) (hns : ∀ n ∈ ns, n < 18446744073709551616) (a' : Option Addr) (c' : Nat) (ss : List (List UInt8)) (hs9 : ss.length ≤ 9223372036854775807) (n : Nat) (k : Int) (w : World)
    (hp : NumsAt w a ns) (hq : StrsAt w a' ss) (hn : n < 18446744073709551616) (hk0 : -9223372036854775808 ≤ k) (hk1 : k ≤ 9223372036854775807) :
    Calls Try.prog 8 #[.slice a ns.length c, .slice a' ss.length c', V64 n, .int .i64 k] w fun e w' => e = .returned (.bool true) ∧ Below w.heap.size w w' := by
  have Hgr := Lib.hid (fun w' (h : Below w.heap.size w w') => great_any a' c' ss w' hs9 (hq.up h))
  by_cases h200 : 200 < ns.length
  · clear hp hq hns
    go_enter Try.func8, Try.ntmps8
    go_wp2_with (go_at_call 16; (with_reducible refine (awake_any _).mono ?_); rintro e w7 ⟨rfl, hb7⟩)
    go_ret
    exact ⟨rfl, hb7⟩
  · cases hg : P.great ss with
    | true =>
      clear hp hq hns
      go_enter Try.func8, Try.ntmps8
      go_wp2_with (first
        | (go_at_call 20; (with_reducible refine (Hgr.out _ (Below.refl _ _)).mono ?_); rintro e w1 ⟨rfl, hb1⟩; rw [hg])
        | (go_at_call 16; (with_reducible refine (awake_any _).mono ?_); rintro e w7 ⟨rfl, hb7⟩))
      go_ret
      exact ⟨rfl, hb1.trans (hb7.mono hb1.size)⟩
    | false =>
      have hgr : ss.length ≤ 200 ∧ P.total ss ≤ 20000 := by
        unfold P.great at hg
        have := of_decide_eq_false hg
        omega
      have Hbig := Lib.hid (fun w' => And.intro (bigPut_any n k w' hn hk0 hk1) (refBig_any n k w' hn hk0 hk1))
      have Hv := Lib.hid (fun w' (h : Below w.heap.size w w') => And.intro (var_any a c ns w' (by omega) hns (hp.below h)) (refVar_any a c ns w' (by omega) hns (hp.below h)))
      have Ht := Lib.hid (fun w' (h : Below w.heap.size w w') => And.intro (texts_any a' c' ss w' hgr.1 hgr.2 (hq.up h)) (refTexts_any a' c' ss w' hgr.1 hgr.2 (hq.up h)))
      clear hp hq hns
      have Hg := Lib.hid hg
      clear hg
      go_enter Try.func8, Try.ntmps8
      go_wp2_with (first
        | (go_at_call 20; (with_reducible refine (Hgr.out _ (Below.refl _ _)).mono ?_); rintro e w1 ⟨rfl, hb1⟩; rw [Hg.out]; have hc1 := Lib.hid hb1)
        | (go_at_call 18; (with_reducible refine ((Hbig.out _).1).mono ?_); rintro e w2 ⟨rfl, hb2⟩; have hc2 := Lib.hid (hc1.out.trans (hb2.mono hc1.out.size)))
        | (go_at_call 21; (with_reducible refine ((Hbig.out _).2).mono ?_); rintro e w3 ⟨rfl, hb3⟩; have hc3 := Lib.hid (hc2.out.trans (hb3.mono hc2.out.size)))
        | (go_at_call 17; (with_reducible refine ((Hv.out _ hc3.out).1).mono ?_); rintro e w4 ⟨rfl, hb4⟩; have hc4 := Lib.hid (hc3.out.trans (hb4.mono hc3.out.size)))
        | (go_at_call 22; (with_reducible refine ((Hv.out _ hc4.out).2).mono ?_); rintro e w5 ⟨rfl, hb5⟩; have hc5 := Lib.hid (hc4.out.trans (hb5.mono hc4.out.size)))
        | (go_at_call 19; (with_reducible refine ((Ht.out _ hc5.out).1).mono ?_); rintro e w6 ⟨rfl, hb6⟩; have hc6 := Lib.hid (hc5.out.trans (hb6.mono hc5.out.size)))
        | (go_at_call 23; (with_reducible refine ((Ht.out _ hc6.out).2).mono ?_); rintro e w7 ⟨rfl, hb7⟩; have hc7 := Lib.hid (hc6.out.trans (hb7.mono hc6.out.size)))
        | (go_at_call 16; (with_reducible refine (awake_any _).mono ?_); rintro e w8 ⟨rfl, hb8⟩))
      go_ret
      exact ⟨rfl, hc7.out.trans (hb8.mono hc7.out.size)⟩

theorem law_puts' (a : Option Addr) (c : Nat) (ns : List Nat) (a' : Option Addr) (c' : Nat) (ss : List (List UInt8)) (x k : Int) (w : World) (hn9 : ns.length ≤ 9223372036854775807) (hns : ∀ n ∈ ns, n < 18446744073709551616) (hp : NumsAt w a ns)
    (hs9 : ss.length ≤ 9223372036854775807) (hsl : ∀ l ∈ ss, l.length ≤ 9223372036854775807) (hq : StrsAt w a' ss) (hx : (Lit.int .u64 x).wf = true) (hk : (Lit.int .i64 k).wf = true) :
    Calls Try.prog 8 #[.slice a ns.length c, .slice a' ss.length c', .int .u64 x, .int .i64 k] w fun e w' => e = .returned (.bool true) ∧ Below w.heap.size w w' := by
  have hb := u64_bd hx
  obtain ⟨n, rfl⟩ : ∃ n : Nat, x = (n : Int) := ⟨x.toNat, by omega⟩
  exact law_puts a c ns hn9 hns a' c' ss hs9 n k w hp hq (by omega) (i64_bd hk).1 (i64_bd hk).2
end Go.Proofs.Ytifpdmkadgchjaa
