/- The walk of NumReads: it answers true. -/
import Derived.Test.YtifpdmkadgchjaaWAwakeN
namespace Go.Proofs.Ytifpdmkadgchjaa
open Go.RowKit
set_option linter.unusedVariables false

attribute [local go_sem] str_take

set_option maxRecDepth 100000 in
set_option maxHeartbeats 4000000 in
theorem law_reads (s : List UInt8) (k m : Int) (w : World) (hs : s.length ≤ 9223372036854775807) (hk0 : -9223372036854775808 ≤ k) (hk1 : k ≤ 9223372036854775807) (hm0 : -9223372036854775808 ≤ m) (hm1 : m ≤ 9223372036854775807) :
    Calls Try.prog 3 #[S s, .int .i64 k, .int .i64 m] w fun e w' => e = .returned (.bool true) ∧ Below w.heap.size w w' := by
  have Hc := Lib.hid (fun (q : List UInt8) (hq : q.length ≤ 20000) (w : World) => And.intro (readVar_any q w (by omega)) (And.intro (refReadVar_any q w (by omega)) (And.intro (big_any q k w (by omega) hk0 hk1) (And.intro (refReadBig_any q k w (by omega) hk0 hk1) (And.intro (readText_any q m w (by omega) hm0 hm1) (refReadText_any q m w (by omega) hm0 hm1))))))
  by_cases hbig : 20000 < s.length
  · have Hq := Lib.hid (fun w => Hc.out (s.take 20000) (by simp; omega) w)
    clear Hc
    generalize hqs : s.take 20000 = q at *
    go_enter Try.func3, Try.ntmps3
    go_wp2_with (first
      | (go_at_call 10; (with_reducible refine ((Hq.out _).1).mono ?_); rintro e w1 ⟨rfl, hb1⟩)
      | (go_at_call 11; (with_reducible refine ((Hq.out _).2.1).mono ?_); rintro e w2 ⟨rfl, hb2⟩)
      | (go_at_call 12; (with_reducible refine ((Hq.out _).2.2.1).mono ?_); rintro e w3 ⟨rfl, hb3⟩)
      | (go_at_call 13; (with_reducible refine ((Hq.out _).2.2.2.1).mono ?_); rintro e w4 ⟨rfl, hb4⟩)
      | (go_at_call 14; (with_reducible refine ((Hq.out _).2.2.2.2.1).mono ?_); rintro e w5 ⟨rfl, hb5⟩)
      | (go_at_call 15; (with_reducible refine ((Hq.out _).2.2.2.2.2).mono ?_); rintro e w6 ⟨rfl, hb6⟩)
      | (go_at_call 16; (with_reducible refine (awake_any _).mono ?_); rintro e w7 ⟨rfl, hb7⟩))
    go_ret
    have h1 := hb1.size
    have h2 := hb2.size
    have h3 := hb3.size
    have h4 := hb4.size
    have h5 := hb5.size
    have h6 := hb6.size
    exact ⟨rfl, ((((((hb1.trans (hb2.mono (by omega))).trans (hb3.mono (by omega))).trans (hb4.mono (by omega))).trans (hb5.mono (by omega))).trans (hb6.mono (by omega))).trans (hb7.mono (by omega)))⟩
  · have Hq := Lib.hid (fun w => Hc.out s (by omega) w)
    clear Hc
    go_enter Try.func3, Try.ntmps3
    go_wp2_with (first
      | (go_at_call 10; (with_reducible refine ((Hq.out _).1).mono ?_); rintro e w1 ⟨rfl, hb1⟩)
      | (go_at_call 11; (with_reducible refine ((Hq.out _).2.1).mono ?_); rintro e w2 ⟨rfl, hb2⟩)
      | (go_at_call 12; (with_reducible refine ((Hq.out _).2.2.1).mono ?_); rintro e w3 ⟨rfl, hb3⟩)
      | (go_at_call 13; (with_reducible refine ((Hq.out _).2.2.2.1).mono ?_); rintro e w4 ⟨rfl, hb4⟩)
      | (go_at_call 14; (with_reducible refine ((Hq.out _).2.2.2.2.1).mono ?_); rintro e w5 ⟨rfl, hb5⟩)
      | (go_at_call 15; (with_reducible refine ((Hq.out _).2.2.2.2.2).mono ?_); rintro e w6 ⟨rfl, hb6⟩)
      | (go_at_call 16; (with_reducible refine (awake_any _).mono ?_); rintro e w7 ⟨rfl, hb7⟩))
    go_ret
    have h1 := hb1.size
    have h2 := hb2.size
    have h3 := hb3.size
    have h4 := hb4.size
    have h5 := hb5.size
    have h6 := hb6.size
    exact ⟨rfl, ((((((hb1.trans (hb2.mono (by omega))).trans (hb3.mono (by omega))).trans (hb4.mono (by omega))).trans (hb5.mono (by omega))).trans (hb6.mono (by omega))).trans (hb7.mono (by omega)))⟩
end Go.Proofs.Ytifpdmkadgchjaa
