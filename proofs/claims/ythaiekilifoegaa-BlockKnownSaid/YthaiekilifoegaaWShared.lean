/- The walk of block.shared: how many bytes two texts begin with alike. -/
import Derived.Test.YthaiekilifoegaaWReadVar
import Derived.Test.YthaiekilifoegaaPBlock
import Derived.BigQuiet
import Derived.Deep.QuietTactic
namespace Go.Proofs.Ythaiekilifoegaa
open Go.RowKit
set_option linter.unusedVariables false

attribute [local go_sem] str_at

set_option maxRecDepth 100000 in
set_option maxHeartbeats 2000000 in
theorem shared_any (a b : List UInt8) (w : World) (ha : a.length ≤ 1000000) (hb : b.length ≤ 1000000) :
    Calls Try.prog 24 #[S a, S b] w fun e w' => e = .returned (.int .i64 (P.lcp a b)) ∧ Below w.heap.size w w' := by
  have Hle := Lib.hid (P.lcp_le a b)
  have Hat := Lib.hid (P.lcp_at a b)
  have Hend := Lib.hid (P.lcp_end a b)
  generalize P.lcp a b = m at *
  go_enter Try.func24, Try.ntmps24
  go_wp2
  go_loopw [5] (fun i wr => ∃ k : Nat, k ≤ m ∧ i = .int .i64 k ∧ Below w.heap.size w wr) (fun i _ => m - (intOf i).toNat)
  case atStart => exact ⟨0, by omega, rfl, Below.refl _ _⟩
  case round =>
    obtain ⟨k, hk, rfl, hbw⟩ := hrel
    by_cases hlt : k < m
    · have h1 := Hle.out
      have hka : k < a.length := by omega
      have hkb : k < b.length := by omega
      have hi1 : decide ((k : Int) < (a.length : Int)) = true := decide_eq_true (by omega)
      have hi2 : decide ((k : Int) < (b.length : Int)) = true := decide_eq_true (by omega)
      have heq : ((P.at_ a k : Int) == (P.at_ b k : Int)) = true := by rw [Hat.out k hlt]; simp
      go_wp2
      go_quiet (fail)
      go_wp2
      go_roundw
      case rel => exact ⟨k + 1, by omega, by go_num, below_drewN hbw _⟩
      case measure => simp [intOf]; omega
    · obtain rfl : k = m := by omega
      by_cases hka : k < a.length
      · have hi1 : decide ((k : Int) < (a.length : Int)) = true := decide_eq_true (by omega)
        by_cases hkb : k < b.length
        · have hi2 : decide ((k : Int) < (b.length : Int)) = true := decide_eq_true (by omega)
          have heq : ((P.at_ a k : Int) == (P.at_ b k : Int)) = false := by
            rw [beq_eq_false_iff_ne]
            have := Hend.out hka hkb
            omega
          go_wp2
          go_quiet (fail)
          go_wp2
          go_ret
          exact ⟨rfl, below_drewN hbw _⟩
        · have hi2 : decide ((k : Int) < (b.length : Int)) = false := decide_eq_false (by omega)
          go_wp2
          go_quiet (fail)
          go_wp2
          go_ret
          exact ⟨rfl, below_drewN hbw _⟩
      · have hi1 : decide ((k : Int) < (a.length : Int)) = false := decide_eq_false (by omega)
        go_wp2
        go_quiet (fail)
        go_wp2
        go_ret
        exact ⟨rfl, below_drewN hbw _⟩
end Go.Proofs.Ythaiekilifoegaa
