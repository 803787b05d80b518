/- The walk of the reference's Crc: bit by bit, it is P.crc. -/
import Derived.Test.YtmfabbncoekjhaaDoorProg
import Derived.Test.YtmfabbncoekjhaaDoorWords
namespace Go.Proofs.YtmfabbncoekjhaaDoor
open Go.RowKit

attribute [local go_sem] b32_xor b32_and1 b32_div2 b32_tdiv2 b32_wrap b32_shrN b32_byte b32_xorPoly b32_xorAll

set_option maxHeartbeats 400000 in
theorem refCrc_any (s : List UInt8) (w : World) (hn : s.length ≤ 9223372036854775807) :
    Calls Tryd.prog 33 #[S s] w fun e w' => e = .returned (W32 (P.crc s)) ∧ Below w.heap.size w w' := by
  go_enter Tryd.func33, Tryd.ntmps33
  go_wp2
  go_loop [3, 4] (fun r i => ∃ k : Nat, k ≤ s.length ∧ i = .int .i64 k ∧ r = W32 (P.crcRaw (s.take k))) (fun _ i => s.length - (intOf i).toNat)
  case atStart => exact ⟨0, by omega, rfl, rfl⟩
  case round =>
    obtain ⟨k, hk, rfl, rfl⟩ := hrel
    by_cases hlt : k < s.length
    · have Hnext := Lib.hid (show P.crcRaw (s.take (k + 1)) = P.refBits s[k] 8 (P.crcRaw (s.take k)) by
        rw [List.take_succ_eq_append_getElem hlt, P.crcRaw_snoc, P.refBits8])
      generalize P.crcRaw (s.take k) = r0 at *
      go_wp2
      go_loop [3, 5] (fun r i => ∃ j : Nat, j ≤ 8 ∧ i = .int .i64 j ∧ r = W32 (P.refBits s[k] j r0)) (fun _ i => 8 - (intOf i).toNat)
      case atStart => exact ⟨0, by omega, rfl, rfl⟩
      case round =>
        obtain ⟨j, hj, rfl, rfl⟩ := hrel
        by_cases hjt : j < 8
        · have Hn2 := Lib.hid (show P.refBits s[k] (j + 1) r0 = P.refBit s[k] j (P.refBits s[k] j r0) from rfl)
          generalize P.refBits s[k] j r0 = r1 at *
          go_wp2
          · have hb : (bit0 (r1 ^^^ P.wd s[k] >>> j) == 1) = true := by assumption
            go_round
            case rel => exact ⟨j + 1, by omega, by go_num, by rw [Hn2.out]; unfold P.refBit; rw [if_pos (bit0_true hb)]⟩
            case measure => simp [intOf]; omega
          · have hb : (bit0 (r1 ^^^ P.wd s[k] >>> j) == 1) = false := by assumption
            go_round
            case rel => exact ⟨j + 1, by omega, by go_num, by rw [Hn2.out]; unfold P.refBit; rw [if_neg (by rw [bit0_false hb]; decide), BitVec.xor_zero]⟩
            case measure => simp [intOf]; omega
        · have hje : j = 8 := by omega
          subst hje
          go_wp2
          go_round
          case rel => exact ⟨k + 1, by omega, by go_num, by rw [Hnext.out]⟩
          case measure => simp [intOf]; omega
    · have hke : k = s.length := by omega
      subst hke
      rw [List.take_length]
      go_wp2
      go_ret
      exact ⟨rfl, Below.refl _ _⟩
end Go.Proofs.YtmfabbncoekjhaaDoor
