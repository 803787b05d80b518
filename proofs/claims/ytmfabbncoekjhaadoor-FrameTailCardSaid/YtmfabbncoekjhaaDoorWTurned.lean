/- The walk of Turned: four bytes turned by a mask. -/
import Derived.Test.YtmfabbncoekjhaaDoorProg
import Derived.Test.YtmfabbncoekjhaaDoorWords
namespace Go.Proofs.YtmfabbncoekjhaaDoor
open Go.RowKit

attribute [local go_sem] u8_xor_b u8_wrap_b32 b32_shrN

set_option maxHeartbeats 1000000 in
theorem turned_any (s : List UInt8) (p : Nat) (m : BitVec 32) (w : World) (hs : s.length ≤ 65536) (hp : p ≤ 65536) :
    Calls Tryd.prog 17 #[S s, .int .i64 p, W32 m] w fun e w' => e = .returned (S (P.turned s p m)) ∧ Below w.heap.size w w' := by
  go_enter Tryd.func17, Tryd.ntmps17
  go_wp2_with ((with_reducible show wpList _ _ _ (⟨_, .convert 9 30 _, _, _, _, _⟩ :: _) _ _); refine wpList_conv_wrt s (by rfl) 5 Tryd.underlying9 Tryd.underlying30 Tryd.underlying5 ?_; intro cap w1 hB1 hb1)
  go_loopw [8] (fun i wr => ∃ k : Nat, k ≤ 4 ∧ i = .int .i64 k ∧ Wrt wr w.heap.size (P.trn s p m k) ∧ Below w.heap.size w wr) (fun i _ => 4 - (intOf i).toNat)
  case atStart => exact ⟨0, by omega, rfl, hB1, hb1⟩
  case round =>
    clear hB1 hb1
    obtain ⟨k, hk, rfl, hB, hb⟩ := hrel
    have hl := P.trn_length s p m k
    by_cases h4 : k < 4
    · by_cases hin : p + k < s.length
      · have hc := hB.2.1 (p + k) (by omega)
        have hz := hB.2.2 (p + k) (by omega)
        have Hset := Lib.hid (hB.set (p + k) (by omega) (P.xb (P.trn s p m k)[p + k] (P.mbyte m k)))
        have Hst := Lib.hid (P.trn_set s p m k (by omega))
        generalize (P.trn s p m k)[p + k]'(by omega) = c0 at *
        clear hB
        go_wp2
        go_roundw
        case rel =>
          refine ⟨k + 1, by omega, by go_num, ?_, hb.setCell (by simp) _⟩
          rw [← Hst.out]
          exact Hset.out
        case measure => simp [intOf]; omega
      · have hfin : P.turned s p m = P.trn s p m k := by
          have := P.trn_stays s p m k (by omega) (4 - k)
          rw [show k + (4 - k) = 4 by omega] at this
          exact this
        have hcv := hB.string (P := Tryd.prog) 30 9 5 Tryd.underlying30 Tryd.underlying5 Tryd.underlying9 s.length cap hl
        have Hfin := Lib.hid hfin
        clear hB hl hfin
        generalize P.trn s p m k = r at *
        go_wp2
        go_ret
        exact ⟨by rw [Hfin.out]; rfl, hb⟩
    · obtain rfl : k = 4 := by omega
      have hcv := hB.string (P := Tryd.prog) 30 9 5 Tryd.underlying30 Tryd.underlying5 Tryd.underlying9 s.length cap hl
      clear hB hl
      go_wp2
      go_ret
      exact ⟨rfl, hb⟩
end Go.Proofs.YtmfabbncoekjhaaDoor
