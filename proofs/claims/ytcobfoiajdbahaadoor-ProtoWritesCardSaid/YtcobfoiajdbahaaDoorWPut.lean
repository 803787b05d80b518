/- The walks of num.put, num.Var and num.Big. -/
import Derived.Test.YtcobfoiajdbahaaDoorWBig
import Derived.Test.YtcobfoiajdbahaaDoorWOwn
namespace Go.Proofs.YtcobfoiajdbahaaDoor
open Go.RowKit
set_option linter.unusedVariables false

theorem byt_shr (n m : Nat) : (n : Int) / (2 : Int) ^ (8 * m) % (256 : Int) = ((P.byt (n / 256 ^ m)).toNat : Int) := by
  have h : (2 : Int) ^ (8 * m) = ((256 ^ m : Nat) : Int) := by
    rw [show (256 : Nat) = 2 ^ 8 by rfl, ← Nat.pow_mul, Int.natCast_pow]
    rfl
  rw [P.byt_toNat, h]
  omega

set_option maxRecDepth 100000 in
set_option maxHeartbeats 1000000 in
theorem put_any (B : Nat) (v : Value) (l : List UInt8) (n k : Nat) (w : World) (hn : n < 18446744073709551616) (hk : k ≤ 8) (hB : B ≤ w.heap.size) (hown : Own w B v l) (hl : l.length ≤ 1000000000) :
    Calls Tryd.prog 94 #[v, V64 n, .int .i64 k] w fun e w' => ∃ v', e = .returned v' ∧ Own w' B v' (l ++ P.be k n) ∧ Below B w w' := by
  have Hlen := Lib.hid (P.be_length k n)
  have Hn := Lib.hid hn
  clear hn
  go_enter Tryd.func94, Tryd.ntmps94
  go_wp2
  go_loopw [0, 7] (fun v i wr => ∃ j : Nat, j ≤ k ∧ i = .int .i64 ((k : Int) - 1 - j) ∧ Own wr B v (l ++ (P.be k n).take j) ∧ Below B w wr) (fun _ i _ => (intOf i + 1).toNat)
  case atStart => exact ⟨0, by omega, by go_num, by simpa using hown, Below.refl _ _⟩
  case round =>
    obtain ⟨j, hj, rfl, hown', hb⟩ := hrel
    by_cases hjk : j < k
    · have hBw : B ≤ wr.heap.size := Nat.le_trans hB hb.size
      have Htk := Lib.hid (P.be_take k n j hjk)
      have hll : (l ++ (P.be k n).take j).length < 140737488355328 := by rw [List.length_append, List.length_take]; have := Hlen.out; omega
      generalize hq : l ++ (P.be k n).take j = q at *
      have Hown := Lib.hid hown'
      clear hown'
      go_wp2_with (at_builtin; refine wpList_push (by rfl) _ _ rfl B _ q (P.byt (n / 256 ^ (k - 1 - j))) _ (byt_shr n (k - 1 - j)) (by rfl) Hown.out hll (by rfl) hBw ?_; intro v2 w2 hown2 hg2)
      have Hown2 := Lib.hid hown2
      clear hown2
      go_roundw
      case rel => exact ⟨j + 1, by omega, by go_num, by rw [Htk.out, ← List.append_assoc, hq]; exact Hown2.out, below_owned (hb.alloc hBw _) (Hown.out.alloc _) (by simp; omega) hg2⟩
      case measure => simp [intOf]; omega
    · obtain rfl : j = k := by omega
      have Hfin := Lib.hid (show l ++ (P.be j n).take j = l ++ P.be j n by rw [List.take_of_length_le (by have := Hlen.out; omega)])
      have Hown := Lib.hid hown'
      generalize hq : l ++ (P.be j n).take j = q at *
      go_wp2
      go_ret
      exact ⟨_, rfl, by rw [← Hfin.out]; exact Hown.out, hb⟩
end Go.Proofs.YtcobfoiajdbahaaDoor
