/- The walks of the document's bytesOf, Row and Var. -/
import Derived.Test.YtcobfoiajdbahaaDoorWReadVar
namespace Go.Proofs.YtcobfoiajdbahaaDoor
open Go.RowKit
set_option linter.unusedVariables false

theorem P.be_cons (k n : Nat) : P.be (k + 1) n = P.byt (n / 256 ^ k) :: P.be k n := by
  apply List.ext_getElem
  · simp [P.be_length]
  · intro j h1 h2
    rw [P.be_at]
    rcases j with _ | j
    · simp
    · have hj : j < k := by rw [P.be_length] at h1; omega
      rw [List.getElem_cons_succ, P.be_at]
      congr 3
      omega

theorem one_byte (x : Int) (n : Nat) (h : x = ((P.byt n).toNat : Int)) : (#[Value.int .u8 x] : Array Value) = bytesV [P.byt n] := by
  rw [h]; rfl
theorem byt_mod (n : Nat) : (n : Int) % 256 = ((P.byt n).toNat : Int) := by rw [P.byt_toNat]; omega
theorem str_app (a b : List UInt8) : ByteArray.mk a.toArray ++ ByteArray.mk b.toArray = ⟨(a ++ b).toArray⟩ := by
  rw [ByteArray.ext_iff]
  simp
theorem byt_small (n : Nat) (h : n < 256) : (n : Int) = ((P.byt n).toNat : Int) := by rw [P.byt_toNat]; omega

attribute [local go_sem] str_app

set_option maxRecDepth 100000 in
set_option maxHeartbeats 1000000 in
theorem bytesOf_any (n : Nat) (hn : n < 18446744073709551616) (w : World) :
    Calls Tryd.prog 80 #[V64 n] w fun e w' => e = .returned (S (P.be (P.dig n) n)) ∧ Below w.heap.size w w' := by
  have Hd := Lib.hid (fun k => P.dig_iff n k hn)
  have Hd8 := Lib.hid (P.dig_le n)
  go_enter Tryd.func80, Tryd.ntmps80
  go_wp2
  have Hn := Lib.hid hn
  clear hn
  go_loopw [0, 3] (fun v s wr => ∃ j : Nat, j ≤ P.dig n ∧ v = V64 (n / 256 ^ j) ∧ s = S (P.be j n) ∧ Below w.heap.size w wr) (fun v _ _ => (intOf v).toNat)
  case atStart => exact ⟨0, by omega, by simp, rfl, Below.refl _ _⟩
  case round =>
    obtain ⟨j, hj, rfl, rfl, hb⟩ := hrel
    have Hx := Lib.hid (Nat.div_lt_iff_lt_mul (Nat.pow_pos (n := j) (show 0 < 256 by omega)) (x := n) (y := 1))
    have Hx2 := Lib.hid (P.be_cons j n)
    have Hx3 := Lib.hid (show n / 256 ^ (j + 1) = n / 256 ^ j / 256 by rw [Nat.pow_succ, Nat.div_div_eq_div_mul])
    have hlt : n / 256 ^ j < 18446744073709551616 := Nat.lt_of_le_of_lt (Nat.div_le_self _ _) Hn.out
    have Hj := Lib.hid (show n / 256 ^ j = 0 ↔ P.dig n ≤ j by rw [Hd.out j, ← Nat.div_eq_zero_iff_lt (Nat.pow_pos (by omega))])
    have Hlen := Lib.hid (P.be_length j n)
    generalize n / 256 ^ j = n1 at *
    have Hqe := Lib.hid (rfl : P.be j n = P.be j n)
    generalize hq : P.be j n = q at Hx2 Hqe Hlen ⊢
    have Hq := Lib.hid hq
    clear hq Hqe
    by_cases hz : n1 = 0
    · have Hfin := Lib.hid (show P.be (P.dig n) n = q by rw [show P.dig n = j by have := Hj.out.1 hz; omega]; exact Hq.out)
      subst hz
      go_wp2
      go_ret
      exact ⟨by rw [Hfin.out]; rfl, hb⟩
    · have hjn := Lib.hid (show j + 1 ≤ P.dig n by have := mt Hj.out.2 hz; omega)
      have hpos : 0 < n1 := by omega
      have hql : q.length ≤ 8 := by have := Hlen.out; have := Hd8.out; omega
      clear hz
      go_wp2_with ((with_reducible show wpList _ _ _ (⟨_, .convert 85 9 _, _, _, _, _⟩ :: _) _ _); refine wpList_conv_str 5 5 wr.heap.size 0 1 1 [P.byt n1] [P.byt n1] (by rfl) Tryd.underlying85 Tryd.underlying5 Tryd.underlying9 (blk_lit rfl (one_byte _ _ (byt_mod n1))) (by simp) (by rfl) ?_)
      go_roundw
      case rel =>
        refine ⟨j + 1, hjn.out, ?_, ?_, hb.alloc hb.size _⟩
        · rw [Hx3.out]; rfl
        · rw [Hx2.out]
      case measure => simp [intOf]; omega

set_option maxRecDepth 100000 in
set_option maxHeartbeats 1000000 in
theorem row_any (n : Nat) (hn : n < 18446744073709551616) (w : World) :
    Calls Tryd.prog 47 #[V64 n] w fun e w' => e = .returned (S (P.row n)) ∧ Below w.heap.size w w' := by
  have Hby := Lib.hid (fun w => bytesOf_any n hn w)
  have Hd8 := Lib.hid (P.dig_le n)
  have hn' : n ≤ 18446744073709551615 := by omega
  by_cases h8 : n < 248
  · have Hr := Lib.hid (show P.row n = [P.byt n] by unfold P.row; rw [if_pos h8])
    go_enter Tryd.func47, Tryd.ntmps47
    go_wp2_with ((with_reducible show wpList _ _ _ (⟨_, .convert 85 9 _, _, _, _, _⟩ :: _) _ _); refine wpList_conv_str 5 5 w.heap.size 0 1 1 [P.byt n] [P.byt n] (by rfl) Tryd.underlying85 Tryd.underlying5 Tryd.underlying9 (blk_lit rfl (one_byte _ _ (byt_small n (by omega)))) (by simp) (by rfl) ?_)
    go_ret
    exact ⟨by rw [Hr.out]; rfl, (Below.refl _ _).alloc (Nat.le_refl _) _⟩
  · have Hr := Lib.hid (show P.row n = [P.byt (247 + P.dig n)] ++ P.be (P.dig n) n by unfold P.row; rw [if_neg h8]; rfl)
    have Hlen := Lib.hid (P.be_length (P.dig n) n)
    have hlen8 : (P.be (P.dig n) n).length ≤ 8 := by rw [Hlen.out]; exact Hd8.out
    have Hone := Lib.hid (show (247 + ((P.be (P.dig n) n).length : Int)) = ((P.byt (247 + P.dig n)).toNat : Int) by rw [Hlen.out, P.byt_toNat]; have := Hd8.out; omega)
    generalize P.be (P.dig n) n = q at *
    generalize P.byt (247 + P.dig n) = c at *
    go_enter Tryd.func47, Tryd.ntmps47
    go_wp2_with (first
      | (go_at_call 80; (with_reducible refine (Hby.out _).mono ?_); rintro e w1 ⟨rfl, hb⟩)
      | ((with_reducible show wpList _ _ _ (⟨_, .convert 85 9 _, _, _, _, _⟩ :: _) _ _); refine wpList_conv_str 5 5 w1.heap.size 0 1 1 [c] [c] (by rfl) Tryd.underlying85 Tryd.underlying5 Tryd.underlying9 (blk_lit rfl (by rw [Hone.out]; rfl)) (by simp) (by rfl) ?_))
    go_ret
    exact ⟨by rw [Hr.out]; rfl, hb.alloc hb.size _⟩
end Go.Proofs.YtcobfoiajdbahaaDoor
