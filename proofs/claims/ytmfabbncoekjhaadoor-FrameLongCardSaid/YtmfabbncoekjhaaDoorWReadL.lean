/- Small laws for the two walks of Read. -/
import Derived.Test.YtmfabbncoekjhaaDoorWords
import Derived.Test.YtmfabbncoekjhaaDoorPCell
namespace Go.Proofs.YtmfabbncoekjhaaDoor
open Go.RowKit

/-- Byte i of a string, as the walk meets it. -/
theorem str_at (s : List UInt8) (i : Nat) (h : i < (ByteArray.mk s.toArray).size) : ((ByteArray.mk s.toArray)[i]'h).toNat = P.at_ s i :=
  P.at_get s i h

theorem at_wrap (s : List UInt8) (i : Nat) : IntKind.i64.wrap (P.at_ s i : Int) = (P.at_ s i : Int) := IntWalk.i64_in _ (by have := P.at_lt s i; omega)
theorem at_wrap4 (s : List UInt8) (i : Nat) : IntKind.i64.wrap (4 + (P.at_ s i : Int)) = 4 + (P.at_ s i : Int) := IntWalk.i64_in _ (by have := P.at_lt s i; omega)
theorem at_and1 (s : List UInt8) : (bits .and .u8 (P.at_ s 0 : Int) 1 != 0) = P.candFirst s := by
  rw [show (1 : Int) = ((1 : Nat) : Int) by rfl, u8_and_nat _ _ (P.at_lt s 0) (by omega), show (1 : Nat) = 2 ^ 1 - 1 by rfl, Nat.and_two_pow_sub_one_eq_mod]
  rw [Bool.eq_iff_iff]
  simp [P.candFirst]
  omega
theorem at_and2 (s : List UInt8) : (bits .and .u8 (P.at_ s 0 : Int) 2 != 0) = P.candLast s := by
  rw [show (2 : Int) = ((2 : Nat) : Int) by rfl, u8_and_nat _ _ (P.at_lt s 0) (by omega)]
  have h : P.at_ s 0 &&& 2 = 2 * (P.at_ s 0 / 2 % 2) := by
    apply Nat.eq_of_testBit_eq
    intro k
    rcases k with _ | _ | k
    · simp [Nat.testBit_zero]
    · simp [Nat.testBit_succ, Nat.testBit_zero, Nat.and_div_two]
    · rw [Nat.testBit_and]
      have h1 : Nat.testBit 2 (k + 1 + 1) = false := by simp [Nat.testBit_succ]
      rw [h1, Bool.and_false, Nat.testBit_succ, Nat.testBit_succ]
      rw [show 2 * (P.at_ s 0 / 2 % 2) / 2 / 2 = 0 by omega]
      simp
  rw [h, Bool.eq_iff_iff]
  simp [P.candLast]
  omega
theorem at_or (s : List UInt8) (i j : Nat) : bits .or .i64 (P.at_ s i : Int) ((P.at_ s j : Int) * (256 : Int)) = (P.num2 s i j : Int) := by
  have h1 := P.at_lt s i
  have h2 := P.at_lt s j
  have h3 : P.at_ s i ||| P.at_ s j * 256 = P.num2 s i j := by
    have h := Nat.two_pow_add_eq_or_of_lt (i := 8) (b := P.at_ s i) (by omega) (P.at_ s j)
    rw [Nat.or_comm, show P.at_ s j * 256 = 2 ^ 8 * P.at_ s j by omega, ← h]
    unfold P.num2
    omega
  have h4 := (bits_nat .i64 62 (by decide) (fun n h0 h1 => IntWalk.i64_in n (by omega)) (P.at_ s i) (P.at_ s j * 256) (by omega) (by omega)).2
  rw [h3] at h4
  rw [← h4]
  rfl
theorem at_wrap256 (s : List UInt8) (i : Nat) : IntKind.i64.wrap ((P.at_ s i : Int) * (256 : Int)) = (P.at_ s i : Int) * (256 : Int) := IntWalk.i64_in _ (by have := P.at_lt s i; omega)
theorem at_cut (s : List UInt8) : (ByteArray.mk s.toArray).extract 4 (4 + P.at_ s 1) = ⟨(P.candData s).toArray⟩ := by
  rw [ByteArray.extract_mk]
  unfold P.candData
  rw [show 4 + P.at_ s 1 - 4 = P.at_ s 1 by omega]
theorem read_eq (s : List UInt8) (hl : s.length = 32) (h1 : P.at_ s 1 ≤ 24) (hm : P.may (P.cand s) = true) (he : P.bytesOf (P.cand s) = s) : P.read s = P.cand s ∧ P.reads s = true := by
  have h : P.reads s = true := by
    unfold P.reads
    rw [hm, he, hl]
    simp [h1]
  exact ⟨by unfold P.read; rw [if_pos h], h⟩
theorem read_ne (s : List UInt8) (h : P.reads s = false) : P.read s = P.zeroCell := by
  unfold P.read; rw [h]; rfl

theorem at_rem2 (s : List UInt8) : ((P.at_ s 0 : Int) % (2 : Int) == 1) = P.candFirst s := by
  rw [Bool.eq_iff_iff]
  simp [P.candFirst]
  omega
theorem at_trem2 (s : List UInt8) : ((P.at_ s 0 : Int).tmod 2 == 1) = P.candFirst s := by
  rw [Int.tmod_eq_emod_of_nonneg (by omega), at_rem2]
theorem at_num (s : List UInt8) (i j : Nat) : (P.at_ s i : Int) + (256 : Int) * (P.at_ s j : Int) = (P.num2 s i j : Int) := by unfold P.num2; omega
theorem at_mul256 (s : List UInt8) (i : Nat) : IntKind.i64.wrap ((256 : Int) * (P.at_ s i : Int)) = (256 : Int) * (P.at_ s i : Int) := IntWalk.i64_in _ (by have := P.at_lt s i; omega)
theorem num2_lt (s : List UInt8) (i j : Nat) : P.num2 s i j < 65536 := by have := P.at_lt s i; have := P.at_lt s j; unfold P.num2; omega
theorem num2_wrap (s : List UInt8) (i j : Nat) : IntKind.i64.wrap (P.num2 s i j : Int) = (P.num2 s i j : Int) := IntWalk.i64_in _ (by have := num2_lt s i j; omega)
theorem mark_range (f l : Bool) : 64 ≤ (P.mark f l).toNat ∧ (P.mark f l).toNat ≤ 67 := by cases f <;> cases l <;> decide
/-- What is read begins with a mark. -/
theorem reads_mark (s : List UInt8) (h : P.reads s = true) : 64 ≤ P.at_ s 0 ∧ P.at_ s 0 ≤ 67 := by
  have he : P.bytesOf (P.cand s) = s := by
    unfold P.reads at h
    simp only [Bool.and_eq_true, beq_iff_eq] at h
    exact h.2
  have h0 : P.at_ s 0 = (P.mark (P.candFirst s) (P.candLast s)).toNat := by
    conv => lhs; rw [← he]
    rfl
  rw [h0]
  exact mark_range _ _
end Go.Proofs.YtmfabbncoekjhaaDoor
