/- The walk of the reference's Make. -/
import Derived.Test.YtmfabbncoekjhaaDoorWMayR
import Derived.Test.YtmfabbncoekjhaaDoorWCrcR
import Derived.Test.YtmfabbncoekjhaaDoorPCell
namespace Go.Proofs.YtmfabbncoekjhaaDoor
open Go.RowKit

attribute [local go_sem] u8_wrap_nat u8_wrap_div256 u8_wrap_n32 b32_wrap b32_shr8 b32_div65536 b32_div16777216 b32_tdiv256 b32_tdiv65536 b32_tdiv16777216 ByteArray.mk_append_mk

set_option maxHeartbeats 400000 in
theorem refMake_no (f l : Bool) (n : Int) (d : List UInt8) (w : World) (hd : d.length ≤ 9223372036854775807) (hm : P.may ⟨f, l, n, d⟩ = false) :
    Calls Tryd.prog 27 #[.agg #[.bool f, .bool l, .int .i64 n, S d]] w fun e w' => e = .returned (.tuple #[S [], .int .i64 1]) ∧ Below w.heap.size w w' := by
  go_enter Tryd.func27, Tryd.ntmps27
  go_wp2_with (go_at_call 32; refine (refMay_any f l n d _ hd).mono ?_; rintro e w1 ⟨rfl, hb1⟩; obtain ⟨k0, k1, k2, k3, hs1, hbw⟩ := box4 hb1; clear hb1)
  go_ret2
  exact ⟨rfl, hbw⟩

set_option maxHeartbeats 800000 in
theorem refMake_tt (n : Nat) (d : List UInt8) (w : World) (hd : d.length ≤ 24) (hn : n ≤ 65535) (hm : P.may ⟨true, true, n, d⟩ = true) :
    Calls Tryd.prog 27 #[.agg #[.bool true, .bool true, .int .i64 n, S d]] w fun e w' => e = .returned (.tuple #[S (P.bytesOf ⟨true, true, n, d⟩), .int .i64 0]) ∧ Below w.heap.size w w' := by
  have hd' : d.length ≤ 9223372036854775807 := by omega
  have hh4 : (P.headOf ⟨true, true, n, d⟩).length ≤ 4 := Nat.le_refl 4
  go_enter Tryd.func27, Tryd.ntmps27
  go_wp2_with (first
    | (go_at_call 32; refine (refMay_any true true n d _ hd').mono ?_; rintro e w1 ⟨rfl, hb1⟩; obtain ⟨k0, k1, k2, k3, hs1, hbw⟩ := box4 hb1; clear hb1)
    | ((with_reducible show wpList _ _ _ (⟨_, .convert 30 9 _, _, _, _, _⟩ :: _) _ _); refine wpList_conv_str 5 5 w1.heap.size 0 4 4 (P.headOf ⟨true, true, n, d⟩) (P.headOf ⟨true, true, n, d⟩) (by rfl) Tryd.underlying30 Tryd.underlying5 Tryd.underlying9 (blk_lit (by rfl) (by simp [bytesV, u8V, P.headOf, P.byt_toNat]; rfl)) (by simp [P.headOf]) (by simp [P.headOf]) ?_))
  go_loop [5] (fun s => ∃ k : Nat, 4 + d.length + k ≤ 28 ∧ s = S (P.pad ⟨true, true, n, d⟩ k)) (fun s => 28 - (match s with | .string b => b.size | _ => 0))
  case atStart => exact ⟨0, by omega, by rw [P.pad_zero ⟨true, true, n, d⟩]⟩
  case round =>
    obtain ⟨k, hk, rfl⟩ := hrel
    have hpl := P.pad_length ⟨true, true, n, d⟩ k
    have Hnx := Lib.hid (P.pad_next ⟨true, true, n, d⟩ k)
    have Hen := Lib.hid (P.pad_end ⟨true, true, n, d⟩ k)
    have Hpl := Lib.hid (P.pad_length ⟨true, true, n, d⟩ (k + 1))
    by_cases hlt : 4 + d.length + k < 28
    · go_wp2
      go_round
      case rel => exact ⟨k + 1, by omega, by rw [← Hnx.out]⟩
      case measure =>
        rw [Hnx.out]
        show 28 - (ByteArray.mk (P.pad _ (k + 1)).toArray).size < 28 - (ByteArray.mk (P.pad _ k).toArray).size
        simp only [ByteArray.size_mk', List.size_toArray, hpl, Hpl.out]
        omega
    · have Hfin := Lib.hid (show P.bodyOf ⟨true, true, n, d⟩ ++ P.le32 (P.crc (P.bodyOf ⟨true, true, n, d⟩)) = P.bytesOf ⟨true, true, n, d⟩ from rfl)
      have hbe := Hen.out (by show 4 + d.length + k = 28; omega)
      have hbl : (P.bodyOf ⟨true, true, n, d⟩).length ≤ 28 := by rw [P.bodyOf_length _ hd]; exact Nat.le_refl _
      have hpl' : (P.bodyOf ⟨true, true, n, d⟩).length = 4 + d.length + k := by rw [← hbe]; exact hpl
      rw [hbe]
      clear hbe Hnx Hen Hpl hpl
      generalize P.bodyOf ⟨true, true, n, d⟩ = body at *
      have hll : (P.le32 (P.crc body)).length ≤ 4 := Nat.le_refl 4
      have hbl' : body.length ≤ 9223372036854775807 := by omega
      go_wp2_with (first
        | (go_at_call 33; refine (refCrc_any body _ hbl').mono ?_; rintro e w3 ⟨rfl, hb3⟩)
        | ((with_reducible show wpList _ _ _ (⟨_, .convert 30 9 _, _, _, _, _⟩ :: _) _ _); refine wpList_conv_str 5 5 w3.heap.size 0 4 4 (P.le32 (P.crc body)) (P.le32 (P.crc body)) (by rfl) Tryd.underlying30 Tryd.underlying5 Tryd.underlying9 (blk_lit (by rfl) (by rfl)) (by rw [P.le32_length]; omega) (by rfl) ?_))
      go_ret2
      have hbw3 : Below w.heap.size w w3 := (hbw.alloc (by omega) _).trans (hb3.mono (by simp; omega))
      exact ⟨by rw [← Hfin.out]; rfl, hbw3.alloc (by have := hbw3.size; omega) _⟩

set_option maxHeartbeats 800000 in
theorem refMake_tf (n : Nat) (d : List UInt8) (w : World) (hd : d.length ≤ 24) (hn : n ≤ 65535) (hm : P.may ⟨true, false, n, d⟩ = true) :
    Calls Tryd.prog 27 #[.agg #[.bool true, .bool false, .int .i64 n, S d]] w fun e w' => e = .returned (.tuple #[S (P.bytesOf ⟨true, false, n, d⟩), .int .i64 0]) ∧ Below w.heap.size w w' := by
  have hd' : d.length ≤ 9223372036854775807 := by omega
  have hh4 : (P.headOf ⟨true, false, n, d⟩).length ≤ 4 := Nat.le_refl 4
  go_enter Tryd.func27, Tryd.ntmps27
  go_wp2_with (first
    | (go_at_call 32; refine (refMay_any true false n d _ hd').mono ?_; rintro e w1 ⟨rfl, hb1⟩; obtain ⟨k0, k1, k2, k3, hs1, hbw⟩ := box4 hb1; clear hb1)
    | ((with_reducible show wpList _ _ _ (⟨_, .convert 30 9 _, _, _, _, _⟩ :: _) _ _); refine wpList_conv_str 5 5 w1.heap.size 0 4 4 (P.headOf ⟨true, false, n, d⟩) (P.headOf ⟨true, false, n, d⟩) (by rfl) Tryd.underlying30 Tryd.underlying5 Tryd.underlying9 (blk_lit (by rfl) (by simp [bytesV, u8V, P.headOf, P.byt_toNat]; rfl)) (by simp [P.headOf]) (by simp [P.headOf]) ?_))
  go_loop [5] (fun s => ∃ k : Nat, 4 + d.length + k ≤ 28 ∧ s = S (P.pad ⟨true, false, n, d⟩ k)) (fun s => 28 - (match s with | .string b => b.size | _ => 0))
  case atStart => exact ⟨0, by omega, by rw [P.pad_zero ⟨true, false, n, d⟩]⟩
  case round =>
    obtain ⟨k, hk, rfl⟩ := hrel
    have hpl := P.pad_length ⟨true, false, n, d⟩ k
    have Hnx := Lib.hid (P.pad_next ⟨true, false, n, d⟩ k)
    have Hen := Lib.hid (P.pad_end ⟨true, false, n, d⟩ k)
    have Hpl := Lib.hid (P.pad_length ⟨true, false, n, d⟩ (k + 1))
    by_cases hlt : 4 + d.length + k < 28
    · go_wp2
      go_round
      case rel => exact ⟨k + 1, by omega, by rw [← Hnx.out]⟩
      case measure =>
        rw [Hnx.out]
        show 28 - (ByteArray.mk (P.pad _ (k + 1)).toArray).size < 28 - (ByteArray.mk (P.pad _ k).toArray).size
        simp only [ByteArray.size_mk', List.size_toArray, hpl, Hpl.out]
        omega
    · have Hfin := Lib.hid (show P.bodyOf ⟨true, false, n, d⟩ ++ P.le32 (P.crc (P.bodyOf ⟨true, false, n, d⟩)) = P.bytesOf ⟨true, false, n, d⟩ from rfl)
      have hbe := Hen.out (by show 4 + d.length + k = 28; omega)
      have hbl : (P.bodyOf ⟨true, false, n, d⟩).length ≤ 28 := by rw [P.bodyOf_length _ hd]; exact Nat.le_refl _
      have hpl' : (P.bodyOf ⟨true, false, n, d⟩).length = 4 + d.length + k := by rw [← hbe]; exact hpl
      rw [hbe]
      clear hbe Hnx Hen Hpl hpl
      generalize P.bodyOf ⟨true, false, n, d⟩ = body at *
      have hll : (P.le32 (P.crc body)).length ≤ 4 := Nat.le_refl 4
      have hbl' : body.length ≤ 9223372036854775807 := by omega
      go_wp2_with (first
        | (go_at_call 33; refine (refCrc_any body _ hbl').mono ?_; rintro e w3 ⟨rfl, hb3⟩)
        | ((with_reducible show wpList _ _ _ (⟨_, .convert 30 9 _, _, _, _, _⟩ :: _) _ _); refine wpList_conv_str 5 5 w3.heap.size 0 4 4 (P.le32 (P.crc body)) (P.le32 (P.crc body)) (by rfl) Tryd.underlying30 Tryd.underlying5 Tryd.underlying9 (blk_lit (by rfl) (by rfl)) (by rw [P.le32_length]; omega) (by rfl) ?_))
      go_ret2
      have hbw3 : Below w.heap.size w w3 := (hbw.alloc (by omega) _).trans (hb3.mono (by simp; omega))
      exact ⟨by rw [← Hfin.out]; rfl, hbw3.alloc (by have := hbw3.size; omega) _⟩

set_option maxHeartbeats 800000 in
theorem refMake_ft (n : Nat) (d : List UInt8) (w : World) (hd : d.length ≤ 24) (hn : n ≤ 65535) (hm : P.may ⟨false, true, n, d⟩ = true) :
    Calls Tryd.prog 27 #[.agg #[.bool false, .bool true, .int .i64 n, S d]] w fun e w' => e = .returned (.tuple #[S (P.bytesOf ⟨false, true, n, d⟩), .int .i64 0]) ∧ Below w.heap.size w w' := by
  have hd' : d.length ≤ 9223372036854775807 := by omega
  have hh4 : (P.headOf ⟨false, true, n, d⟩).length ≤ 4 := Nat.le_refl 4
  go_enter Tryd.func27, Tryd.ntmps27
  go_wp2_with (first
    | (go_at_call 32; refine (refMay_any false true n d _ hd').mono ?_; rintro e w1 ⟨rfl, hb1⟩; obtain ⟨k0, k1, k2, k3, hs1, hbw⟩ := box4 hb1; clear hb1)
    | ((with_reducible show wpList _ _ _ (⟨_, .convert 30 9 _, _, _, _, _⟩ :: _) _ _); refine wpList_conv_str 5 5 w1.heap.size 0 4 4 (P.headOf ⟨false, true, n, d⟩) (P.headOf ⟨false, true, n, d⟩) (by rfl) Tryd.underlying30 Tryd.underlying5 Tryd.underlying9 (blk_lit (by rfl) (by simp [bytesV, u8V, P.headOf, P.byt_toNat]; rfl)) (by simp [P.headOf]) (by simp [P.headOf]) ?_))
  go_loop [5] (fun s => ∃ k : Nat, 4 + d.length + k ≤ 28 ∧ s = S (P.pad ⟨false, true, n, d⟩ k)) (fun s => 28 - (match s with | .string b => b.size | _ => 0))
  case atStart => exact ⟨0, by omega, by rw [P.pad_zero ⟨false, true, n, d⟩]⟩
  case round =>
    obtain ⟨k, hk, rfl⟩ := hrel
    have hpl := P.pad_length ⟨false, true, n, d⟩ k
    have Hnx := Lib.hid (P.pad_next ⟨false, true, n, d⟩ k)
    have Hen := Lib.hid (P.pad_end ⟨false, true, n, d⟩ k)
    have Hpl := Lib.hid (P.pad_length ⟨false, true, n, d⟩ (k + 1))
    by_cases hlt : 4 + d.length + k < 28
    · go_wp2
      go_round
      case rel => exact ⟨k + 1, by omega, by rw [← Hnx.out]⟩
      case measure =>
        rw [Hnx.out]
        show 28 - (ByteArray.mk (P.pad _ (k + 1)).toArray).size < 28 - (ByteArray.mk (P.pad _ k).toArray).size
        simp only [ByteArray.size_mk', List.size_toArray, hpl, Hpl.out]
        omega
    · have Hfin := Lib.hid (show P.bodyOf ⟨false, true, n, d⟩ ++ P.le32 (P.crc (P.bodyOf ⟨false, true, n, d⟩)) = P.bytesOf ⟨false, true, n, d⟩ from rfl)
      have hbe := Hen.out (by show 4 + d.length + k = 28; omega)
      have hbl : (P.bodyOf ⟨false, true, n, d⟩).length ≤ 28 := by rw [P.bodyOf_length _ hd]; exact Nat.le_refl _
      have hpl' : (P.bodyOf ⟨false, true, n, d⟩).length = 4 + d.length + k := by rw [← hbe]; exact hpl
      rw [hbe]
      clear hbe Hnx Hen Hpl hpl
      generalize P.bodyOf ⟨false, true, n, d⟩ = body at *
      have hll : (P.le32 (P.crc body)).length ≤ 4 := Nat.le_refl 4
      have hbl' : body.length ≤ 9223372036854775807 := by omega
      go_wp2_with (first
        | (go_at_call 33; refine (refCrc_any body _ hbl').mono ?_; rintro e w3 ⟨rfl, hb3⟩)
        | ((with_reducible show wpList _ _ _ (⟨_, .convert 30 9 _, _, _, _, _⟩ :: _) _ _); refine wpList_conv_str 5 5 w3.heap.size 0 4 4 (P.le32 (P.crc body)) (P.le32 (P.crc body)) (by rfl) Tryd.underlying30 Tryd.underlying5 Tryd.underlying9 (blk_lit (by rfl) (by rfl)) (by rw [P.le32_length]; omega) (by rfl) ?_))
      go_ret2
      have hbw3 : Below w.heap.size w w3 := (hbw.alloc (by omega) _).trans (hb3.mono (by simp; omega))
      exact ⟨by rw [← Hfin.out]; rfl, hbw3.alloc (by have := hbw3.size; omega) _⟩

set_option maxHeartbeats 800000 in
theorem refMake_ff (n : Nat) (d : List UInt8) (w : World) (hd : d.length ≤ 24) (hn : n ≤ 65535) (hm : P.may ⟨false, false, n, d⟩ = true) :
    Calls Tryd.prog 27 #[.agg #[.bool false, .bool false, .int .i64 n, S d]] w fun e w' => e = .returned (.tuple #[S (P.bytesOf ⟨false, false, n, d⟩), .int .i64 0]) ∧ Below w.heap.size w w' := by
  have hd' : d.length ≤ 9223372036854775807 := by omega
  have hh4 : (P.headOf ⟨false, false, n, d⟩).length ≤ 4 := Nat.le_refl 4
  go_enter Tryd.func27, Tryd.ntmps27
  go_wp2_with (first
    | (go_at_call 32; refine (refMay_any false false n d _ hd').mono ?_; rintro e w1 ⟨rfl, hb1⟩; obtain ⟨k0, k1, k2, k3, hs1, hbw⟩ := box4 hb1; clear hb1)
    | ((with_reducible show wpList _ _ _ (⟨_, .convert 30 9 _, _, _, _, _⟩ :: _) _ _); refine wpList_conv_str 5 5 w1.heap.size 0 4 4 (P.headOf ⟨false, false, n, d⟩) (P.headOf ⟨false, false, n, d⟩) (by rfl) Tryd.underlying30 Tryd.underlying5 Tryd.underlying9 (blk_lit (by rfl) (by simp [bytesV, u8V, P.headOf, P.byt_toNat]; rfl)) (by simp [P.headOf]) (by simp [P.headOf]) ?_))
  go_loop [5] (fun s => ∃ k : Nat, 4 + d.length + k ≤ 28 ∧ s = S (P.pad ⟨false, false, n, d⟩ k)) (fun s => 28 - (match s with | .string b => b.size | _ => 0))
  case atStart => exact ⟨0, by omega, by rw [P.pad_zero ⟨false, false, n, d⟩]⟩
  case round =>
    obtain ⟨k, hk, rfl⟩ := hrel
    have hpl := P.pad_length ⟨false, false, n, d⟩ k
    have Hnx := Lib.hid (P.pad_next ⟨false, false, n, d⟩ k)
    have Hen := Lib.hid (P.pad_end ⟨false, false, n, d⟩ k)
    have Hpl := Lib.hid (P.pad_length ⟨false, false, n, d⟩ (k + 1))
    by_cases hlt : 4 + d.length + k < 28
    · go_wp2
      go_round
      case rel => exact ⟨k + 1, by omega, by rw [← Hnx.out]⟩
      case measure =>
        rw [Hnx.out]
        show 28 - (ByteArray.mk (P.pad _ (k + 1)).toArray).size < 28 - (ByteArray.mk (P.pad _ k).toArray).size
        simp only [ByteArray.size_mk', List.size_toArray, hpl, Hpl.out]
        omega
    · have Hfin := Lib.hid (show P.bodyOf ⟨false, false, n, d⟩ ++ P.le32 (P.crc (P.bodyOf ⟨false, false, n, d⟩)) = P.bytesOf ⟨false, false, n, d⟩ from rfl)
      have hbe := Hen.out (by show 4 + d.length + k = 28; omega)
      have hbl : (P.bodyOf ⟨false, false, n, d⟩).length ≤ 28 := by rw [P.bodyOf_length _ hd]; exact Nat.le_refl _
      have hpl' : (P.bodyOf ⟨false, false, n, d⟩).length = 4 + d.length + k := by rw [← hbe]; exact hpl
      rw [hbe]
      clear hbe Hnx Hen Hpl hpl
      generalize P.bodyOf ⟨false, false, n, d⟩ = body at *
      have hll : (P.le32 (P.crc body)).length ≤ 4 := Nat.le_refl 4
      have hbl' : body.length ≤ 9223372036854775807 := by omega
      go_wp2_with (first
        | (go_at_call 33; refine (refCrc_any body _ hbl').mono ?_; rintro e w3 ⟨rfl, hb3⟩)
        | ((with_reducible show wpList _ _ _ (⟨_, .convert 30 9 _, _, _, _, _⟩ :: _) _ _); refine wpList_conv_str 5 5 w3.heap.size 0 4 4 (P.le32 (P.crc body)) (P.le32 (P.crc body)) (by rfl) Tryd.underlying30 Tryd.underlying5 Tryd.underlying9 (blk_lit (by rfl) (by rfl)) (by rw [P.le32_length]; omega) (by rfl) ?_))
      go_ret2
      have hbw3 : Below w.heap.size w w3 := (hbw.alloc (by omega) _).trans (hb3.mono (by simp; omega))
      exact ⟨by rw [← Hfin.out]; rfl, hbw3.alloc (by have := hbw3.size; omega) _⟩

theorem refMake_yes (f l : Bool) (n : Int) (d : List UInt8) (w : World) (hm : P.may ⟨f, l, n, d⟩ = true) :
    Calls Tryd.prog 27 #[.agg #[.bool f, .bool l, .int .i64 n, S d]] w fun e w' => e = .returned (.tuple #[S (P.bytesOf ⟨f, l, n, d⟩), .int .i64 0]) ∧ Below w.heap.size w w' := by
  have hd := P.may_len hm
  have hn := P.may_num hm
  obtain ⟨k, rfl⟩ := Int.eq_ofNat_of_zero_le hn.1
  have hk : k ≤ 65535 := by have h2 : (k : Int) ≤ 65535 := hn.2; omega
  cases f <;> cases l
  · exact refMake_ff k d w hd hk hm
  · exact refMake_ft k d w hd hk hm
  · exact refMake_tf k d w hd hk hm
  · exact refMake_tt k d w hd hk hm
end Go.Proofs.YtmfabbncoekjhaaDoor
