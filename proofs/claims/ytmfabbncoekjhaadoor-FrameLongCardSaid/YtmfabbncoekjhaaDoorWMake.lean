/- The walk of cell.Make: its bytes are P.bytesOf, or ErrArg. -/
import Derived.Test.YtmfabbncoekjhaaDoorProg
import Derived.Test.YtmfabbncoekjhaaDoorWCrc
import Derived.Test.YtmfabbncoekjhaaDoorWMay
import Derived.Deep.RegionHeld3
namespace Go.Proofs.YtmfabbncoekjhaaDoor
open Go.RowKit

theorem or64_1 : bits .or .u8 64 1 = 65 := by decide
theorem or64_2 : bits .or .u8 64 2 = 66 := by decide
theorem or65_2 : bits .or .u8 65 2 = 67 := by decide
attribute [local go_sem] or64_1 or64_2 or65_2
attribute [local go_sem] u8_wrap_nat u8_wrap_div256 u8_wrap_n32 b32_shr8
theorem info_u8 : (Tryd.prog.info? 5).map (·.size) = some 1 := by kernel_rfl

set_option maxHeartbeats 1000000 in
theorem make_tt (n : Nat) (d : List UInt8) (w : World) (hd : d.length ≤ 24) (hm : P.may ⟨true, true, n, d⟩ = true) (ht : TabOk w) :
    Calls Tryd.prog 23 #[.agg #[.bool true, .bool true, .int .i64 n, S d]] w fun e w' => e = .returned (.tuple #[S (P.bytesOf ⟨true, true, n, d⟩), .int .i64 0]) ∧ Below w.heap.size w w' := by
  have hd' : d.length ≤ 9223372036854775807 := by omega
  go_enter Tryd.func23, Tryd.ntmps23
  go_wp2_with (go_at_call 29; refine (may_any true true n d _ hd').mono ?_; rintro e w1 ⟨rfl, hb1⟩; obtain ⟨k0, k1, k2, k3, hs1, hbw⟩ := box4 hb1; clear hb1)
  go_region_held3 (fun w' => w'.cell? ⟨w.heap.size, 2, none⟩ = some (.int .i64 n) ∧ w'.cell? ⟨w.heap.size, 3, none⟩ = some (S d)) (go_keep) (fail)
  go_wp2
  go_region_held3 (fun w' => w'.cell? ⟨w.heap.size, 3, none⟩ = some (S d)) (first | go_keep | exact grown_cell hg2 (by omega) (by go_keep)) ((refine step_copy_str (by rfl) (.tmp 37) (.tmp 39) _ _ (by rfl) 5 Tryd.underlying30 info_u8 w1.heap.size 4 28 28 d (by rfl) (by rfl) 65 (P.headOf ⟨true, true, n, d⟩ ++ List.replicate 28 0) (blk_lit (by rfl) (by rfl)) (by omega) (by simp [P.headOf]; omega) ?_; intro w2 hB2 hg2))
  have hov : over (P.headOf ⟨true, true, n, d⟩ ++ List.replicate 28 0) 4 d = P.filled (P.bodyOf ⟨true, true, n, d⟩) (P.crc (P.bodyOf ⟨true, true, n, d⟩)) 0 := P.over_body ⟨true, true, n, d⟩ hd _
  rw [hov] at hB2
  clear hov
  have hl28 := P.bodyOf_length ⟨true, true, n, d⟩ hd
  have hfl := P.filled_length (P.bodyOf ⟨true, true, n, d⟩) (P.crc (P.bodyOf ⟨true, true, n, d⟩)) 0 (by omega) hl28
  have hcv := hB2.string (P := Tryd.prog) 30 9 5 Tryd.underlying30 Tryd.underlying5 Tryd.underlying9 0 28 32 (by omega)
  have hbody : ((P.filled (P.bodyOf ⟨true, true, n, d⟩) (P.crc (P.bodyOf ⟨true, true, n, d⟩)) 0).drop 0).take 28 = P.bodyOf ⟨true, true, n, d⟩ := by
    simp [P.filled, hl28]
  rw [hbody] at hcv
  have Hl28 := Lib.hid hl28
  have Hfin := Lib.hid (show P.bodyOf ⟨true, true, n, d⟩ ++ P.le32 (P.crc (P.bodyOf ⟨true, true, n, d⟩)) = P.bytesOf ⟨true, true, n, d⟩ from rfl)
  clear hfl hbody hl28
  generalize P.bodyOf ⟨true, true, n, d⟩ = body at *
  have hlt2 := hB2.lt
  have hbw2 : Below w.heap.size w w2 := below_grown (((hbw.alloc (by omega) _).drew).drew) hg2 (by simp; omega) (by omega)
  have ht2 := ht.up hbw2
  clear hg2
  have hbl : body.length ≤ 9223372036854775807 := by have := Hl28.out; omega
  go_wp2_with (go_at_call 30; refine (crc_one body _ w2 hbl ht2).mono ?_; rintro e w3 ⟨rfl, hb3⟩)
  have hB3 := hB2.up hb3
  have hbw3 := hbw2.trans (hb3.mono (by omega))
  clear hB2 hbl ht2 hcv
  go_loopw [5, 6] (fun s i wr => ∃ j : Nat, j ≤ 4 ∧ i = .int .i64 (28 + j) ∧ s = W32 (P.sh8 j (P.crc body)) ∧ Blk wr w1.heap.size 65 (P.filled body (P.crc body) j) ∧ Below w.heap.size w wr) (fun _ i _ => 40 - (intOf i).toNat)
  case atStart => exact ⟨0, by omega, rfl, rfl, hB3, hbw3⟩
  case round =>
    clear hB3 hbw3 hb3
    obtain ⟨j, hj, rfl, rfl, hB, hbr⟩ := hrel
    have hfl := P.filled_length body (P.crc body) j hj Hl28.out
    by_cases hlt : j < 4
    · have hc := hB.cell (28 + j) (by omega)
      have hz := hB.frozen (28 + j)
      have hset := hB.set (28 + j) (P.byt (P.sh8 j (P.crc body)).toNat)
      rw [P.filled_next _ _ _ hlt Hl28.out] at hset
      go_wp2
      go_roundw
      case rel => exact ⟨j + 1, by omega, by go_num, rfl, hset, hbr.setCell (by simp; omega) _⟩
      case measure => simp [intOf]; omega
    · obtain rfl : j = 4 := by omega
      have hcv := hB.string (P := Tryd.prog) 30 9 5 Tryd.underlying30 Tryd.underlying5 Tryd.underlying9 0 32 32 (by omega)
      have h32 : ((P.filled body (P.crc body) 4).drop 0).take 32 = body ++ P.le32 (P.crc body) := by
        rw [List.drop_zero, List.take_of_length_le (by omega), P.filled_end]
      rw [h32, Hfin.out] at hcv
      clear hfl h32
      go_wp2
      go_ret2
      exact ⟨rfl, hbr⟩

set_option maxHeartbeats 1000000 in
theorem make_tf (n : Nat) (d : List UInt8) (w : World) (hd : d.length ≤ 24) (hm : P.may ⟨true, false, n, d⟩ = true) (ht : TabOk w) :
    Calls Tryd.prog 23 #[.agg #[.bool true, .bool false, .int .i64 n, S d]] w fun e w' => e = .returned (.tuple #[S (P.bytesOf ⟨true, false, n, d⟩), .int .i64 0]) ∧ Below w.heap.size w w' := by
  have hd' : d.length ≤ 9223372036854775807 := by omega
  go_enter Tryd.func23, Tryd.ntmps23
  go_wp2_with (go_at_call 29; refine (may_any true false n d _ hd').mono ?_; rintro e w1 ⟨rfl, hb1⟩; obtain ⟨k0, k1, k2, k3, hs1, hbw⟩ := box4 hb1; clear hb1)
  go_region_held3 (fun w' => w'.cell? ⟨w.heap.size, 2, none⟩ = some (.int .i64 n) ∧ w'.cell? ⟨w.heap.size, 3, none⟩ = some (S d)) (go_keep) (fail)
  go_wp2
  go_region_held3 (fun w' => w'.cell? ⟨w.heap.size, 3, none⟩ = some (S d)) (first | go_keep | exact grown_cell hg2 (by omega) (by go_keep)) ((refine step_copy_str (by rfl) (.tmp 37) (.tmp 39) _ _ (by rfl) 5 Tryd.underlying30 info_u8 w1.heap.size 4 28 28 d (by rfl) (by rfl) 65 (P.headOf ⟨true, false, n, d⟩ ++ List.replicate 28 0) (blk_lit (by rfl) (by rfl)) (by omega) (by simp [P.headOf]; omega) ?_; intro w2 hB2 hg2))
  have hov : over (P.headOf ⟨true, false, n, d⟩ ++ List.replicate 28 0) 4 d = P.filled (P.bodyOf ⟨true, false, n, d⟩) (P.crc (P.bodyOf ⟨true, false, n, d⟩)) 0 := P.over_body ⟨true, false, n, d⟩ hd _
  rw [hov] at hB2
  clear hov
  have hl28 := P.bodyOf_length ⟨true, false, n, d⟩ hd
  have hfl := P.filled_length (P.bodyOf ⟨true, false, n, d⟩) (P.crc (P.bodyOf ⟨true, false, n, d⟩)) 0 (by omega) hl28
  have hcv := hB2.string (P := Tryd.prog) 30 9 5 Tryd.underlying30 Tryd.underlying5 Tryd.underlying9 0 28 32 (by omega)
  have hbody : ((P.filled (P.bodyOf ⟨true, false, n, d⟩) (P.crc (P.bodyOf ⟨true, false, n, d⟩)) 0).drop 0).take 28 = P.bodyOf ⟨true, false, n, d⟩ := by
    simp [P.filled, hl28]
  rw [hbody] at hcv
  have Hl28 := Lib.hid hl28
  have Hfin := Lib.hid (show P.bodyOf ⟨true, false, n, d⟩ ++ P.le32 (P.crc (P.bodyOf ⟨true, false, n, d⟩)) = P.bytesOf ⟨true, false, n, d⟩ from rfl)
  clear hfl hbody hl28
  generalize P.bodyOf ⟨true, false, n, d⟩ = body at *
  have hlt2 := hB2.lt
  have hbw2 : Below w.heap.size w w2 := below_grown (((hbw.alloc (by omega) _).drew).drew) hg2 (by simp; omega) (by omega)
  have ht2 := ht.up hbw2
  clear hg2
  have hbl : body.length ≤ 9223372036854775807 := by have := Hl28.out; omega
  go_wp2_with (go_at_call 30; refine (crc_one body _ w2 hbl ht2).mono ?_; rintro e w3 ⟨rfl, hb3⟩)
  have hB3 := hB2.up hb3
  have hbw3 := hbw2.trans (hb3.mono (by omega))
  clear hB2 hbl ht2 hcv
  go_loopw [5, 6] (fun s i wr => ∃ j : Nat, j ≤ 4 ∧ i = .int .i64 (28 + j) ∧ s = W32 (P.sh8 j (P.crc body)) ∧ Blk wr w1.heap.size 65 (P.filled body (P.crc body) j) ∧ Below w.heap.size w wr) (fun _ i _ => 40 - (intOf i).toNat)
  case atStart => exact ⟨0, by omega, rfl, rfl, hB3, hbw3⟩
  case round =>
    clear hB3 hbw3 hb3
    obtain ⟨j, hj, rfl, rfl, hB, hbr⟩ := hrel
    have hfl := P.filled_length body (P.crc body) j hj Hl28.out
    by_cases hlt : j < 4
    · have hc := hB.cell (28 + j) (by omega)
      have hz := hB.frozen (28 + j)
      have hset := hB.set (28 + j) (P.byt (P.sh8 j (P.crc body)).toNat)
      rw [P.filled_next _ _ _ hlt Hl28.out] at hset
      go_wp2
      go_roundw
      case rel => exact ⟨j + 1, by omega, by go_num, rfl, hset, hbr.setCell (by simp; omega) _⟩
      case measure => simp [intOf]; omega
    · obtain rfl : j = 4 := by omega
      have hcv := hB.string (P := Tryd.prog) 30 9 5 Tryd.underlying30 Tryd.underlying5 Tryd.underlying9 0 32 32 (by omega)
      have h32 : ((P.filled body (P.crc body) 4).drop 0).take 32 = body ++ P.le32 (P.crc body) := by
        rw [List.drop_zero, List.take_of_length_le (by omega), P.filled_end]
      rw [h32, Hfin.out] at hcv
      clear hfl h32
      go_wp2
      go_ret2
      exact ⟨rfl, hbr⟩

set_option maxHeartbeats 1000000 in
theorem make_ft (n : Nat) (d : List UInt8) (w : World) (hd : d.length ≤ 24) (hm : P.may ⟨false, true, n, d⟩ = true) (ht : TabOk w) :
    Calls Tryd.prog 23 #[.agg #[.bool false, .bool true, .int .i64 n, S d]] w fun e w' => e = .returned (.tuple #[S (P.bytesOf ⟨false, true, n, d⟩), .int .i64 0]) ∧ Below w.heap.size w w' := by
  have hd' : d.length ≤ 9223372036854775807 := by omega
  go_enter Tryd.func23, Tryd.ntmps23
  go_wp2_with (go_at_call 29; refine (may_any false true n d _ hd').mono ?_; rintro e w1 ⟨rfl, hb1⟩; obtain ⟨k0, k1, k2, k3, hs1, hbw⟩ := box4 hb1; clear hb1)
  go_region_held3 (fun w' => w'.cell? ⟨w.heap.size, 2, none⟩ = some (.int .i64 n) ∧ w'.cell? ⟨w.heap.size, 3, none⟩ = some (S d)) (go_keep) (fail)
  go_wp2
  go_region_held3 (fun w' => w'.cell? ⟨w.heap.size, 3, none⟩ = some (S d)) (first | go_keep | exact grown_cell hg2 (by omega) (by go_keep)) ((refine step_copy_str (by rfl) (.tmp 37) (.tmp 39) _ _ (by rfl) 5 Tryd.underlying30 info_u8 w1.heap.size 4 28 28 d (by rfl) (by rfl) 65 (P.headOf ⟨false, true, n, d⟩ ++ List.replicate 28 0) (blk_lit (by rfl) (by rfl)) (by omega) (by simp [P.headOf]; omega) ?_; intro w2 hB2 hg2))
  have hov : over (P.headOf ⟨false, true, n, d⟩ ++ List.replicate 28 0) 4 d = P.filled (P.bodyOf ⟨false, true, n, d⟩) (P.crc (P.bodyOf ⟨false, true, n, d⟩)) 0 := P.over_body ⟨false, true, n, d⟩ hd _
  rw [hov] at hB2
  clear hov
  have hl28 := P.bodyOf_length ⟨false, true, n, d⟩ hd
  have hfl := P.filled_length (P.bodyOf ⟨false, true, n, d⟩) (P.crc (P.bodyOf ⟨false, true, n, d⟩)) 0 (by omega) hl28
  have hcv := hB2.string (P := Tryd.prog) 30 9 5 Tryd.underlying30 Tryd.underlying5 Tryd.underlying9 0 28 32 (by omega)
  have hbody : ((P.filled (P.bodyOf ⟨false, true, n, d⟩) (P.crc (P.bodyOf ⟨false, true, n, d⟩)) 0).drop 0).take 28 = P.bodyOf ⟨false, true, n, d⟩ := by
    simp [P.filled, hl28]
  rw [hbody] at hcv
  have Hl28 := Lib.hid hl28
  have Hfin := Lib.hid (show P.bodyOf ⟨false, true, n, d⟩ ++ P.le32 (P.crc (P.bodyOf ⟨false, true, n, d⟩)) = P.bytesOf ⟨false, true, n, d⟩ from rfl)
  clear hfl hbody hl28
  generalize P.bodyOf ⟨false, true, n, d⟩ = body at *
  have hlt2 := hB2.lt
  have hbw2 : Below w.heap.size w w2 := below_grown (((hbw.alloc (by omega) _).drew).drew) hg2 (by simp; omega) (by omega)
  have ht2 := ht.up hbw2
  clear hg2
  have hbl : body.length ≤ 9223372036854775807 := by have := Hl28.out; omega
  go_wp2_with (go_at_call 30; refine (crc_one body _ w2 hbl ht2).mono ?_; rintro e w3 ⟨rfl, hb3⟩)
  have hB3 := hB2.up hb3
  have hbw3 := hbw2.trans (hb3.mono (by omega))
  clear hB2 hbl ht2 hcv
  go_loopw [5, 6] (fun s i wr => ∃ j : Nat, j ≤ 4 ∧ i = .int .i64 (28 + j) ∧ s = W32 (P.sh8 j (P.crc body)) ∧ Blk wr w1.heap.size 65 (P.filled body (P.crc body) j) ∧ Below w.heap.size w wr) (fun _ i _ => 40 - (intOf i).toNat)
  case atStart => exact ⟨0, by omega, rfl, rfl, hB3, hbw3⟩
  case round =>
    clear hB3 hbw3 hb3
    obtain ⟨j, hj, rfl, rfl, hB, hbr⟩ := hrel
    have hfl := P.filled_length body (P.crc body) j hj Hl28.out
    by_cases hlt : j < 4
    · have hc := hB.cell (28 + j) (by omega)
      have hz := hB.frozen (28 + j)
      have hset := hB.set (28 + j) (P.byt (P.sh8 j (P.crc body)).toNat)
      rw [P.filled_next _ _ _ hlt Hl28.out] at hset
      go_wp2
      go_roundw
      case rel => exact ⟨j + 1, by omega, by go_num, rfl, hset, hbr.setCell (by simp; omega) _⟩
      case measure => simp [intOf]; omega
    · obtain rfl : j = 4 := by omega
      have hcv := hB.string (P := Tryd.prog) 30 9 5 Tryd.underlying30 Tryd.underlying5 Tryd.underlying9 0 32 32 (by omega)
      have h32 : ((P.filled body (P.crc body) 4).drop 0).take 32 = body ++ P.le32 (P.crc body) := by
        rw [List.drop_zero, List.take_of_length_le (by omega), P.filled_end]
      rw [h32, Hfin.out] at hcv
      clear hfl h32
      go_wp2
      go_ret2
      exact ⟨rfl, hbr⟩

set_option maxHeartbeats 1000000 in
theorem make_ff (n : Nat) (d : List UInt8) (w : World) (hd : d.length ≤ 24) (hm : P.may ⟨false, false, n, d⟩ = true) (ht : TabOk w) :
    Calls Tryd.prog 23 #[.agg #[.bool false, .bool false, .int .i64 n, S d]] w fun e w' => e = .returned (.tuple #[S (P.bytesOf ⟨false, false, n, d⟩), .int .i64 0]) ∧ Below w.heap.size w w' := by
  have hd' : d.length ≤ 9223372036854775807 := by omega
  go_enter Tryd.func23, Tryd.ntmps23
  go_wp2_with (go_at_call 29; refine (may_any false false n d _ hd').mono ?_; rintro e w1 ⟨rfl, hb1⟩; obtain ⟨k0, k1, k2, k3, hs1, hbw⟩ := box4 hb1; clear hb1)
  go_region_held3 (fun w' => w'.cell? ⟨w.heap.size, 2, none⟩ = some (.int .i64 n) ∧ w'.cell? ⟨w.heap.size, 3, none⟩ = some (S d)) (go_keep) (fail)
  go_wp2
  go_region_held3 (fun w' => w'.cell? ⟨w.heap.size, 3, none⟩ = some (S d)) (first | go_keep | exact grown_cell hg2 (by omega) (by go_keep)) ((refine step_copy_str (by rfl) (.tmp 37) (.tmp 39) _ _ (by rfl) 5 Tryd.underlying30 info_u8 w1.heap.size 4 28 28 d (by rfl) (by rfl) 65 (P.headOf ⟨false, false, n, d⟩ ++ List.replicate 28 0) (blk_lit (by rfl) (by rfl)) (by omega) (by simp [P.headOf]; omega) ?_; intro w2 hB2 hg2))
  have hov : over (P.headOf ⟨false, false, n, d⟩ ++ List.replicate 28 0) 4 d = P.filled (P.bodyOf ⟨false, false, n, d⟩) (P.crc (P.bodyOf ⟨false, false, n, d⟩)) 0 := P.over_body ⟨false, false, n, d⟩ hd _
  rw [hov] at hB2
  clear hov
  have hl28 := P.bodyOf_length ⟨false, false, n, d⟩ hd
  have hfl := P.filled_length (P.bodyOf ⟨false, false, n, d⟩) (P.crc (P.bodyOf ⟨false, false, n, d⟩)) 0 (by omega) hl28
  have hcv := hB2.string (P := Tryd.prog) 30 9 5 Tryd.underlying30 Tryd.underlying5 Tryd.underlying9 0 28 32 (by omega)
  have hbody : ((P.filled (P.bodyOf ⟨false, false, n, d⟩) (P.crc (P.bodyOf ⟨false, false, n, d⟩)) 0).drop 0).take 28 = P.bodyOf ⟨false, false, n, d⟩ := by
    simp [P.filled, hl28]
  rw [hbody] at hcv
  have Hl28 := Lib.hid hl28
  have Hfin := Lib.hid (show P.bodyOf ⟨false, false, n, d⟩ ++ P.le32 (P.crc (P.bodyOf ⟨false, false, n, d⟩)) = P.bytesOf ⟨false, false, n, d⟩ from rfl)
  clear hfl hbody hl28
  generalize P.bodyOf ⟨false, false, n, d⟩ = body at *
  have hlt2 := hB2.lt
  have hbw2 : Below w.heap.size w w2 := below_grown (((hbw.alloc (by omega) _).drew).drew) hg2 (by simp; omega) (by omega)
  have ht2 := ht.up hbw2
  clear hg2
  have hbl : body.length ≤ 9223372036854775807 := by have := Hl28.out; omega
  go_wp2_with (go_at_call 30; refine (crc_one body _ w2 hbl ht2).mono ?_; rintro e w3 ⟨rfl, hb3⟩)
  have hB3 := hB2.up hb3
  have hbw3 := hbw2.trans (hb3.mono (by omega))
  clear hB2 hbl ht2 hcv
  go_loopw [5, 6] (fun s i wr => ∃ j : Nat, j ≤ 4 ∧ i = .int .i64 (28 + j) ∧ s = W32 (P.sh8 j (P.crc body)) ∧ Blk wr w1.heap.size 65 (P.filled body (P.crc body) j) ∧ Below w.heap.size w wr) (fun _ i _ => 40 - (intOf i).toNat)
  case atStart => exact ⟨0, by omega, rfl, rfl, hB3, hbw3⟩
  case round =>
    clear hB3 hbw3 hb3
    obtain ⟨j, hj, rfl, rfl, hB, hbr⟩ := hrel
    have hfl := P.filled_length body (P.crc body) j hj Hl28.out
    by_cases hlt : j < 4
    · have hc := hB.cell (28 + j) (by omega)
      have hz := hB.frozen (28 + j)
      have hset := hB.set (28 + j) (P.byt (P.sh8 j (P.crc body)).toNat)
      rw [P.filled_next _ _ _ hlt Hl28.out] at hset
      go_wp2
      go_roundw
      case rel => exact ⟨j + 1, by omega, by go_num, rfl, hset, hbr.setCell (by simp; omega) _⟩
      case measure => simp [intOf]; omega
    · obtain rfl : j = 4 := by omega
      have hcv := hB.string (P := Tryd.prog) 30 9 5 Tryd.underlying30 Tryd.underlying5 Tryd.underlying9 0 32 32 (by omega)
      have h32 : ((P.filled body (P.crc body) 4).drop 0).take 32 = body ++ P.le32 (P.crc body) := by
        rw [List.drop_zero, List.take_of_length_le (by omega), P.filled_end]
      rw [h32, Hfin.out] at hcv
      clear hfl h32
      go_wp2
      go_ret2
      exact ⟨rfl, hbr⟩

theorem make_yes (f l : Bool) (n : Int) (d : List UInt8) (w : World) (hm : P.may ⟨f, l, n, d⟩ = true) (ht : TabOk w) :
    Calls Tryd.prog 23 #[.agg #[.bool f, .bool l, .int .i64 n, S d]] w fun e w' => e = .returned (.tuple #[S (P.bytesOf ⟨f, l, n, d⟩), .int .i64 0]) ∧ Below w.heap.size w w' := by
  have hd := P.may_len hm
  obtain ⟨k, rfl⟩ := Int.eq_ofNat_of_zero_le (P.may_num hm).1
  cases f <;> cases l
  · exact make_ff k d w hd hm ht
  · exact make_ft k d w hd hm ht
  · exact make_tf k d w hd hm ht
  · exact make_tt k d w hd hm ht

set_option maxHeartbeats 1000000 in
theorem make_no (f l : Bool) (n : Int) (d : List UInt8) (w : World) (hd : d.length ≤ 9223372036854775807) (hm : P.may ⟨f, l, n, d⟩ = false) :
    Calls Tryd.prog 23 #[.agg #[.bool f, .bool l, .int .i64 n, S d]] w fun e w' => e = .returned (.tuple #[S [], .int .i64 1]) ∧ Below w.heap.size w w' := by
  go_enter Tryd.func23, Tryd.ntmps23
  go_wp2_with (go_at_call 29; refine (may_any f l n d _ hd).mono ?_; rintro e w1 ⟨rfl, hb1⟩; obtain ⟨k0, k1, k2, k3, hs1, hbw⟩ := box4 hb1; clear hb1)
  go_ret2
  exact ⟨rfl, hbw⟩
end Go.Proofs.YtmfabbncoekjhaaDoor
