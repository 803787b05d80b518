/- CellBack: a cell is read of its bytes as it was; what is read of any text has just that text as its bytes. The walk of the law. -/
import Derived.Test.YtgbkaicjckclfaaDoorWAwake
import Derived.Test.YtgbkaicjckclfaaDoorLMakes
namespace Go.Proofs.YtgbkaicjckclfaaDoor
open Go.RowKit
set_option linter.unusedVariables false

theorem read_no (r : List UInt8) (w : World) (hn : r.length ≤ 9223372036854775807) (hr : P.reads r = false) (ht : TabOk w) :
    Calls Tryd.prog 16 #[S r] w fun e w' => e = .returned (.tuple #[.agg #[.bool false, .bool false, .int .i64 0, S []], .bool false]) ∧ Below w.heap.size w w' := by
  have h := read_any r w hn ht
  rw [read_ne r hr, hr] at h
  exact h
theorem read_yes (r : List UInt8) (w : World) (hr : P.reads r = true) (ht : TabOk w) :
    Calls Tryd.prog 16 #[S r] w fun e w' => e = .returned (.tuple #[.agg #[.bool (P.candFirst r), .bool (P.candLast r), .int .i64 (P.num2 r 2 3 : Int), S (P.candData r)], .bool true]) ∧ Below w.heap.size w w' := by
  have h := read_any r w (by rw [P.reads_len hr]; omega) ht
  rw [P.read_is hr, hr] at h
  exact h
theorem make_back (r : List UInt8) (w : World) (hr : P.reads r = true) (ht : TabOk w) :
    Calls Tryd.prog 10 #[.agg #[.bool (P.candFirst r), .bool (P.candLast r), .int .i64 (P.num2 r 2 3 : Int), S (P.candData r)]] w fun e w' => e = .returned (.tuple #[S r, .int .i64 0]) ∧ Below w.heap.size w w' := by
  have h := make_yes (P.candFirst r) (P.candLast r) (P.num2 r 2 3 : Int) (P.candData r) w (P.reads_may hr) ht
  have hb : P.bytesOf ⟨P.candFirst r, P.candLast r, (P.num2 r 2 3 : Int), P.candData r⟩ = r := P.reads_back hr
  rw [hb] at h
  exact h
theorem read_cell (f l : Bool) (n : Int) (d : List UInt8) (w : World) (hm : P.may ⟨f, l, n, d⟩ = true) (ht : TabOk w) :
    Calls Tryd.prog 16 #[S (P.bytesOf ⟨f, l, n, d⟩)] w fun e w' => e = .returned (.tuple #[.agg #[.bool f, .bool l, .int .i64 n, S d], .bool true]) ∧ Below w.heap.size w w' := by
  have hl := P.bytesOf_length ⟨f, l, n, d⟩ (P.may_len hm)
  have h := read_any (P.bytesOf ⟨f, l, n, d⟩) w (by omega) ht
  rw [P.read_bytes _ hm, P.reads_bytes _ hm] at h
  exact h
theorem reads_off {r : List UInt8} (h : r.length ≠ 32) : P.reads r = false := by
  cases hr : P.reads r with
  | false => rfl
  | true => exact absurd (P.reads_len hr) h

theorem alloc_up {w w1 : World} {o : Obj} (hb : Below (w.alloc o).heap.size (w.alloc o) w1) : Below w.heap.size w w1 := ((Below.refl _ _).alloc (Nat.le_refl _) _).trans (hb.mono (by simp))

attribute [local go_sem] ByteArray.mk_append_mk

set_option maxHeartbeats 1000000 in
theorem back_long (f l : Bool) (n : Int) (d s : List UInt8) (w : World) (hlen : (3000 : Int) < (d.length : Int)) (ht : TabOk w) :
    Calls Tryd.prog 8 #[.agg #[.bool f, .bool l, .int .i64 n, S d], S s] w fun e w' => e = .returned (.bool true) ∧ Below w.heap.size w w' := by
  go_enter Tryd.func8, Tryd.ntmps8
  go_wp2_with (go_at_call 12; refine (awake_any _ (ht.alloc _)).mono ?_; rintro e w1 ⟨rfl, hb1⟩)
  go_ret
  exact ⟨rfl, below_step ((Below.refl _ _).alloc (Nat.le_refl _) _) hb1⟩

set_option maxHeartbeats 1000000 in
theorem back_yly (f l : Bool) (n : Int) (d s r : List UInt8) (w : World) (hlen : ¬ (3000 : Int) < (d.length : Int)) (hs : (100 : Int) < (s.length : Int)) (hcut : (ByteArray.mk s.toArray).extract 0 100 = ⟨r.toArray⟩) (hm : P.may ⟨f, l, n, d⟩ = true) (hr : P.reads r = true) (ht : TabOk w) :
    Calls Tryd.prog 8 #[.agg #[.bool f, .bool l, .int .i64 n, S d], S s] w fun e w' => e = .returned (.bool true) ∧ Below w.heap.size w w' := by
  have hM := Lib.hid (fun W hW => make_yes f l n d W hm hW)
  have hl := P.bytesOf_length ⟨f, l, n, d⟩ (P.may_len hm)
  have hR1 := Lib.hid (fun W hW => read_cell f l n d W hm hW)
  have hR2 := Lib.hid (fun W hW => read_no ((P.bytesOf ⟨f, l, n, d⟩).drop 1) W (by simp; omega) (reads_off (by simp; omega)) hW)
  have hR3 := Lib.hid (fun W hW => read_no (P.bytesOf ⟨f, l, n, d⟩ ++ [0]) W (by simp; omega) (reads_off (by simp; omega)) hW)
  have hc1 : (ByteArray.mk (P.bytesOf ⟨f, l, n, d⟩).toArray).extract 1 32 = ⟨((P.bytesOf ⟨f, l, n, d⟩).drop 1).toArray⟩ := by
    rw [ByteArray.extract_mk, List.take_of_length_le (by simp; omega)]
  have hR4 := Lib.hid (fun W hW => read_yes r W hr hW)
  have hM4 := Lib.hid (fun W hW => make_back r W hr hW)
  have hrl := P.reads_len hr
  clear hm hr
  generalize hx1 : (P.bytesOf ⟨f, l, n, d⟩).drop 1 = b1 at *
  generalize hx2 : P.bytesOf ⟨f, l, n, d⟩ ++ [0] = b2 at *
  have hx2' : P.bytesOf ⟨f, l, n, d⟩ ++ [0] = b2 := hx2
  clear hx1 hx2
  generalize P.bytesOf ⟨f, l, n, d⟩ = b at *
  go_enter Tryd.func8, Tryd.ntmps8
  go_wp2_with (first
    | (go_at_call 10; (with_reducible refine (hM.out _ (ht.alloc _)).mono ?_); rintro e w1 ⟨rfl, hb1⟩; obtain ⟨k0, k1, k2, k3, hs1, hbw⟩ := box4 hb1; clear hb1; have ht1 := ht.up hbw)
    | (go_at_call 16; (with_reducible refine (hR1.out _ ht1).mono ?_); rintro e w2 ⟨rfl, hb2⟩; obtain ⟨j0, j1, j2, j3⟩ := up4 hb2 k0 k1 k2 k3; have ht2 := ht1.up hb2; have ht2a := ht2.alloc (.cells #[.bool f, .bool l, .int .i64 n, S d] 23))
    | (go_at_call 16; (with_reducible refine (hR2.out _ ht2a).mono ?_); rintro e w3 ⟨rfl, hb3⟩; obtain ⟨q0, q1, q2, q3, hs3, hbw3⟩ := box4 hb3; clear hb3; obtain ⟨m0, m1, m2, m3⟩ := up4 hbw3 j0 j1 j2 j3; have ht3 := ht2.up hbw3; have ht3a := ht3.alloc (.cells #[.bool false, .bool false, .int .i64 0, S []] 23))
    | (go_at_call 16; (with_reducible refine (hR3.out _ ht3a).mono ?_); rintro e w4 ⟨rfl, hb4⟩; have hbw4 := alloc_up hb4; clear hb4; obtain ⟨r0, r1, r2, r3⟩ := up4 hbw4 m0 m1 m2 m3; obtain ⟨s0, s1, s2, s3⟩ := up4 hbw4 q0 q1 q2 q3; have hs4 := hbw4.size; have hlt1 := World.block_lt_of_cell? _ _ s0; have hlt2 := World.block_lt_of_cell? _ _ r0; simp only at hlt1 hlt2; have ht4 := ht3.up hbw4; have ht4a := ht4.alloc (.cells #[.bool false, .bool false, .int .i64 0, S []] 23))
    | (go_at_call 16; (with_reducible refine (hR4.out _ ht4a).mono ?_); rintro e w5 ⟨rfl, hb5⟩; have hbw5 := alloc_up hb5; clear hb5; have ht5 := ht4.up hbw5; have ht5a := ht5.alloc (.cells #[.bool (P.candFirst r), .bool (P.candLast r), .int .i64 (P.num2 r 2 3 : Int), S (P.candData r)] 23))
    | (go_at_call 10; (with_reducible refine (hM4.out _ ht5a).mono ?_); rintro e w6 ⟨rfl, hb6⟩; have hbw6 := alloc_up hb6; clear hb6; have ht6 := ht5.up hbw6)
    | (go_at_call 12; (with_reducible refine (awake_any _ ht6).mono ?_); rintro e w7 ⟨rfl, hb7⟩))
  go_ret
  exact ⟨rfl, below_step (below_step (below_step (below_step (below_step (below_step hbw hb2) hbw3) hbw4) hbw5) hbw6) hb7⟩

set_option maxHeartbeats 1000000 in
theorem back_yln (f l : Bool) (n : Int) (d s r : List UInt8) (w : World) (hlen : ¬ (3000 : Int) < (d.length : Int)) (hs : (100 : Int) < (s.length : Int)) (hcut : (ByteArray.mk s.toArray).extract 0 100 = ⟨r.toArray⟩) (hm : P.may ⟨f, l, n, d⟩ = true) (hr : P.reads r = false) (hrl : r.length ≤ 100) (ht : TabOk w) :
    Calls Tryd.prog 8 #[.agg #[.bool f, .bool l, .int .i64 n, S d], S s] w fun e w' => e = .returned (.bool true) ∧ Below w.heap.size w w' := by
  have hM := Lib.hid (fun W hW => make_yes f l n d W hm hW)
  have hl := P.bytesOf_length ⟨f, l, n, d⟩ (P.may_len hm)
  have hR1 := Lib.hid (fun W hW => read_cell f l n d W hm hW)
  have hR2 := Lib.hid (fun W hW => read_no ((P.bytesOf ⟨f, l, n, d⟩).drop 1) W (by simp; omega) (reads_off (by simp; omega)) hW)
  have hR3 := Lib.hid (fun W hW => read_no (P.bytesOf ⟨f, l, n, d⟩ ++ [0]) W (by simp; omega) (reads_off (by simp; omega)) hW)
  have hc1 : (ByteArray.mk (P.bytesOf ⟨f, l, n, d⟩).toArray).extract 1 32 = ⟨((P.bytesOf ⟨f, l, n, d⟩).drop 1).toArray⟩ := by
    rw [ByteArray.extract_mk, List.take_of_length_le (by simp; omega)]
  have hR4 := Lib.hid (fun W hW => read_no r W (by omega) hr hW)
  clear hm hr
  generalize hx1 : (P.bytesOf ⟨f, l, n, d⟩).drop 1 = b1 at *
  generalize hx2 : P.bytesOf ⟨f, l, n, d⟩ ++ [0] = b2 at *
  have hx2' : P.bytesOf ⟨f, l, n, d⟩ ++ [0] = b2 := hx2
  clear hx1 hx2
  generalize P.bytesOf ⟨f, l, n, d⟩ = b at *
  go_enter Tryd.func8, Tryd.ntmps8
  go_wp2_with (first
    | (go_at_call 10; (with_reducible refine (hM.out _ (ht.alloc _)).mono ?_); rintro e w1 ⟨rfl, hb1⟩; obtain ⟨k0, k1, k2, k3, hs1, hbw⟩ := box4 hb1; clear hb1; have ht1 := ht.up hbw)
    | (go_at_call 16; (with_reducible refine (hR1.out _ ht1).mono ?_); rintro e w2 ⟨rfl, hb2⟩; obtain ⟨j0, j1, j2, j3⟩ := up4 hb2 k0 k1 k2 k3; have ht2 := ht1.up hb2; have ht2a := ht2.alloc (.cells #[.bool f, .bool l, .int .i64 n, S d] 23))
    | (go_at_call 16; (with_reducible refine (hR2.out _ ht2a).mono ?_); rintro e w3 ⟨rfl, hb3⟩; obtain ⟨q0, q1, q2, q3, hs3, hbw3⟩ := box4 hb3; clear hb3; obtain ⟨m0, m1, m2, m3⟩ := up4 hbw3 j0 j1 j2 j3; have ht3 := ht2.up hbw3; have ht3a := ht3.alloc (.cells #[.bool false, .bool false, .int .i64 0, S []] 23))
    | (go_at_call 16; (with_reducible refine (hR3.out _ ht3a).mono ?_); rintro e w4 ⟨rfl, hb4⟩; have hbw4 := alloc_up hb4; clear hb4; obtain ⟨r0, r1, r2, r3⟩ := up4 hbw4 m0 m1 m2 m3; obtain ⟨s0, s1, s2, s3⟩ := up4 hbw4 q0 q1 q2 q3; have hs4 := hbw4.size; have hlt1 := World.block_lt_of_cell? _ _ s0; have hlt2 := World.block_lt_of_cell? _ _ r0; simp only at hlt1 hlt2; have ht4 := ht3.up hbw4; have ht4a := ht4.alloc (.cells #[.bool false, .bool false, .int .i64 0, S []] 23))
    | (go_at_call 16; (with_reducible refine (hR4.out _ ht4a).mono ?_); rintro e w5 ⟨rfl, hb5⟩; have hbw5 := alloc_up hb5; clear hb5; have ht5 := ht4.up hbw5; have ht5a := ht5.alloc (.cells #[.bool false, .bool false, .int .i64 0, S []] 23))
    | (go_at_call 12; (with_reducible refine (awake_any _ ht5a).mono ?_); rintro e w7 ⟨rfl, hb7⟩))
  go_ret
  exact ⟨rfl, below_step (below_step (below_step (below_step (below_step hbw hb2) hbw3) hbw4) hbw5) (alloc_up hb7)⟩

set_option maxHeartbeats 1000000 in
theorem back_ysy (f l : Bool) (n : Int) (d r : List UInt8) (w : World) (hlen : ¬ (3000 : Int) < (d.length : Int)) (hs : ¬ (100 : Int) < (r.length : Int)) (hm : P.may ⟨f, l, n, d⟩ = true) (hr : P.reads r = true) (ht : TabOk w) :
    Calls Tryd.prog 8 #[.agg #[.bool f, .bool l, .int .i64 n, S d], S r] w fun e w' => e = .returned (.bool true) ∧ Below w.heap.size w w' := by
  have hM := Lib.hid (fun W hW => make_yes f l n d W hm hW)
  have hl := P.bytesOf_length ⟨f, l, n, d⟩ (P.may_len hm)
  have hR1 := Lib.hid (fun W hW => read_cell f l n d W hm hW)
  have hR2 := Lib.hid (fun W hW => read_no ((P.bytesOf ⟨f, l, n, d⟩).drop 1) W (by simp; omega) (reads_off (by simp; omega)) hW)
  have hR3 := Lib.hid (fun W hW => read_no (P.bytesOf ⟨f, l, n, d⟩ ++ [0]) W (by simp; omega) (reads_off (by simp; omega)) hW)
  have hc1 : (ByteArray.mk (P.bytesOf ⟨f, l, n, d⟩).toArray).extract 1 32 = ⟨((P.bytesOf ⟨f, l, n, d⟩).drop 1).toArray⟩ := by
    rw [ByteArray.extract_mk, List.take_of_length_le (by simp; omega)]
  have hR4 := Lib.hid (fun W hW => read_yes r W hr hW)
  have hM4 := Lib.hid (fun W hW => make_back r W hr hW)
  have hrl := P.reads_len hr
  clear hm hr
  generalize hx1 : (P.bytesOf ⟨f, l, n, d⟩).drop 1 = b1 at *
  generalize hx2 : P.bytesOf ⟨f, l, n, d⟩ ++ [0] = b2 at *
  have hx2' : P.bytesOf ⟨f, l, n, d⟩ ++ [0] = b2 := hx2
  clear hx1 hx2
  generalize P.bytesOf ⟨f, l, n, d⟩ = b at *
  go_enter Tryd.func8, Tryd.ntmps8
  go_wp2_with (first
    | (go_at_call 10; (with_reducible refine (hM.out _ (ht.alloc _)).mono ?_); rintro e w1 ⟨rfl, hb1⟩; obtain ⟨k0, k1, k2, k3, hs1, hbw⟩ := box4 hb1; clear hb1; have ht1 := ht.up hbw)
    | (go_at_call 16; (with_reducible refine (hR1.out _ ht1).mono ?_); rintro e w2 ⟨rfl, hb2⟩; obtain ⟨j0, j1, j2, j3⟩ := up4 hb2 k0 k1 k2 k3; have ht2 := ht1.up hb2; have ht2a := ht2.alloc (.cells #[.bool f, .bool l, .int .i64 n, S d] 23))
    | (go_at_call 16; (with_reducible refine (hR2.out _ ht2a).mono ?_); rintro e w3 ⟨rfl, hb3⟩; obtain ⟨q0, q1, q2, q3, hs3, hbw3⟩ := box4 hb3; clear hb3; obtain ⟨m0, m1, m2, m3⟩ := up4 hbw3 j0 j1 j2 j3; have ht3 := ht2.up hbw3; have ht3a := ht3.alloc (.cells #[.bool false, .bool false, .int .i64 0, S []] 23))
    | (go_at_call 16; (with_reducible refine (hR3.out _ ht3a).mono ?_); rintro e w4 ⟨rfl, hb4⟩; have hbw4 := alloc_up hb4; clear hb4; obtain ⟨r0, r1, r2, r3⟩ := up4 hbw4 m0 m1 m2 m3; obtain ⟨s0, s1, s2, s3⟩ := up4 hbw4 q0 q1 q2 q3; have hs4 := hbw4.size; have hlt1 := World.block_lt_of_cell? _ _ s0; have hlt2 := World.block_lt_of_cell? _ _ r0; simp only at hlt1 hlt2; have ht4 := ht3.up hbw4; have ht4a := ht4.alloc (.cells #[.bool false, .bool false, .int .i64 0, S []] 23))
    | (go_at_call 16; (with_reducible refine (hR4.out _ ht4a).mono ?_); rintro e w5 ⟨rfl, hb5⟩; have hbw5 := alloc_up hb5; clear hb5; have ht5 := ht4.up hbw5; have ht5a := ht5.alloc (.cells #[.bool (P.candFirst r), .bool (P.candLast r), .int .i64 (P.num2 r 2 3 : Int), S (P.candData r)] 23))
    | (go_at_call 10; (with_reducible refine (hM4.out _ ht5a).mono ?_); rintro e w6 ⟨rfl, hb6⟩; have hbw6 := alloc_up hb6; clear hb6; have ht6 := ht5.up hbw6)
    | (go_at_call 12; (with_reducible refine (awake_any _ ht6).mono ?_); rintro e w7 ⟨rfl, hb7⟩))
  go_ret
  exact ⟨rfl, below_step (below_step (below_step (below_step (below_step (below_step hbw hb2) hbw3) hbw4) hbw5) hbw6) hb7⟩

set_option maxHeartbeats 1000000 in
theorem back_ysn (f l : Bool) (n : Int) (d r : List UInt8) (w : World) (hlen : ¬ (3000 : Int) < (d.length : Int)) (hs : ¬ (100 : Int) < (r.length : Int)) (hm : P.may ⟨f, l, n, d⟩ = true) (hr : P.reads r = false) (hrl : r.length ≤ 100) (ht : TabOk w) :
    Calls Tryd.prog 8 #[.agg #[.bool f, .bool l, .int .i64 n, S d], S r] w fun e w' => e = .returned (.bool true) ∧ Below w.heap.size w w' := by
  have hM := Lib.hid (fun W hW => make_yes f l n d W hm hW)
  have hl := P.bytesOf_length ⟨f, l, n, d⟩ (P.may_len hm)
  have hR1 := Lib.hid (fun W hW => read_cell f l n d W hm hW)
  have hR2 := Lib.hid (fun W hW => read_no ((P.bytesOf ⟨f, l, n, d⟩).drop 1) W (by simp; omega) (reads_off (by simp; omega)) hW)
  have hR3 := Lib.hid (fun W hW => read_no (P.bytesOf ⟨f, l, n, d⟩ ++ [0]) W (by simp; omega) (reads_off (by simp; omega)) hW)
  have hc1 : (ByteArray.mk (P.bytesOf ⟨f, l, n, d⟩).toArray).extract 1 32 = ⟨((P.bytesOf ⟨f, l, n, d⟩).drop 1).toArray⟩ := by
    rw [ByteArray.extract_mk, List.take_of_length_le (by simp; omega)]
  have hR4 := Lib.hid (fun W hW => read_no r W (by omega) hr hW)
  clear hm hr
  generalize hx1 : (P.bytesOf ⟨f, l, n, d⟩).drop 1 = b1 at *
  generalize hx2 : P.bytesOf ⟨f, l, n, d⟩ ++ [0] = b2 at *
  have hx2' : P.bytesOf ⟨f, l, n, d⟩ ++ [0] = b2 := hx2
  clear hx1 hx2
  generalize P.bytesOf ⟨f, l, n, d⟩ = b at *
  go_enter Tryd.func8, Tryd.ntmps8
  go_wp2_with (first
    | (go_at_call 10; (with_reducible refine (hM.out _ (ht.alloc _)).mono ?_); rintro e w1 ⟨rfl, hb1⟩; obtain ⟨k0, k1, k2, k3, hs1, hbw⟩ := box4 hb1; clear hb1; have ht1 := ht.up hbw)
    | (go_at_call 16; (with_reducible refine (hR1.out _ ht1).mono ?_); rintro e w2 ⟨rfl, hb2⟩; obtain ⟨j0, j1, j2, j3⟩ := up4 hb2 k0 k1 k2 k3; have ht2 := ht1.up hb2; have ht2a := ht2.alloc (.cells #[.bool f, .bool l, .int .i64 n, S d] 23))
    | (go_at_call 16; (with_reducible refine (hR2.out _ ht2a).mono ?_); rintro e w3 ⟨rfl, hb3⟩; obtain ⟨q0, q1, q2, q3, hs3, hbw3⟩ := box4 hb3; clear hb3; obtain ⟨m0, m1, m2, m3⟩ := up4 hbw3 j0 j1 j2 j3; have ht3 := ht2.up hbw3; have ht3a := ht3.alloc (.cells #[.bool false, .bool false, .int .i64 0, S []] 23))
    | (go_at_call 16; (with_reducible refine (hR3.out _ ht3a).mono ?_); rintro e w4 ⟨rfl, hb4⟩; have hbw4 := alloc_up hb4; clear hb4; obtain ⟨r0, r1, r2, r3⟩ := up4 hbw4 m0 m1 m2 m3; obtain ⟨s0, s1, s2, s3⟩ := up4 hbw4 q0 q1 q2 q3; have hs4 := hbw4.size; have hlt1 := World.block_lt_of_cell? _ _ s0; have hlt2 := World.block_lt_of_cell? _ _ r0; simp only at hlt1 hlt2; have ht4 := ht3.up hbw4; have ht4a := ht4.alloc (.cells #[.bool false, .bool false, .int .i64 0, S []] 23))
    | (go_at_call 16; (with_reducible refine (hR4.out _ ht4a).mono ?_); rintro e w5 ⟨rfl, hb5⟩; have hbw5 := alloc_up hb5; clear hb5; have ht5 := ht4.up hbw5; have ht5a := ht5.alloc (.cells #[.bool false, .bool false, .int .i64 0, S []] 23))
    | (go_at_call 12; (with_reducible refine (awake_any _ ht5a).mono ?_); rintro e w7 ⟨rfl, hb7⟩))
  go_ret
  exact ⟨rfl, below_step (below_step (below_step (below_step (below_step hbw hb2) hbw3) hbw4) hbw5) (alloc_up hb7)⟩

set_option maxHeartbeats 1000000 in
theorem back_nly (f l : Bool) (n : Int) (d s r : List UInt8) (w : World) (hlen : ¬ (3000 : Int) < (d.length : Int)) (hs : (100 : Int) < (s.length : Int)) (hcut : (ByteArray.mk s.toArray).extract 0 100 = ⟨r.toArray⟩) (hm : P.may ⟨f, l, n, d⟩ = false) (hr : P.reads r = true) (ht : TabOk w) :
    Calls Tryd.prog 8 #[.agg #[.bool f, .bool l, .int .i64 n, S d], S s] w fun e w' => e = .returned (.bool true) ∧ Below w.heap.size w w' := by
  have hM := Lib.hid (fun W => make_no f l n d W (by omega) hm)
  have hR4 := Lib.hid (fun W hW => read_yes r W hr hW)
  have hM4 := Lib.hid (fun W hW => make_back r W hr hW)
  have hrl := P.reads_len hr
  clear hm hr
  go_enter Tryd.func8, Tryd.ntmps8
  go_wp2_with (first
    | (go_at_call 10; (with_reducible refine (hM.out _).mono ?_); rintro e w1 ⟨rfl, hb1⟩; obtain ⟨k0, k1, k2, k3, hs1, hbw⟩ := box4 hb1; clear hb1; have ht1 := ht.up hbw)
    | (go_at_call 16; (with_reducible refine (hR4.out _ ht1).mono ?_); rintro e w5 ⟨rfl, hbw5⟩; have ht5 := ht1.up hbw5; have ht5a := ht5.alloc (.cells #[.bool (P.candFirst r), .bool (P.candLast r), .int .i64 (P.num2 r 2 3 : Int), S (P.candData r)] 23))
    | (go_at_call 10; (with_reducible refine (hM4.out _ ht5a).mono ?_); rintro e w6 ⟨rfl, hb6⟩; have hbw6 := alloc_up hb6; clear hb6; have ht6 := ht5.up hbw6)
    | (go_at_call 12; (with_reducible refine (awake_any _ ht6).mono ?_); rintro e w7 ⟨rfl, hb7⟩))
  go_ret
  exact ⟨rfl, below_step (below_step (below_step (hbw) hbw5) hbw6) hb7⟩

set_option maxHeartbeats 1000000 in
theorem back_nln (f l : Bool) (n : Int) (d s r : List UInt8) (w : World) (hlen : ¬ (3000 : Int) < (d.length : Int)) (hs : (100 : Int) < (s.length : Int)) (hcut : (ByteArray.mk s.toArray).extract 0 100 = ⟨r.toArray⟩) (hm : P.may ⟨f, l, n, d⟩ = false) (hr : P.reads r = false) (hrl : r.length ≤ 100) (ht : TabOk w) :
    Calls Tryd.prog 8 #[.agg #[.bool f, .bool l, .int .i64 n, S d], S s] w fun e w' => e = .returned (.bool true) ∧ Below w.heap.size w w' := by
  have hM := Lib.hid (fun W => make_no f l n d W (by omega) hm)
  have hR4 := Lib.hid (fun W hW => read_no r W (by omega) hr hW)
  clear hm hr
  go_enter Tryd.func8, Tryd.ntmps8
  go_wp2_with (first
    | (go_at_call 10; (with_reducible refine (hM.out _).mono ?_); rintro e w1 ⟨rfl, hb1⟩; obtain ⟨k0, k1, k2, k3, hs1, hbw⟩ := box4 hb1; clear hb1; have ht1 := ht.up hbw)
    | (go_at_call 16; (with_reducible refine (hR4.out _ ht1).mono ?_); rintro e w5 ⟨rfl, hbw5⟩; have ht5 := ht1.up hbw5; have ht5a := ht5.alloc (.cells #[.bool false, .bool false, .int .i64 0, S []] 23))
    | (go_at_call 12; (with_reducible refine (awake_any _ ht5a).mono ?_); rintro e w7 ⟨rfl, hb7⟩))
  go_ret
  exact ⟨rfl, below_step (below_step (hbw) hbw5) (alloc_up hb7)⟩

set_option maxHeartbeats 1000000 in
theorem back_nsy (f l : Bool) (n : Int) (d r : List UInt8) (w : World) (hlen : ¬ (3000 : Int) < (d.length : Int)) (hs : ¬ (100 : Int) < (r.length : Int)) (hm : P.may ⟨f, l, n, d⟩ = false) (hr : P.reads r = true) (ht : TabOk w) :
    Calls Tryd.prog 8 #[.agg #[.bool f, .bool l, .int .i64 n, S d], S r] w fun e w' => e = .returned (.bool true) ∧ Below w.heap.size w w' := by
  have hM := Lib.hid (fun W => make_no f l n d W (by omega) hm)
  have hR4 := Lib.hid (fun W hW => read_yes r W hr hW)
  have hM4 := Lib.hid (fun W hW => make_back r W hr hW)
  have hrl := P.reads_len hr
  clear hm hr
  go_enter Tryd.func8, Tryd.ntmps8
  go_wp2_with (first
    | (go_at_call 10; (with_reducible refine (hM.out _).mono ?_); rintro e w1 ⟨rfl, hb1⟩; obtain ⟨k0, k1, k2, k3, hs1, hbw⟩ := box4 hb1; clear hb1; have ht1 := ht.up hbw)
    | (go_at_call 16; (with_reducible refine (hR4.out _ ht1).mono ?_); rintro e w5 ⟨rfl, hbw5⟩; have ht5 := ht1.up hbw5; have ht5a := ht5.alloc (.cells #[.bool (P.candFirst r), .bool (P.candLast r), .int .i64 (P.num2 r 2 3 : Int), S (P.candData r)] 23))
    | (go_at_call 10; (with_reducible refine (hM4.out _ ht5a).mono ?_); rintro e w6 ⟨rfl, hb6⟩; have hbw6 := alloc_up hb6; clear hb6; have ht6 := ht5.up hbw6)
    | (go_at_call 12; (with_reducible refine (awake_any _ ht6).mono ?_); rintro e w7 ⟨rfl, hb7⟩))
  go_ret
  exact ⟨rfl, below_step (below_step (below_step (hbw) hbw5) hbw6) hb7⟩

set_option maxHeartbeats 1000000 in
theorem back_nsn (f l : Bool) (n : Int) (d r : List UInt8) (w : World) (hlen : ¬ (3000 : Int) < (d.length : Int)) (hs : ¬ (100 : Int) < (r.length : Int)) (hm : P.may ⟨f, l, n, d⟩ = false) (hr : P.reads r = false) (hrl : r.length ≤ 100) (ht : TabOk w) :
    Calls Tryd.prog 8 #[.agg #[.bool f, .bool l, .int .i64 n, S d], S r] w fun e w' => e = .returned (.bool true) ∧ Below w.heap.size w w' := by
  have hM := Lib.hid (fun W => make_no f l n d W (by omega) hm)
  have hR4 := Lib.hid (fun W hW => read_no r W (by omega) hr hW)
  clear hm hr
  go_enter Tryd.func8, Tryd.ntmps8
  go_wp2_with (first
    | (go_at_call 10; (with_reducible refine (hM.out _).mono ?_); rintro e w1 ⟨rfl, hb1⟩; obtain ⟨k0, k1, k2, k3, hs1, hbw⟩ := box4 hb1; clear hb1; have ht1 := ht.up hbw)
    | (go_at_call 16; (with_reducible refine (hR4.out _ ht1).mono ?_); rintro e w5 ⟨rfl, hbw5⟩; have ht5 := ht1.up hbw5; have ht5a := ht5.alloc (.cells #[.bool false, .bool false, .int .i64 0, S []] 23))
    | (go_at_call 12; (with_reducible refine (awake_any _ ht5a).mono ?_); rintro e w7 ⟨rfl, hb7⟩))
  go_ret
  exact ⟨rfl, below_step (below_step (hbw) hbw5) (alloc_up hb7)⟩

/-- The law, as the row asks it. -/
theorem law_back (f l : Bool) (n : Int) (d s : List UInt8) (w : World) (hd : d.length ≤ 9223372036854775807) (_hs : s.length ≤ 9223372036854775807) (ht : TabOk w) :
    Calls Tryd.prog 8 #[.agg #[.bool f, .bool l, .int .i64 n, S d], S s] w fun e w' => e = .returned (.bool true) ∧ Below w.heap.size w w' := by
  by_cases hlen : (3000 : Int) < (d.length : Int)
  · exact back_long f l n d s w hlen ht
  · by_cases hs : (100 : Int) < (s.length : Int)
    · have hcut : (ByteArray.mk s.toArray).extract 0 100 = ⟨(s.take 100).toArray⟩ := by rw [ByteArray.extract_mk, List.drop_zero]
      have hrl : (s.take 100).length ≤ 100 := by simp; omega
      by_cases hm : P.may ⟨f, l, n, d⟩ = true
      · by_cases hr : P.reads (s.take 100) = true
        · exact back_yly f l n d s (s.take 100) w hlen hs hcut hm hr ht
        · exact back_yln f l n d s (s.take 100) w hlen hs hcut hm (by simpa using hr) hrl ht
      · by_cases hr : P.reads (s.take 100) = true
        · exact back_nly f l n d s (s.take 100) w hlen hs hcut (by simpa using hm) hr ht
        · exact back_nln f l n d s (s.take 100) w hlen hs hcut (by simpa using hm) (by simpa using hr) hrl ht
    · have hrl : s.length ≤ 100 := by omega
      by_cases hm : P.may ⟨f, l, n, d⟩ = true
      · by_cases hr : P.reads s = true
        · exact back_ysy f l n d s w hlen hs hm hr ht
        · exact back_ysn f l n d s w hlen hs hm (by simpa using hr) hrl ht
      · by_cases hr : P.reads s = true
        · exact back_nsy f l n d s w hlen hs (by simpa using hm) hr ht
        · exact back_nsn f l n d s w hlen hs (by simpa using hm) (by simpa using hr) hrl ht
end Go.Proofs.YtgbkaicjckclfaaDoor
