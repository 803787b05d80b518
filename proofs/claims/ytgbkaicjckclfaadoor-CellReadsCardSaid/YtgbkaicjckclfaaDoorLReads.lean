/- CellReads: the cell of any text, as it is, and with its sum at its end, is the document's. The walk of the law. -/
import Derived.Test.YtgbkaicjckclfaaDoorWBox
import Derived.Test.YtgbkaicjckclfaaDoorWAwake
import Derived.Test.YtgbkaicjckclfaaDoorLMakes
import Derived.Deep.RegionHeld3
import Derived.Deep.RegionWith
import Derived.Test.YtgbkaicjckclfaaDoorWReadR
import Derived.Test.YtgbkaicjckclfaaDoorWCrcR
namespace Go.Proofs.YtgbkaicjckclfaaDoor
open Go.RowKit
set_option linter.unusedVariables false

theorem both_read (s : List UInt8) (hn : s.length ≤ 9223372036854775807) : ∃ (f l : Bool) (n : Int) (d : List UInt8) (ok : Bool),
    (∀ w, TabOk w → Calls Tryd.prog 16 #[S s] w fun e w' => e = .returned (.tuple #[.agg #[.bool f, .bool l, .int .i64 n, S d], .bool ok]) ∧ Below w.heap.size w w') ∧
    (∀ w, Calls Tryd.prog 17 #[S s] w fun e w' => e = .returned (.tuple #[.agg #[.bool f, .bool l, .int .i64 n, S d], .bool ok]) ∧ Below w.heap.size w w') :=
  ⟨(P.read s).first, (P.read s).last, (P.read s).num, (P.read s).data, P.reads s, fun w h => read_any s w hn h, fun w => refRead_any s w hn⟩

attribute [local go_sem] str_takeN str_dropN cell_set_same ByteArray.mk_append_mk

set_option maxRecDepth 100000 in
set_option maxHeartbeats 4000000 in
theorem reads_mid (s t : List UInt8) (w : World) (hs : s.length ≤ 100) (h28 : 28 ≤ s.length) (htt : t = s.take 28 ++ P.le32 (P.crc (s.take 28))) (ht : TabOk w) :
    Calls Tryd.prog 6 #[S s] w fun e w' => e = .returned (.bool true) ∧ Below w.heap.size w w' := by
  have htl : t.length = 32 := by rw [htt]; simp [P.le32_length]; omega
  obtain ⟨f, l, n, d, ok, R1, R2⟩ := both_read s (by omega)
  obtain ⟨f', l', n', d', ok', R3, R4⟩ := both_read t (by omega)
  have HR1 := Lib.hid R1
  have HR2 := Lib.hid R2
  rw [htt] at R3 R4
  have HC := Lib.hid (fun w => refCrc_any (s.take 28) w (by simp; omega))
  have hq28 : (s.take 28).length = 28 := by simp; omega
  generalize hq : s.take 28 = q at *
  clear htt
  go_enter Tryd.func6, Tryd.ntmps6
  go_wp2_with (go_at_call 13; (with_reducible refine (HC.out _).mono ?_); rintro e w1 ⟨rfl, hb1⟩)
  generalize P.crc q = x at *
  have h1 : Below w.heap.size w w1 := hb1
  have hz4 : (P.le32 x).length = 4 := P.le32_length x
  have Hz := Lib.hid (rfl : P.le32 x = P.le32 x)
  generalize hz0 : P.le32 x = z at R3 R4 hz4
  have HR3 := Lib.hid R3
  have HR4 := Lib.hid R4
  clear R1 R2 R3 R4
  replace Hz := Lib.hid hz0
  clear hz0
  have hadd : ¬ 9223372036854775807 < q.length + z.length := by omega
  go_region_with ((refine upon_conv_str 39 9 5 5 w1.heap.size 0 4 4 (P.le32 x) z Tryd.underlying39 Tryd.underlying5 Tryd.underlying9 (blk_lit (by rfl) (le32_cells x)) (by rw [P.le32_length]; omega) (by rw [← Hz.out]; rfl) ?_))
  have h2 : Below w.heap.size w (w1.drew.alloc (.cells #[Value.int .u8 (IntKind.u8.wrap (n32 x)), Value.int .u8 (IntKind.u8.wrap (n32 x / (256 : Int))), Value.int .u8 (IntKind.u8.wrap (n32 x / (65536 : Int))), Value.int .u8 (IntKind.u8.wrap (n32 x / (16777216 : Int)))] 5)) := h1.drew.alloc h1.size _
  go_wp2_with (first
    | (go_at_call 16; (with_reducible refine (HR1.out _ ?ht).mono ?_); (case ht => exact ht.up h2); rintro e w2 ⟨rfl, hb2⟩; have h3 := Chain.up h2 hb2; clear hb2)
    | (go_at_call 17; (with_reducible refine (HR2.out _).mono ?_); rintro e w3 ⟨rfl, hb3⟩; have hx3 := (Box.fresh w2 23 f l n d).up hb3; have h4 := Chain.up (h3.alloc h3.size (.cells #[.bool f, .bool l, .int .i64 n, S d] 23)) hb3; have hlt3 := hb3.size; clear hb3))
  have hx4 := Box.fresh w3 34 f l n d
  have hx5 := hx3.alloc (.cells #[.bool f, .bool l, .int .i64 n, S d] 34)
  have h5 := h4.alloc h4.size (.cells #[.bool f, .bool l, .int .i64 n, S d] 34)
  have hg1 : w.heap.size ≤ w2.heap.size := h3.size
  have hg2 : w.heap.size ≤ w3.heap.size := h4.size
  have hne : w2.heap.size ≠ w3.heap.size := by simp at hlt3; omega
  clear h2 h3 h4 hx3 hlt3
  change (Code.region 9 _ true).wp _ _ _ (w3.alloc (.cells #[.bool f, .bool l, .int .i64 n, S d] 34))
  generalize w3.alloc (.cells #[.bool f, .bool l, .int .i64 n, S d] 34) = wy at *
  generalize w2.heap.size = g1 at *
  generalize w3.heap.size = g2 at *
  go_region_held3 (fun wx => Below w.heap.size w wx ∧ Box wx g1 23 f l n d ∧ Box wx g2 34 f l n d ∧ wx.cell? ⟨g1, 0, none⟩ = some (.bool f) ∧ wx.cell? ⟨g1, 1, none⟩ = some (.bool l) ∧ wx.cell? ⟨g1, 2, none⟩ = some (.int .i64 n) ∧ wx.cell? ⟨g1, 3, none⟩ = some (S d) ∧ wx.cell? ⟨g2, 0, none⟩ = some (.bool f) ∧ wx.cell? ⟨g2, 1, none⟩ = some (.bool l) ∧ wx.cell? ⟨g2, 2, none⟩ = some (.int .i64 n) ∧ wx.cell? ⟨g2, 3, none⟩ = some (S d)) (first | exact two_boxes h5.drew hx5 hx4 | exact two_up (by assumption) hbL) (first
    | (go_at_call 14; (with_reducible refine (given_any f l n d _).mono ?_); rintro e w4 ⟨rfl, hbL⟩))
  obtain ⟨i5, b1, b2, _⟩ := two_up (two_boxes h5.drew hx5 hx4) hbL
  clear h5 hx4 hx5 hbL
  go_wp2_with (first
    | (go_at_call 16; (with_reducible refine (HR3.out _ ?ht).mono ?_); (case ht => exact ht.up i5); rintro e w5 ⟨rfl, hb5⟩; have j5 := Chain.up i5 hb5; have j1 := b1.up hb5; have j2 := b2.up hb5; obtain ⟨p0, p1, p2, p3⟩ := j1.cell; have q0 := j1.frozen 0; have q1 := j1.frozen 1; have q2 := j1.frozen 2; have q3 := j1.frozen 3)
    | (go_at_call 17; (with_reducible refine (HR4.out _).mono ?_); rintro e w6 ⟨rfl, hb6⟩; have k5 := Chain.up (below_set4 j5 hg1 (.bool f') (.bool l') (.int .i64 n') (S d')) hb6; have k1 := (j1.set f' l' n' d').up hb6; have k2 := (j2.set_other hne.symm (.bool f') (.bool l') (.int .i64 n') (S d')).up hb6; obtain ⟨u0, u1, u2, u3⟩ := k2.cell; have v0 := k2.frozen 0; have v1 := k2.frozen 1; have v2 := k2.frozen 2; have v3 := k2.frozen 3))
  have m5 := below_set4 k5 hg2 (.bool f') (.bool l') (.int .i64 n') (S d')
  have m1 := k1.set_other hne (.bool f') (.bool l') (.int .i64 n') (S d')
  have m2 := k2.set f' l' n' d'
  clear i5 b1 b2 j5 j1 j2 p0 p1 p2 p3 q0 q1 q2 q3 k5 k1 k2 u0 u1 u2 u3 v0 v1 v2 v3
  change (Code.region 13 _ true).wp _ _ _ ((((w6.setCell ⟨g2, 0, none⟩ (.bool f')).setCell ⟨g2, 1, none⟩ (.bool l')).setCell ⟨g2, 2, none⟩ (.int .i64 n')).setCell ⟨g2, 3, none⟩ (S d'))
  generalize (((w6.setCell ⟨g2, 0, none⟩ (.bool f')).setCell ⟨g2, 1, none⟩ (.bool l')).setCell ⟨g2, 2, none⟩ (.int .i64 n')).setCell ⟨g2, 3, none⟩ (S d') = wz at *
  go_region_held3 (fun wx => Below w.heap.size w wx ∧ Box wx g1 23 f' l' n' d' ∧ Box wx g2 34 f' l' n' d' ∧ wx.cell? ⟨g1, 0, none⟩ = some (.bool f') ∧ wx.cell? ⟨g1, 1, none⟩ = some (.bool l') ∧ wx.cell? ⟨g1, 2, none⟩ = some (.int .i64 n') ∧ wx.cell? ⟨g1, 3, none⟩ = some (S d') ∧ wx.cell? ⟨g2, 0, none⟩ = some (.bool f') ∧ wx.cell? ⟨g2, 1, none⟩ = some (.bool l') ∧ wx.cell? ⟨g2, 2, none⟩ = some (.int .i64 n') ∧ wx.cell? ⟨g2, 3, none⟩ = some (S d')) (first | exact two_boxes m5.drew m1 m2 | exact two_up (by assumption) hbM) (first
    | (go_at_call 14; (with_reducible refine (given_any f' l' n' d' _).mono ?_); rintro e w7 ⟨rfl, hbM⟩)
    | (go_at_call 12; (with_reducible refine (awake_any _ ?ht).mono ?_); (case ht => exact ht.up (And.left (by assumption))); rintro e w8 ⟨rfl, hbM⟩))
  go_wp2_with fail
  go_ret
  exact ⟨rfl, And.left (by assumption)⟩

set_option maxRecDepth 100000 in
set_option maxHeartbeats 4000000 in
theorem reads_long (s t s0 : List UInt8) (w : World) (hbig : 100 < s0.length) (hqs : s0.take 100 = s) (hs : s.length ≤ 100) (h28 : 28 ≤ s.length) (htt : t = s.take 28 ++ P.le32 (P.crc (s.take 28))) (ht : TabOk w) :
    Calls Tryd.prog 6 #[S s0] w fun e w' => e = .returned (.bool true) ∧ Below w.heap.size w w' := by
  have htl : t.length = 32 := by rw [htt]; simp [P.le32_length]; omega
  obtain ⟨f, l, n, d, ok, R1, R2⟩ := both_read s (by omega)
  obtain ⟨f', l', n', d', ok', R3, R4⟩ := both_read t (by omega)
  have HR1 := Lib.hid R1
  have HR2 := Lib.hid R2
  rw [htt] at R3 R4
  have HC := Lib.hid (fun w => refCrc_any (s.take 28) w (by simp; omega))
  have hq28 : (s.take 28).length = 28 := by simp; omega
  generalize hq : s.take 28 = q at *
  clear htt
  go_enter Tryd.func6, Tryd.ntmps6
  go_wp2_with (go_at_call 13; (with_reducible refine (HC.out _).mono ?_); rintro e w1 ⟨rfl, hb1⟩)
  generalize P.crc q = x at *
  have h1 : Below w.heap.size w w1 := hb1
  have hz4 : (P.le32 x).length = 4 := P.le32_length x
  have Hz := Lib.hid (rfl : P.le32 x = P.le32 x)
  generalize hz0 : P.le32 x = z at R3 R4 hz4
  have HR3 := Lib.hid R3
  have HR4 := Lib.hid R4
  clear R1 R2 R3 R4
  replace Hz := Lib.hid hz0
  clear hz0
  have hadd : ¬ 9223372036854775807 < q.length + z.length := by omega
  go_region_with ((refine upon_conv_str 39 9 5 5 w1.heap.size 0 4 4 (P.le32 x) z Tryd.underlying39 Tryd.underlying5 Tryd.underlying9 (blk_lit (by rfl) (le32_cells x)) (by rw [P.le32_length]; omega) (by rw [← Hz.out]; rfl) ?_))
  have h2 : Below w.heap.size w (w1.drew.alloc (.cells #[Value.int .u8 (IntKind.u8.wrap (n32 x)), Value.int .u8 (IntKind.u8.wrap (n32 x / (256 : Int))), Value.int .u8 (IntKind.u8.wrap (n32 x / (65536 : Int))), Value.int .u8 (IntKind.u8.wrap (n32 x / (16777216 : Int)))] 5)) := h1.drew.alloc h1.size _
  go_wp2_with (first
    | (go_at_call 16; (with_reducible refine (HR1.out _ ?ht).mono ?_); (case ht => exact ht.up h2); rintro e w2 ⟨rfl, hb2⟩; have h3 := Chain.up h2 hb2; clear hb2)
    | (go_at_call 17; (with_reducible refine (HR2.out _).mono ?_); rintro e w3 ⟨rfl, hb3⟩; have hx3 := (Box.fresh w2 23 f l n d).up hb3; have h4 := Chain.up (h3.alloc h3.size (.cells #[.bool f, .bool l, .int .i64 n, S d] 23)) hb3; have hlt3 := hb3.size; clear hb3))
  have hx4 := Box.fresh w3 34 f l n d
  have hx5 := hx3.alloc (.cells #[.bool f, .bool l, .int .i64 n, S d] 34)
  have h5 := h4.alloc h4.size (.cells #[.bool f, .bool l, .int .i64 n, S d] 34)
  have hg1 : w.heap.size ≤ w2.heap.size := h3.size
  have hg2 : w.heap.size ≤ w3.heap.size := h4.size
  have hne : w2.heap.size ≠ w3.heap.size := by simp at hlt3; omega
  clear h2 h3 h4 hx3 hlt3
  change (Code.region 9 _ true).wp _ _ _ (w3.alloc (.cells #[.bool f, .bool l, .int .i64 n, S d] 34))
  generalize w3.alloc (.cells #[.bool f, .bool l, .int .i64 n, S d] 34) = wy at *
  generalize w2.heap.size = g1 at *
  generalize w3.heap.size = g2 at *
  go_region_held3 (fun wx => Below w.heap.size w wx ∧ Box wx g1 23 f l n d ∧ Box wx g2 34 f l n d ∧ wx.cell? ⟨g1, 0, none⟩ = some (.bool f) ∧ wx.cell? ⟨g1, 1, none⟩ = some (.bool l) ∧ wx.cell? ⟨g1, 2, none⟩ = some (.int .i64 n) ∧ wx.cell? ⟨g1, 3, none⟩ = some (S d) ∧ wx.cell? ⟨g2, 0, none⟩ = some (.bool f) ∧ wx.cell? ⟨g2, 1, none⟩ = some (.bool l) ∧ wx.cell? ⟨g2, 2, none⟩ = some (.int .i64 n) ∧ wx.cell? ⟨g2, 3, none⟩ = some (S d)) (first | exact two_boxes h5.drew hx5 hx4 | exact two_up (by assumption) hbL) (first
    | (go_at_call 14; (with_reducible refine (given_any f l n d _).mono ?_); rintro e w4 ⟨rfl, hbL⟩))
  obtain ⟨i5, b1, b2, _⟩ := two_up (two_boxes h5.drew hx5 hx4) hbL
  clear h5 hx4 hx5 hbL
  go_wp2_with (first
    | (go_at_call 16; (with_reducible refine (HR3.out _ ?ht).mono ?_); (case ht => exact ht.up i5); rintro e w5 ⟨rfl, hb5⟩; have j5 := Chain.up i5 hb5; have j1 := b1.up hb5; have j2 := b2.up hb5; obtain ⟨p0, p1, p2, p3⟩ := j1.cell; have q0 := j1.frozen 0; have q1 := j1.frozen 1; have q2 := j1.frozen 2; have q3 := j1.frozen 3)
    | (go_at_call 17; (with_reducible refine (HR4.out _).mono ?_); rintro e w6 ⟨rfl, hb6⟩; have k5 := Chain.up (below_set4 j5 hg1 (.bool f') (.bool l') (.int .i64 n') (S d')) hb6; have k1 := (j1.set f' l' n' d').up hb6; have k2 := (j2.set_other hne.symm (.bool f') (.bool l') (.int .i64 n') (S d')).up hb6; obtain ⟨u0, u1, u2, u3⟩ := k2.cell; have v0 := k2.frozen 0; have v1 := k2.frozen 1; have v2 := k2.frozen 2; have v3 := k2.frozen 3))
  have m5 := below_set4 k5 hg2 (.bool f') (.bool l') (.int .i64 n') (S d')
  have m1 := k1.set_other hne (.bool f') (.bool l') (.int .i64 n') (S d')
  have m2 := k2.set f' l' n' d'
  clear i5 b1 b2 j5 j1 j2 p0 p1 p2 p3 q0 q1 q2 q3 k5 k1 k2 u0 u1 u2 u3 v0 v1 v2 v3
  change (Code.region 13 _ true).wp _ _ _ ((((w6.setCell ⟨g2, 0, none⟩ (.bool f')).setCell ⟨g2, 1, none⟩ (.bool l')).setCell ⟨g2, 2, none⟩ (.int .i64 n')).setCell ⟨g2, 3, none⟩ (S d'))
  generalize (((w6.setCell ⟨g2, 0, none⟩ (.bool f')).setCell ⟨g2, 1, none⟩ (.bool l')).setCell ⟨g2, 2, none⟩ (.int .i64 n')).setCell ⟨g2, 3, none⟩ (S d') = wz at *
  go_region_held3 (fun wx => Below w.heap.size w wx ∧ Box wx g1 23 f' l' n' d' ∧ Box wx g2 34 f' l' n' d' ∧ wx.cell? ⟨g1, 0, none⟩ = some (.bool f') ∧ wx.cell? ⟨g1, 1, none⟩ = some (.bool l') ∧ wx.cell? ⟨g1, 2, none⟩ = some (.int .i64 n') ∧ wx.cell? ⟨g1, 3, none⟩ = some (S d') ∧ wx.cell? ⟨g2, 0, none⟩ = some (.bool f') ∧ wx.cell? ⟨g2, 1, none⟩ = some (.bool l') ∧ wx.cell? ⟨g2, 2, none⟩ = some (.int .i64 n') ∧ wx.cell? ⟨g2, 3, none⟩ = some (S d')) (first | exact two_boxes m5.drew m1 m2 | exact two_up (by assumption) hbM) (first
    | (go_at_call 14; (with_reducible refine (given_any f' l' n' d' _).mono ?_); rintro e w7 ⟨rfl, hbM⟩)
    | (go_at_call 12; (with_reducible refine (awake_any _ ?ht).mono ?_); (case ht => exact ht.up (And.left (by assumption))); rintro e w8 ⟨rfl, hbM⟩))
  go_wp2_with fail
  go_ret
  exact ⟨rfl, And.left (by assumption)⟩

set_option maxRecDepth 100000 in
set_option maxHeartbeats 4000000 in
theorem reads_short (s : List UInt8) (w : World) (hs : s.length < 28) (ht : TabOk w) :
    Calls Tryd.prog 6 #[S s] w fun e w' => e = .returned (.bool true) ∧ Below w.heap.size w w' := by
  obtain ⟨f, l, n, d, ok, R1, R2⟩ := both_read s (by omega)
  have HR1 := Lib.hid R1
  have HR2 := Lib.hid R2
  clear R1 R2
  have h2 : Below w.heap.size w w := Below.refl _ _
  go_enter Tryd.func6, Tryd.ntmps6
  go_wp2_with (first
    | (go_at_call 16; (with_reducible refine (HR1.out _ ?ht).mono ?_); (case ht => exact ht.up h2); rintro e w2 ⟨rfl, hb2⟩; have h3 := Chain.up h2 hb2; clear hb2)
    | (go_at_call 17; (with_reducible refine (HR2.out _).mono ?_); rintro e w3 ⟨rfl, hb3⟩; have hx3 := (Box.fresh w2 23 f l n d).up hb3; have h4 := Chain.up (h3.alloc h3.size (.cells #[.bool f, .bool l, .int .i64 n, S d] 23)) hb3; have hlt3 := hb3.size; clear hb3))
  have hx4 := Box.fresh w3 34 f l n d
  have hx5 := hx3.alloc (.cells #[.bool f, .bool l, .int .i64 n, S d] 34)
  have h5 := h4.alloc h4.size (.cells #[.bool f, .bool l, .int .i64 n, S d] 34)
  have hg1 : w.heap.size ≤ w2.heap.size := h3.size
  have hg2 : w.heap.size ≤ w3.heap.size := h4.size
  have hne : w2.heap.size ≠ w3.heap.size := by simp at hlt3; omega
  clear h2 h3 h4 hx3 hlt3
  change (Code.region 9 _ true).wp _ _ _ (w3.alloc (.cells #[.bool f, .bool l, .int .i64 n, S d] 34))
  generalize w3.alloc (.cells #[.bool f, .bool l, .int .i64 n, S d] 34) = wy at *
  generalize w2.heap.size = g1 at *
  generalize w3.heap.size = g2 at *
  go_region_held3 (fun wx => Below w.heap.size w wx ∧ Box wx g1 23 f l n d ∧ Box wx g2 34 f l n d ∧ wx.cell? ⟨g1, 0, none⟩ = some (.bool f) ∧ wx.cell? ⟨g1, 1, none⟩ = some (.bool l) ∧ wx.cell? ⟨g1, 2, none⟩ = some (.int .i64 n) ∧ wx.cell? ⟨g1, 3, none⟩ = some (S d) ∧ wx.cell? ⟨g2, 0, none⟩ = some (.bool f) ∧ wx.cell? ⟨g2, 1, none⟩ = some (.bool l) ∧ wx.cell? ⟨g2, 2, none⟩ = some (.int .i64 n) ∧ wx.cell? ⟨g2, 3, none⟩ = some (S d)) (first | exact two_boxes h5.drew hx5 hx4 | exact two_up (by assumption) hbL) (first
    | (go_at_call 14; (with_reducible refine (given_any f l n d _).mono ?_); rintro e w4 ⟨rfl, hbL⟩))
  obtain ⟨i5, b1, b2, _⟩ := two_up (two_boxes h5.drew hx5 hx4) hbL
  clear h5 hx4 hx5 hbL
  go_wp2_with (first
    | (go_at_call 16; (with_reducible refine (HR1.out _ ?ht).mono ?_); (case ht => exact ht.up i5); rintro e w5 ⟨rfl, hb5⟩; have j5 := Chain.up i5 hb5; have j1 := b1.up hb5; have j2 := b2.up hb5; obtain ⟨p0, p1, p2, p3⟩ := j1.cell; have q0 := j1.frozen 0; have q1 := j1.frozen 1; have q2 := j1.frozen 2; have q3 := j1.frozen 3)
    | (go_at_call 17; (with_reducible refine (HR2.out _).mono ?_); rintro e w6 ⟨rfl, hb6⟩; have k5 := Chain.up (below_set4 j5 hg1 (.bool f) (.bool l) (.int .i64 n) (S d)) hb6; have k1 := (j1.set f l n d).up hb6; have k2 := (j2.set_other hne.symm (.bool f) (.bool l) (.int .i64 n) (S d)).up hb6; obtain ⟨u0, u1, u2, u3⟩ := k2.cell; have v0 := k2.frozen 0; have v1 := k2.frozen 1; have v2 := k2.frozen 2; have v3 := k2.frozen 3))
  have m5 := below_set4 k5 hg2 (.bool f) (.bool l) (.int .i64 n) (S d)
  have m1 := k1.set_other hne (.bool f) (.bool l) (.int .i64 n) (S d)
  have m2 := k2.set f l n d
  clear i5 b1 b2 j5 j1 j2 p0 p1 p2 p3 q0 q1 q2 q3 k5 k1 k2 u0 u1 u2 u3 v0 v1 v2 v3
  change (Code.region 13 _ true).wp _ _ _ ((((w6.setCell ⟨g2, 0, none⟩ (.bool f)).setCell ⟨g2, 1, none⟩ (.bool l)).setCell ⟨g2, 2, none⟩ (.int .i64 n)).setCell ⟨g2, 3, none⟩ (S d))
  generalize (((w6.setCell ⟨g2, 0, none⟩ (.bool f)).setCell ⟨g2, 1, none⟩ (.bool l)).setCell ⟨g2, 2, none⟩ (.int .i64 n)).setCell ⟨g2, 3, none⟩ (S d) = wz at *
  go_region_held3 (fun wx => Below w.heap.size w wx ∧ Box wx g1 23 f l n d ∧ Box wx g2 34 f l n d ∧ wx.cell? ⟨g1, 0, none⟩ = some (.bool f) ∧ wx.cell? ⟨g1, 1, none⟩ = some (.bool l) ∧ wx.cell? ⟨g1, 2, none⟩ = some (.int .i64 n) ∧ wx.cell? ⟨g1, 3, none⟩ = some (S d) ∧ wx.cell? ⟨g2, 0, none⟩ = some (.bool f) ∧ wx.cell? ⟨g2, 1, none⟩ = some (.bool l) ∧ wx.cell? ⟨g2, 2, none⟩ = some (.int .i64 n) ∧ wx.cell? ⟨g2, 3, none⟩ = some (S d)) (first | exact two_boxes m5.drew m1 m2 | exact two_up (by assumption) hbM) (first
    | (go_at_call 14; (with_reducible refine (given_any f l n d _).mono ?_); rintro e w7 ⟨rfl, hbM⟩)
    | (go_at_call 12; (with_reducible refine (awake_any _ ?ht).mono ?_); (case ht => exact ht.up (And.left (by assumption))); rintro e w8 ⟨rfl, hbM⟩))
  go_wp2_with fail
  go_ret
  exact ⟨rfl, And.left (by assumption)⟩

theorem law_reads (s : List UInt8) (w : World) (hs : s.length ≤ 9223372036854775807) (ht : TabOk w) :
    Calls Tryd.prog 6 #[S s] w fun e w' => e = .returned (.bool true) ∧ Below w.heap.size w w' := by
  by_cases hbig : 100 < s.length
  · exact reads_long (s.take 100) _ s w hbig rfl (by simp; omega) (by simp; omega) rfl ht
  · by_cases h28 : 28 ≤ s.length
    · exact reads_mid s _ w (by omega) h28 rfl ht
    · exact reads_short s w (by omega) ht
end Go.Proofs.YtgbkaicjckclfaaDoor
