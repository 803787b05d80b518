/- The walk of BlockKnown: it answers true. -/
import Derived.Test.YthaiekilifoegaaWLawK
import Derived.Deep.OwnRows
namespace Go.Proofs.Ythaiekilifoegaa
open Go.RowKit
set_option linter.unusedVariables false
set_option linter.unusedSimpArgs false

def P.long : List UInt8 := List.replicate 1025 0
theorem P.long_length : P.long.length = 1025 := List.length_replicate
theorem made_longN (n : Nat) : madeCells #[Value.int .u8 0] n = bytesV (List.replicate n 0) := by
  rw [← Array.toList_inj, toList_madeCells_one]
  simp [bytesV, u8V]
theorem made_long : madeCells #[Value.int .u8 0] 1025 = bytesV P.long := made_longN 1025
theorem info_byteK : (Try.prog.info? 5).map (fun i => (i.zero, i.size, i.bytes)) = some (some (.int .u8 0), 1, 1) := by kernel_rfl
abbrev P.K1 : List P.En := [⟨[97, 98], []⟩]
theorem P.k1_add : P.addE 0 (P.lastK []) [97, 98] [] = 0 ∧ P.addL [] [97, 98] [] = P.K1 := ⟨by decide, rfl⟩
theorem P.k1_same : P.addE 1 (P.lastK P.K1) [97, 98] [] = 1 ∧ P.addL P.K1 [97, 98] [] = P.K1 := ⟨by decide, rfl⟩
theorem P.k1_low : P.addE 1 (P.lastK P.K1) [] [] = 1 ∧ P.addL P.K1 [] [] = P.K1 := ⟨by decide, rfl⟩
theorem P.add_long {l : List P.En} {k v : List UInt8} (h : 1024 < k.length ∨ 1024 < v.length) : P.addE l.length (P.lastK l) k v = 3 ∧ P.addL l k v = l := by
  have h1 : P.addE l.length (P.lastK l) k v = 3 := by unfold P.addE; rw [if_pos h]
  refine ⟨h1, ?_⟩
  unfold P.addL
  rw [h1]
  rfl
theorem P.add_first {v : List UInt8} (h : v.length ≤ 1024) : P.addE 0 (P.lastK []) [] v = 0 ∧ P.addL [] [] v = [⟨[], v⟩] := by
  have h1 : P.addE 0 (P.lastK []) [] v = 0 := P.addE_zero.2 ⟨by simp, h, fun h => absurd h (by omega)⟩
  refine ⟨h1, ?_⟩
  unfold P.addL
  exact if_pos h1
theorem P.add_second {v : List UInt8} : P.addE 1 (P.lastK [⟨[], v⟩]) [0] [] = 0 :=
  P.addE_zero.2 ⟨by simp, by simp, fun _ => rfl⟩
theorem P.bytes0 : P.bytesB [] = [0, 0, 0, 0] := by decide
theorem P.opens0 : P.Opens [0, 0, 0, 0] [] := ⟨P.good_nil, P.bytes0⟩
theorem P.opens_not0 : ∀ l, ¬ P.Opens [] l := fun l h => by have := h.len; simp at this

/-! ### Nil receivers -/
set_option maxRecDepth 100000 in
theorem size_nil (w : World) : Calls Try.prog 9 #[.pointer none] w fun e w' => e = .returned (.int .i64 0) ∧ Below w.heap.size w w' := by
  go_enter Try.func9, Try.ntmps9
  go_wp2
  exact bodyPost_ret (v := .int .i64 0) (by simp [results, Try.results9, go_sem]) rfl ⟨rfl, Below.refl _ _⟩
set_option maxRecDepth 100000 in
theorem count_nil (w : World) : Calls Try.prog 10 #[.pointer none] w fun e w' => e = .returned (.int .i64 0) ∧ Below w.heap.size w w' := by
  go_enter Try.func10, Try.ntmps10
  go_wp2
  exact bodyPost_ret (v := .int .i64 0) (by simp [results, Try.results10, go_sem]) rfl ⟨rfl, Below.refl _ _⟩
set_option maxRecDepth 100000 in
theorem finish_nil (w : World) : Calls Try.prog 12 #[.pointer none] w fun e w' => e = .returned (S []) ∧ Below w.heap.size w w' := by
  go_enter Try.func12, Try.ntmps12
  go_wp2
  exact bodyPost_ret (v := S []) (by simp [results, Try.results12, go_sem]) rfl ⟨rfl, Below.refl _ _⟩
set_option maxRecDepth 100000 in
theorem addb_nil (w : World) : Calls Try.prog 11 #[.pointer none, S [97], S []] w fun e w' => e = .returned (.int .i64 2) ∧ Below w.heap.size w w' := by
  go_enter Try.func11, Try.ntmps11
  go_wp2
  exact bodyPost_ret (v := .int .i64 2) (by simp [results, Try.results11, go_sem]) rfl ⟨rfl, Below.refl _ _⟩
set_option maxRecDepth 100000 in
theorem len_nil (w : World) : Calls Try.prog 15 #[.pointer none] w fun e w' => e = .returned (.int .i64 0) ∧ Below w.heap.size w w' := by
  go_enter Try.func15, Try.ntmps15
  go_wp2
  exact bodyPost_ret (v := .int .i64 0) (by simp [results, Try.results15, go_sem]) rfl ⟨rfl, Below.refl _ _⟩
set_option maxRecDepth 100000 in
set_option maxHeartbeats 4000000 in
theorem at_nil (w : World) : Calls Try.prog 14 #[.pointer none, .int .i64 0] w fun e w' => e = .returned (.tuple #[S [], S [], .bool false]) ∧ Below w.heap.size w w' := by
  go_enter Try.func14, Try.ntmps14
  go_wp2_with (go_at_call 15; (with_reducible refine (len_nil _).mono ?_); rintro e w1 ⟨rfl, hb1⟩)
  exact bodyPost_ret (v := .tuple #[S [], S [], .bool false]) (by simp [results, Try.results14, go_sem]) rfl ⟨rfl, hb1⟩
set_option maxRecDepth 100000 in
set_option maxHeartbeats 4000000 in
theorem seek_nil (w : World) (k : List UInt8) : Calls Try.prog 16 #[.pointer none, S k] w fun e w' => e = .returned (.int .i64 0) ∧ Below w.heap.size w w' := by
  have hW := Lib.hid (fun o1 o2 => show Below w.heap.size w ((w.alloc o1).alloc o2) from ((Below.refl _ _).alloc (Nat.le_refl _) _).alloc (by simp) _)
  go_enter Try.func16, Try.ntmps16
  go_wp2_with (go_at_call 15; (with_reducible refine (len_nil _).mono ?_); rintro e w1 ⟨rfl, hb1⟩)
  go_ret
  exact ⟨rfl, (two_box2 hb1).2.2.2⟩

/-! ### A block of no entries, of which the count alone is known -/
def BlkZ (w : World) (g : Nat) : Prop := ∃ a vs, Bx w g 65 #[a, vs, .int .i64 0]
theorem BlkZ.up {w w' : World} {g : Nat} (h : BlkZ w g) (hb : Below w.heap.size w w') : BlkZ w' g := by
  obtain ⟨a, vs, h⟩ := h
  exact ⟨a, vs, h.up hb⟩
theorem BlkZ.of {w : World} {g : Nat} (h : BlkAt w g []) : BlkZ w g := by
  obtain ⟨vs, B, h, _⟩ := h
  exact ⟨_, vs, h⟩
theorem len_z {w : World} {g : Nat} (h : BlkZ w g) :
    Calls Try.prog 15 #[.pointer (some ⟨g, 0, none⟩)] w fun e w' => e = .returned (.int .i64 0) ∧ Below w.heap.size w w' := by
  obtain ⟨a, vs, hx⟩ := h
  obtain ⟨c0, c1, c2, _, _, _⟩ := hx.three
  go_enter Try.func15, Try.ntmps15
  go_wp2
  go_ret
  exact ⟨rfl, Below.refl _ _⟩
theorem seek_z {w : World} {g : Nat} (h : BlkZ w g) (k : List UInt8) :
    Calls Try.prog 16 #[.pointer (some ⟨g, 0, none⟩), S k] w fun e w' => e = .returned (.int .i64 0) ∧ Below w.heap.size w w' := by
  have HL := Lib.hid (fun wx (hb : Below w.heap.size w wx) => len_z (h.up hb))
  have hW := Lib.hid (fun o1 o2 => show Below w.heap.size w ((w.alloc o1).alloc o2) from ((Below.refl _ _).alloc (Nat.le_refl _) _).alloc (by simp) _)
  go_enter Try.func16, Try.ntmps16
  go_wp2_with (go_at_call 15; (with_reducible refine (HL.out _ (hW.out _ _)).mono ?_); rintro e w1 ⟨rfl, hb1⟩)
  go_ret
  exact ⟨rfl, (two_box2 hb1).2.2.2⟩
theorem add_z {w : World} {B g gx : Nat} {l : List P.En} (h : BldAt w B g l) (hz : BlkZ w gx) (k v : List UInt8) (hk : k.length ≤ 1000000000) (hv : v.length ≤ 1000000000) (hl : l.length ≤ 100000) (hB : B ≤ w.heap.size) :
    Calls Try.prog 11 #[.pointer (some ⟨g, 0, none⟩), S k, S v] w fun e w' => e = .returned (.int .i64 (P.addE l.length (P.lastK l) k v)) ∧ (BldAt w' B g (P.addL l k v) ∧ BlkZ w' gx) ∧ Below B w w' := by
  obtain ⟨hg, vb, vs, h⟩ := h
  obtain ⟨a, vz, hz⟩ := hz
  have hm := P.upTo_most hg l.length
  refine (add_any h k v hk hv (P.lastK_len hg) (by omega) (by omega) (by rw [P.starts_len]; omega) hB).mono ?_
  rintro e w' ⟨rfl, h1, h2⟩
  by_cases hE : P.addE l.length (P.lastK l) k v = 0
  · obtain ⟨vb', vs', hB', hbt, _⟩ := h2 hE
    have hA : P.addL l k v = l ++ [⟨k, v⟩] := by unfold P.addL; rw [if_pos hE]
    refine ⟨rfl, ⟨⟨P.good_addL hg k v, vb', vs', ?_⟩, a, vz, hz.butS hbt (h.other hz (by decide) (by decide) (by decide))⟩, h.below hbt hB⟩
    rw [hA, List.length_append, List.length_singleton, P.lastK_snoc, P.upTo_snoc, P.starts_snoc]
    exact hB'
  · have hb := h1 hE
    have hA : P.addL l k v = l := by unfold P.addL; rw [if_neg hE]
    rw [hA]
    exact ⟨rfl, ⟨⟨hg, vb, vs, h.up hb⟩, a, vz, hz.up hb⟩, hb.mono hB⟩

attribute [local go_sem] str_take

set_option maxRecDepth 100000 in
set_option maxHeartbeats 8000000 in
theorem law_known (w : World) :
    Calls Try.prog 3 #[] w fun e w' => e = .returned (.bool true) ∧ Below w.heap.size w w' := by
  have hmk : (Instr.makeSlice 22 (.int .i64 1025) (.int .i64 1025)).run Try.prog w = .ok (.slice (some ⟨w.heap.size, 0, none⟩) 1025 1025) (w.alloc (.cells (madeCells #[Value.int .u8 0] 1025) 5)) :=
    run_make_row' 22 5 (.int .u8 0) 1 Try.underlying22 info_byteK rfl .i64 .i64 1025 (by omega) (by omega) w
  have hblk : Blk (w.alloc (.cells (madeCells #[Value.int .u8 0] 1025) 5)) w.heap.size 5 P.long := blk_lit rfl made_long
  have hlen := P.long_length
  generalize madeCells #[Value.int .u8 0] 1025 = cs at *
  generalize P.long = lg at *
  have Hlg := Lib.hid hlen
  have Hd0 := Lib.hid (show (lg.drop 0).take 1025 = lg by rw [List.drop_zero]; exact List.take_of_length_le (by omega))
  have hlt : (lg.take 1024).length = 1024 := by rw [List.length_take, hlen]; rfl
  have HT := Lib.hid hlt
  clear hlt
  have hc0 : Below w.heap.size w (w.alloc (.cells cs 5)) := (Below.refl _ _).alloc (Nat.le_refl _) _
  have HB : w.heap.size ≤ w.heap.size := Nat.le_refl _
  have HA1 := Lib.hid (fun wx g (h : BldAt wx w.heap.size g []) (hs : w.heap.size ≤ wx.heap.size) => show Calls Try.prog 11 #[.pointer (some ⟨g, 0, none⟩), S [97, 98], S []] wx fun e w' => e = .returned (.int .i64 0) ∧ BldAt w' w.heap.size g P.K1 ∧ Below w.heap.size wx w' from by
    have hf := P.k1_add
    have := add_at h [97, 98] [] (by first | decide | (rw [hlen]; decide) | (rw [HT.out]; decide)) (by first | decide | (rw [hlen]; decide) | (rw [HT.out]; decide)) (by decide) hs
    have e1 := hf.1
    have e2 := hf.2
    exact this.mono (fun e w' h => ⟨by rw [h.1]; exact congrArg (fun z : Nat => Ending.returned (.int .i64 z)) e1, by rw [← e2]; exact h.2.1, h.2.2.1⟩))
  have HA2 := Lib.hid (fun wx g (h : BldAt wx w.heap.size g P.K1) (hs : w.heap.size ≤ wx.heap.size) => show Calls Try.prog 11 #[.pointer (some ⟨g, 0, none⟩), S [97, 98], S []] wx fun e w' => e = .returned (.int .i64 1) ∧ BldAt w' w.heap.size g P.K1 ∧ Below w.heap.size wx w' from by
    have hf := P.k1_same
    have := add_at h [97, 98] [] (by first | decide | (rw [hlen]; decide) | (rw [HT.out]; decide)) (by first | decide | (rw [hlen]; decide) | (rw [HT.out]; decide)) (by decide) hs
    have e1 := hf.1
    have e2 := hf.2
    exact this.mono (fun e w' h => ⟨by rw [h.1]; exact congrArg (fun z : Nat => Ending.returned (.int .i64 z)) e1, by rw [← e2]; exact h.2.1, h.2.2.1⟩))
  have HA3 := Lib.hid (fun wx g (h : BldAt wx w.heap.size g P.K1) (hs : w.heap.size ≤ wx.heap.size) => show Calls Try.prog 11 #[.pointer (some ⟨g, 0, none⟩), S [], S []] wx fun e w' => e = .returned (.int .i64 1) ∧ BldAt w' w.heap.size g P.K1 ∧ Below w.heap.size wx w' from by
    have hf := P.k1_low
    have := add_at h [] [] (by first | decide | (rw [hlen]; decide) | (rw [HT.out]; decide)) (by first | decide | (rw [hlen]; decide) | (rw [HT.out]; decide)) (by decide) hs
    have e1 := hf.1
    have e2 := hf.2
    exact this.mono (fun e w' h => ⟨by rw [h.1]; exact congrArg (fun z : Nat => Ending.returned (.int .i64 z)) e1, by rw [← e2]; exact h.2.1, h.2.2.1⟩))
  have HA4 := Lib.hid (fun wx g (h : BldAt wx w.heap.size g P.K1) (hs : w.heap.size ≤ wx.heap.size) => show Calls Try.prog 11 #[.pointer (some ⟨g, 0, none⟩), S lg, S []] wx fun e w' => e = .returned (.int .i64 3) ∧ BldAt w' w.heap.size g P.K1 ∧ Below w.heap.size wx w' from by
    have hf := (P.add_long (l := P.K1) (k := lg) (v := []) (.inl (by omega)))
    have := add_at h lg [] (by first | decide | (rw [hlen]; decide) | (rw [HT.out]; decide)) (by first | decide | (rw [hlen]; decide) | (rw [HT.out]; decide)) (by decide) hs
    have e1 := hf.1
    have e2 := hf.2
    exact this.mono (fun e w' h => ⟨by rw [h.1]; exact congrArg (fun z : Nat => Ending.returned (.int .i64 z)) e1, by rw [← e2]; exact h.2.1, h.2.2.1⟩))
  have HA5 := Lib.hid (fun wx g (h : BldAt wx w.heap.size g P.K1) (hs : w.heap.size ≤ wx.heap.size) => show Calls Try.prog 11 #[.pointer (some ⟨g, 0, none⟩), S [98], S lg] wx fun e w' => e = .returned (.int .i64 3) ∧ BldAt w' w.heap.size g P.K1 ∧ Below w.heap.size wx w' from by
    have hf := (P.add_long (l := P.K1) (k := [98]) (v := lg) (.inr (by omega)))
    have := add_at h [98] lg (by first | decide | (rw [hlen]; decide) | (rw [HT.out]; decide)) (by first | decide | (rw [hlen]; decide) | (rw [HT.out]; decide)) (by decide) hs
    have e1 := hf.1
    have e2 := hf.2
    exact this.mono (fun e w' h => ⟨by rw [h.1]; exact congrArg (fun z : Nat => Ending.returned (.int .i64 z)) e1, by rw [← e2]; exact h.2.1, h.2.2.1⟩))
  have HN1 := Lib.hid (fun wx g (h : BldAt wx w.heap.size g []) (hs : w.heap.size ≤ wx.heap.size) (gx : Nat) (hz : BlkZ wx gx) => show Calls Try.prog 11 #[.pointer (some ⟨g, 0, none⟩), S [], S (lg.take 1024)] wx fun e w' => e = .returned (.int .i64 0) ∧ (BldAt w' w.heap.size g [⟨[], lg.take 1024⟩] ∧ BlkZ w' gx) ∧ Below w.heap.size wx w' from by
    have hf := (P.add_first (v := lg.take 1024) (by rw [HT.out]; omega))
    have := add_z h hz [] (lg.take 1024) (by first | decide | (rw [hlen]; decide) | (rw [HT.out]; decide)) (by first | decide | (rw [hlen]; decide) | (rw [HT.out]; decide)) (by decide) hs
    have e1 := hf.1
    have e2 := hf.2
    exact this.mono (fun e w' h => ⟨by rw [h.1]; exact congrArg (fun z : Nat => Ending.returned (.int .i64 z)) e1, by rw [← e2]; exact h.2.1, h.2.2⟩))
  have HN2 := Lib.hid (fun wx g (h : BldAt wx w.heap.size g [⟨[], lg.take 1024⟩]) (hs : w.heap.size ≤ wx.heap.size) (gx : Nat) (hz : BlkZ wx gx) => show Calls Try.prog 11 #[.pointer (some ⟨g, 0, none⟩), S [0], S []] wx fun e w' => e = .returned (.int .i64 0) ∧ BlkZ w' gx ∧ Below w.heap.size wx w' from by
    have hf := P.add_second (v := lg.take 1024)
    have := add_z h hz [0] [] (by decide) (by decide) (by simp) hs
    exact this.mono (fun e w' h => ⟨by rw [h.1]; exact congrArg (fun z : Nat => Ending.returned (.int .i64 z)) hf, h.2.1.2, h.2.2⟩))
  have HSz := Lib.hid (fun wx g (h : BldAt wx w.heap.size g []) => show Calls Try.prog 9 #[.pointer (some ⟨g, 0, none⟩)] wx fun e w' => e = .returned (.int .i64 4) ∧ Below wx.heap.size wx w' from
    (size_at h (by decide)).mono (fun e w' h => ⟨by rw [h.1, P.bytes0]; rfl, h.2⟩))
  have HC0 := Lib.hid (fun wx g (h : BldAt wx w.heap.size g []) => show Calls Try.prog 10 #[.pointer (some ⟨g, 0, none⟩)] wx fun e w' => e = .returned (.int .i64 0) ∧ Below wx.heap.size wx w' from count_at h)
  have HC1 := Lib.hid (fun wx g (h : BldAt wx w.heap.size g P.K1) => show Calls Try.prog 10 #[.pointer (some ⟨g, 0, none⟩)] wx fun e w' => e = .returned (.int .i64 1) ∧ Below wx.heap.size wx w' from count_at h)
  have HF := Lib.hid (fun wx g (h : BldAt wx w.heap.size g []) (hs : w.heap.size ≤ wx.heap.size) => show Calls Try.prog 12 #[.pointer (some ⟨g, 0, none⟩)] wx fun e w' => e = .returned (S [0, 0, 0, 0]) ∧ BldAt w' w.heap.size g [] ∧ Below w.heap.size wx w' from
    (finish_at h (by decide) hs).mono (fun e w' q => ⟨by rw [q.1, P.bytes0], q.2.1, q.2.2.1⟩))
  have HO1 := Lib.hid (fun wx => open_yes P.opens0 (by decide) wx)
  have HO2 := Lib.hid (fun wx => open_not P.opens_not0 (by decide) wx)
  clear hlen
  have hlen := Hlg.out
  have Hf1 := Lib.hid (show BldAt ((w.alloc (.cells cs 5)).alloc (.cells #[.slice none 0 0, .slice none 0 0, .int .i64 0, S []] 26)) w.heap.size (w.heap.size + 1) [] from by
    have h := BldAt.fresh (w.alloc (.cells cs 5)) w.heap.size hc0.size
    rwa [show (w.alloc (.cells cs 5)).heap.size = w.heap.size + 1 by simp] at h)
  go_enter Try.func3, Try.ntmps3
  go_wp2_with (first
    | ((with_reducible show wpList _ _ _ (⟨_, .convert 22 9 _, _, _, _, _⟩ :: _) _ _); refine wpList_conv_str 5 5 w.heap.size 0 1025 1025 lg lg (by rfl) Try.underlying22 Try.underlying5 Try.underlying9 hblk (by rw [Hlg.out]; omega) Hd0.out ?_; clear hmk hblk)
    | (go_at_call 9; (with_reducible refine (HSz.out _ _ Hf1.out).mono ?_); rintro e w1 ⟨rfl, hb1⟩; have hd1 := Hf1.out.up hb1; have hc1 := Chain.up (hc0.alloc hc0.size _) hb1)
    | (go_at_call 10; (with_reducible refine (HC0.out _ _ hd1).mono ?_); rintro e w2 ⟨rfl, hb2⟩; have hd2 := hd1.up hb2; have hc2 := Chain.up hc1 hb2)
    | (go_at_call 11; (with_reducible refine (HA1.out _ _ hd2 hc2.size).mono ?_); rintro e w3 ⟨rfl, hd3, hb3⟩; have hc3 := hc2.trans hb3)
    | (go_at_call 11; (with_reducible refine (HA2.out _ _ hd3 hc3.size).mono ?_); rintro e w4 ⟨rfl, hd4, hb4⟩; have hc4 := hc3.trans hb4)
    | (go_at_call 11; (with_reducible refine (HA3.out _ _ hd4 hc4.size).mono ?_); rintro e w5 ⟨rfl, hd5, hb5⟩; have hc5 := hc4.trans hb5)
    | (go_at_call 11; (with_reducible refine (HA4.out _ _ hd5 hc5.size).mono ?_); rintro e w6 ⟨rfl, hd6, hb6⟩; have hc6 := hc5.trans hb6)
    | (go_at_call 11; (with_reducible refine (HA5.out _ _ hd6 hc6.size).mono ?_); rintro e w7 ⟨rfl, hd7, hb7⟩; have hc7 := hc6.trans hb7)
    | (go_at_call 10; (with_reducible refine (HC1.out _ _ hd7).mono ?_); rintro e w8 ⟨rfl, hb8⟩; have hc8 := Chain.up hc7 hb8)
    | (go_at_call 12; (with_reducible refine (HF.out _ _ (BldAt.fresh _ w.heap.size hc8.size) (hc8.alloc hc8.size _).size).mono ?_); rintro e w9 ⟨rfl, hd9, hb9⟩; have hc9 := (hc8.alloc hc8.size _).trans hb9)
    | (go_at_call 13; (with_reducible refine (HO1.out _).mono ?_); rintro e w10 ⟨⟨gx, rfl, hk10⟩, hb10⟩; have hz10 := BlkZ.of hk10; have hd10 := hd9.up hb10; have hc10 := Chain.up hc9 hb10)
    | (go_at_call 13; (with_reducible refine (HO2.out _).mono ?_); rintro e w11 ⟨rfl, hb11⟩; have hz11 := hz10.up hb11; have hd11 := hd10.up hb11; have hc11 := Chain.up hc10 hb11)
    | (go_at_call 11; (with_reducible refine (HN1.out _ _ hd11 hc11.size _ hz11).mono ?_); rintro e w12 ⟨rfl, ⟨hd12, hz12⟩, hb12⟩; have hc12 := hc11.trans hb12)
    | (go_at_call 11; (with_reducible refine (HN2.out _ _ hd12 hc12.size _ hz12).mono ?_); rintro e w13 ⟨rfl, hz13, hb13⟩; have hc13 := hc12.trans hb13)
    | ((fail_if_success (have := hc14)); go_at_call 14; (with_reducible refine (at_nil _).mono ?_); rintro e w14 ⟨rfl, hb14⟩; have hz14 := hz13.up hb14; have hc14 := Chain.up hc13 hb14)
    | ((fail_if_success (have := hc15)); go_at_call 15; (with_reducible refine (len_z hz14).mono ?_); rintro e w15 ⟨rfl, hb15⟩; have hz15 := hz14.up hb15; have hc15 := Chain.up hc14 hb15)
    | ((fail_if_success (have := hc16)); go_at_call 16; (with_reducible refine (seek_z hz15 _).mono ?_); rintro e w16 ⟨rfl, hb16⟩; have hz16 := hz15.up hb16; have hc16 := Chain.up hc15 hb16)
    | ((fail_if_success (have := hc17)); go_at_call 11; (with_reducible refine (addb_nil _).mono ?_); rintro e w17 ⟨rfl, hb17⟩; have hz17 := hz16.up hb17; have hc17 := Chain.up hc16 hb17)
    | ((fail_if_success (have := hc18)); go_at_call 10; (with_reducible refine (count_nil _).mono ?_); rintro e w18 ⟨rfl, hb18⟩; have hz18 := hz17.up hb18; have hc18 := Chain.up hc17 hb18)
    | ((fail_if_success (have := hc19)); go_at_call 9; (with_reducible refine (size_nil _).mono ?_); rintro e w19 ⟨rfl, hb19⟩; have hz19 := hz18.up hb19; have hc19 := Chain.up hc18 hb19)
    | ((fail_if_success (have := hc20)); go_at_call 12; (with_reducible refine (finish_nil _).mono ?_); rintro e w20 ⟨rfl, hb20⟩; have hz20 := hz19.up hb20; have hc20 := Chain.up hc19 hb20)
    | ((fail_if_success (have := hc21)); go_at_call 15; (with_reducible refine (len_nil _).mono ?_); rintro e w21 ⟨rfl, hb21⟩; have hz21 := hz20.up hb21; have hc21 := Chain.up hc20 hb21)
    | ((fail_if_success (have := hc22)); go_at_call 16; (with_reducible refine (seek_nil _ _).mono ?_); rintro e w22 ⟨rfl, hb22⟩; have hz22 := hz21.up hb22; have hc22 := Chain.up hc21 hb22)
    | (go_at_call 17; (with_reducible refine (awake_any _).mono ?_); rintro e w23 ⟨rfl, hb23⟩; have hc23 := Chain.up hc22 hb23))
  go_ret
  exact ⟨rfl, hc23⟩
end Go.Proofs.Ythaiekilifoegaa
