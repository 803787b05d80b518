/- CellBursts: the sums of two texts that differ in at most four bytes side by side differ; a sum does not hang on where a text is cut. The walk of the law. -/
import Derived.Test.YtgbkaicjckclfaaDoorLBurst
import Derived.Deep.RegionHeld3
namespace Go.Proofs.YtgbkaicjckclfaaDoor
open Go.RowKit
set_option linter.unusedVariables false

theorem Chain.up {w wx wy : World} (h : Below w.heap.size w wx) (hb : Below wx.heap.size wx wy) : Below w.heap.size w wy := h.trans (hb.mono h.size)
theorem str_takeN (s : List UInt8) (m : Nat) : (ByteArray.mk s.toArray).extract 0 m = ⟨(s.take m).toArray⟩ := by
  rw [ByteArray.extract_mk]
  simp
theorem str_dropN (s : List UInt8) (k : Nat) : (ByteArray.mk s.toArray).extract k s.length = ⟨(s.drop k).toArray⟩ := by
  rw [ByteArray.extract_mk]
  congr 2
  exact List.take_of_length_le (by simp)
theorem crc_at1 (l : List UInt8) (hl : l.length ≤ 9223372036854775807) (w : World) (g : Nat) (h : w.cell? ⟨g, 0, none⟩ = some (S l)) (ht : TabOk w) :
    Calls Tryd.prog 11 #[.slice (some ⟨g, 0, none⟩) 1 1] w fun e w' => e = .returned (W32 (P.crc l)) ∧ Below w.heap.size w w' := by
  have h := crc_any (some ⟨g, 0, none⟩) 1 [l] w (by simp) (by simpa using hl) (fun i hi => by
    obtain rfl : i = 0 := by simp at hi; exact hi
    exact ⟨g, 0, rfl, World.block_lt_of_cell? w _ h, h⟩) ht
  simp only [List.flatten_cons, List.flatten_nil, List.append_nil] at h
  exact h
theorem crc_at2 (l m : List UInt8) (hl : l.length ≤ 9223372036854775807) (hm : m.length ≤ 9223372036854775807) (w : World) (g : Nat) (h : w.cell? ⟨g, 0, none⟩ = some (S l) ∧ w.cell? ⟨g, 1, none⟩ = some (S m)) (ht : TabOk w) :
    Calls Tryd.prog 11 #[.slice (some ⟨g, 0, none⟩) 2 2] w fun e w' => e = .returned (W32 (P.crc (l ++ m))) ∧ Below w.heap.size w w' := by
  have h := crc_any (some ⟨g, 0, none⟩) 2 [l, m] w (by simp) (by simp; exact ⟨hl, hm⟩) (fun i hi => by
    rcases i with _ | _ | i
    · exact ⟨g, 0, rfl, World.block_lt_of_cell? w _ h.1, h.1⟩
    · exact ⟨g, 0, rfl, World.block_lt_of_cell? w _ h.1, h.2⟩
    · simp at hi; omega) ht
  simp only [List.flatten_cons, List.flatten_nil, List.append_nil] at h
  exact h

attribute [local go_sem] str_takeN str_dropN

set_option maxRecDepth 100000 in
set_option maxHeartbeats 4000000 in
theorem bursts_eq (s : List UInt8) (p k : Nat) (m : BitVec 32) (w : World) (hs : s.length ≤ 3000) (he : s = P.turned s (p % s.length) m) (h0 : 1 ≤ s.length) (hp : p < 65536) (hk : k < 65536) (ht : TabOk w) :
    Calls Tryd.prog 9 #[S s, .int .u16 p, .int .u16 k, W32 m] w fun e w' => e = .returned (.bool true) ∧ Below w.heap.size w w' := by
  have hpm : p % s.length < s.length := Nat.mod_lt _ h0
  have hkm : k % s.length < s.length := Nat.mod_lt _ h0
  have HT := Lib.hid (fun W => turned_any s (p % s.length) m W (by omega) (by omega))
  have htl := P.turned_length s (p % s.length) m
  have hcr := P.turned_crc s (p % s.length) m
  have Hs := Lib.hid (fun w g => crc_at1 s (by omega) w g)
  have Ht := Lib.hid (fun w g => crc_at1 (P.turned s (p % s.length) m) (by omega) w g)
  have H2 := Lib.hid (fun w g => crc_at2 (s.take (k % s.length)) (s.drop (k % s.length)) (by simp; omega) (by simp; omega) w g)
  rw [List.take_append_drop] at H2
  rw [Int.natCast_emod] at HT
  have heq : (s == P.turned s (p % s.length) m) = true := beq_iff_eq.2 he
  have hne : (n32 (P.crc s) == n32 (P.crc (P.turned s (p % s.length) m))) = true := by rw [← he]; simp
  clear hcr he
  generalize P.turned s (p % s.length) m = t at *
  generalize P.crc s = cs at *
  generalize P.crc t = ct at *
  go_enter Tryd.func9, Tryd.ntmps9
  go_wp2_with (go_at_call 18; (with_reducible refine (HT.out _).mono ?_); rintro e w1 ⟨rfl, hb1⟩)
  have h1 : Below w.heap.size w w1 := hb1
  rw [← Int.natCast_emod k]
  generalize k % s.length = j at *
  have hj0 : (0 : Int) ≤ (j : Int) := by omega
  have hj1 : (j : Int) ≤ (s.length : Int) := by omega
  go_region_held3 (fun wx => Below w.heap.size w wx) (first | exact h1.drew | exact Chain.up (by assumption) hbL | exact Below.alloc (by assumption) (Below.size (by assumption)) _) (first
    | (go_at_call 12; (with_reducible refine (awake_any _ ?ht).mono ?_); (case ht => exact ht.up (by assumption)); rintro e w2 ⟨rfl, hbL⟩)
    | (go_at_call 11; (with_reducible refine (Hs.out _ _ ?hc ?ht).mono ?_); (case hc => first | (simp; done) | (refine (hbL.cell ?_).trans ?_; (simp; try omega); (simp; done))); (case ht => exact ht.up (by assumption)); rintro e w2 ⟨rfl, hbL⟩)
    | (go_at_call 11; (with_reducible refine (Ht.out _ _ ?hc ?ht).mono ?_); (case hc => first | (simp; done) | (refine (hbL.cell ?_).trans ?_; (simp; try omega); (simp; done))); (case ht => exact ht.up (by assumption)); rintro e w2 ⟨rfl, hbL⟩)
    | (go_at_call 11; (with_reducible refine (H2.out _ _ ?hc ?ht).mono ?_); (case hc => first | (simp; done) | (refine (hbL.cell ?_).trans ?_; (simp; try omega); (simp; done))); (case ht => exact ht.up (by assumption)); rintro e w2 ⟨rfl, hbL⟩))
  all_goals
    go_wp2_with fail
    go_ret
    exact ⟨rfl, by assumption⟩

set_option maxRecDepth 100000 in
set_option maxHeartbeats 4000000 in
theorem bursts_ne (s : List UInt8) (p k : Nat) (m : BitVec 32) (w : World) (hs : s.length ≤ 3000) (he : ¬ s = P.turned s (p % s.length) m) (h0 : 1 ≤ s.length) (hp : p < 65536) (hk : k < 65536) (ht : TabOk w) :
    Calls Tryd.prog 9 #[S s, .int .u16 p, .int .u16 k, W32 m] w fun e w' => e = .returned (.bool true) ∧ Below w.heap.size w w' := by
  have hpm : p % s.length < s.length := Nat.mod_lt _ h0
  have hkm : k % s.length < s.length := Nat.mod_lt _ h0
  have HT := Lib.hid (fun W => turned_any s (p % s.length) m W (by omega) (by omega))
  have htl := P.turned_length s (p % s.length) m
  have hcr := P.turned_crc s (p % s.length) m
  have Hs := Lib.hid (fun w g => crc_at1 s (by omega) w g)
  have Ht := Lib.hid (fun w g => crc_at1 (P.turned s (p % s.length) m) (by omega) w g)
  have H2 := Lib.hid (fun w g => crc_at2 (s.take (k % s.length)) (s.drop (k % s.length)) (by simp; omega) (by simp; omega) w g)
  rw [List.take_append_drop] at H2
  rw [Int.natCast_emod] at HT
  have heq : (s == P.turned s (p % s.length) m) = false := beq_eq_false_iff_ne.2 he
  have hne : (n32 (P.crc s) == n32 (P.crc (P.turned s (p % s.length) m))) = false := by
    rw [beq_eq_false_iff_ne]
    intro h
    exact he (hcr (BitVec.eq_of_toNat_eq (by unfold n32 at h; omega)))
  clear hcr he
  generalize P.turned s (p % s.length) m = t at *
  generalize P.crc s = cs at *
  generalize P.crc t = ct at *
  go_enter Tryd.func9, Tryd.ntmps9
  go_wp2_with (go_at_call 18; (with_reducible refine (HT.out _).mono ?_); rintro e w1 ⟨rfl, hb1⟩)
  have h1 : Below w.heap.size w w1 := hb1
  rw [← Int.natCast_emod k]
  generalize k % s.length = j at *
  have hj0 : (0 : Int) ≤ (j : Int) := by omega
  have hj1 : (j : Int) ≤ (s.length : Int) := by omega
  go_region_held3 (fun wx => Below w.heap.size w wx) (first | exact h1.drew | exact Chain.up (by assumption) hbL | exact Below.alloc (by assumption) (Below.size (by assumption)) _) (first
    | (go_at_call 12; (with_reducible refine (awake_any _ ?ht).mono ?_); (case ht => exact ht.up (by assumption)); rintro e w2 ⟨rfl, hbL⟩)
    | (go_at_call 11; (with_reducible refine (Hs.out _ _ ?hc ?ht).mono ?_); (case hc => first | (simp; done) | (refine (hbL.cell ?_).trans ?_; (simp; try omega); (simp; done))); (case ht => exact ht.up (by assumption)); rintro e w2 ⟨rfl, hbL⟩)
    | (go_at_call 11; (with_reducible refine (Ht.out _ _ ?hc ?ht).mono ?_); (case hc => first | (simp; done) | (refine (hbL.cell ?_).trans ?_; (simp; try omega); (simp; done))); (case ht => exact ht.up (by assumption)); rintro e w2 ⟨rfl, hbL⟩)
    | (go_at_call 11; (with_reducible refine (H2.out _ _ ?hc ?ht).mono ?_); (case hc => first | (simp; done) | (refine (hbL.cell ?_).trans ?_; (simp; try omega); (simp; done))); (case ht => exact ht.up (by assumption)); rintro e w2 ⟨rfl, hbL⟩))
  all_goals
    go_wp2_with fail
    go_ret
    exact ⟨rfl, by assumption⟩

set_option maxRecDepth 100000 in
set_option maxHeartbeats 4000000 in
theorem bursts_eq_long (s s0 : List UInt8) (p k : Nat) (m : BitVec 32) (w : World) (hbig : 3000 < s0.length) (hqs : s0.take 3000 = s) (hs : s.length ≤ 3000) (he : s = P.turned s (p % s.length) m) (h0 : 1 ≤ s.length) (hp : p < 65536) (hk : k < 65536) (ht : TabOk w) :
    Calls Tryd.prog 9 #[S s0, .int .u16 p, .int .u16 k, W32 m] w fun e w' => e = .returned (.bool true) ∧ Below w.heap.size w w' := by
  have hpm : p % s.length < s.length := Nat.mod_lt _ h0
  have hkm : k % s.length < s.length := Nat.mod_lt _ h0
  have HT := Lib.hid (fun W => turned_any s (p % s.length) m W (by omega) (by omega))
  have htl := P.turned_length s (p % s.length) m
  have hcr := P.turned_crc s (p % s.length) m
  have Hs := Lib.hid (fun w g => crc_at1 s (by omega) w g)
  have Ht := Lib.hid (fun w g => crc_at1 (P.turned s (p % s.length) m) (by omega) w g)
  have H2 := Lib.hid (fun w g => crc_at2 (s.take (k % s.length)) (s.drop (k % s.length)) (by simp; omega) (by simp; omega) w g)
  rw [List.take_append_drop] at H2
  rw [Int.natCast_emod] at HT
  have heq : (s == P.turned s (p % s.length) m) = true := beq_iff_eq.2 he
  have hne : (n32 (P.crc s) == n32 (P.crc (P.turned s (p % s.length) m))) = true := by rw [← he]; simp
  clear hcr he
  generalize P.turned s (p % s.length) m = t at *
  generalize P.crc s = cs at *
  generalize P.crc t = ct at *
  go_enter Tryd.func9, Tryd.ntmps9
  go_wp2_with (go_at_call 18; (with_reducible refine (HT.out _).mono ?_); rintro e w1 ⟨rfl, hb1⟩)
  have h1 : Below w.heap.size w w1 := hb1
  rw [← Int.natCast_emod k]
  generalize k % s.length = j at *
  have hj0 : (0 : Int) ≤ (j : Int) := by omega
  have hj1 : (j : Int) ≤ (s.length : Int) := by omega
  go_region_held3 (fun wx => Below w.heap.size w wx) (first | exact h1.drew | exact Chain.up (by assumption) hbL | exact Below.alloc (by assumption) (Below.size (by assumption)) _) (first
    | (go_at_call 12; (with_reducible refine (awake_any _ ?ht).mono ?_); (case ht => exact ht.up (by assumption)); rintro e w2 ⟨rfl, hbL⟩)
    | (go_at_call 11; (with_reducible refine (Hs.out _ _ ?hc ?ht).mono ?_); (case hc => first | (simp; done) | (refine (hbL.cell ?_).trans ?_; (simp; try omega); (simp; done))); (case ht => exact ht.up (by assumption)); rintro e w2 ⟨rfl, hbL⟩)
    | (go_at_call 11; (with_reducible refine (Ht.out _ _ ?hc ?ht).mono ?_); (case hc => first | (simp; done) | (refine (hbL.cell ?_).trans ?_; (simp; try omega); (simp; done))); (case ht => exact ht.up (by assumption)); rintro e w2 ⟨rfl, hbL⟩)
    | (go_at_call 11; (with_reducible refine (H2.out _ _ ?hc ?ht).mono ?_); (case hc => first | (simp; done) | (refine (hbL.cell ?_).trans ?_; (simp; try omega); (simp; done))); (case ht => exact ht.up (by assumption)); rintro e w2 ⟨rfl, hbL⟩))
  all_goals
    go_wp2_with fail
    go_ret
    exact ⟨rfl, by assumption⟩

set_option maxRecDepth 100000 in
set_option maxHeartbeats 4000000 in
theorem bursts_ne_long (s s0 : List UInt8) (p k : Nat) (m : BitVec 32) (w : World) (hbig : 3000 < s0.length) (hqs : s0.take 3000 = s) (hs : s.length ≤ 3000) (he : ¬ s = P.turned s (p % s.length) m) (h0 : 1 ≤ s.length) (hp : p < 65536) (hk : k < 65536) (ht : TabOk w) :
    Calls Tryd.prog 9 #[S s0, .int .u16 p, .int .u16 k, W32 m] w fun e w' => e = .returned (.bool true) ∧ Below w.heap.size w w' := by
  have hpm : p % s.length < s.length := Nat.mod_lt _ h0
  have hkm : k % s.length < s.length := Nat.mod_lt _ h0
  have HT := Lib.hid (fun W => turned_any s (p % s.length) m W (by omega) (by omega))
  have htl := P.turned_length s (p % s.length) m
  have hcr := P.turned_crc s (p % s.length) m
  have Hs := Lib.hid (fun w g => crc_at1 s (by omega) w g)
  have Ht := Lib.hid (fun w g => crc_at1 (P.turned s (p % s.length) m) (by omega) w g)
  have H2 := Lib.hid (fun w g => crc_at2 (s.take (k % s.length)) (s.drop (k % s.length)) (by simp; omega) (by simp; omega) w g)
  rw [List.take_append_drop] at H2
  rw [Int.natCast_emod] at HT
  have heq : (s == P.turned s (p % s.length) m) = false := beq_eq_false_iff_ne.2 he
  have hne : (n32 (P.crc s) == n32 (P.crc (P.turned s (p % s.length) m))) = false := by
    rw [beq_eq_false_iff_ne]
    intro h
    exact he (hcr (BitVec.eq_of_toNat_eq (by unfold n32 at h; omega)))
  clear hcr he
  generalize P.turned s (p % s.length) m = t at *
  generalize P.crc s = cs at *
  generalize P.crc t = ct at *
  go_enter Tryd.func9, Tryd.ntmps9
  go_wp2_with (go_at_call 18; (with_reducible refine (HT.out _).mono ?_); rintro e w1 ⟨rfl, hb1⟩)
  have h1 : Below w.heap.size w w1 := hb1
  rw [← Int.natCast_emod k]
  generalize k % s.length = j at *
  have hj0 : (0 : Int) ≤ (j : Int) := by omega
  have hj1 : (j : Int) ≤ (s.length : Int) := by omega
  go_region_held3 (fun wx => Below w.heap.size w wx) (first | exact h1.drew | exact Chain.up (by assumption) hbL | exact Below.alloc (by assumption) (Below.size (by assumption)) _) (first
    | (go_at_call 12; (with_reducible refine (awake_any _ ?ht).mono ?_); (case ht => exact ht.up (by assumption)); rintro e w2 ⟨rfl, hbL⟩)
    | (go_at_call 11; (with_reducible refine (Hs.out _ _ ?hc ?ht).mono ?_); (case hc => first | (simp; done) | (refine (hbL.cell ?_).trans ?_; (simp; try omega); (simp; done))); (case ht => exact ht.up (by assumption)); rintro e w2 ⟨rfl, hbL⟩)
    | (go_at_call 11; (with_reducible refine (Ht.out _ _ ?hc ?ht).mono ?_); (case hc => first | (simp; done) | (refine (hbL.cell ?_).trans ?_; (simp; try omega); (simp; done))); (case ht => exact ht.up (by assumption)); rintro e w2 ⟨rfl, hbL⟩)
    | (go_at_call 11; (with_reducible refine (H2.out _ _ ?hc ?ht).mono ?_); (case hc => first | (simp; done) | (refine (hbL.cell ?_).trans ?_; (simp; try omega); (simp; done))); (case ht => exact ht.up (by assumption)); rintro e w2 ⟨rfl, hbL⟩))
  all_goals
    go_wp2_with fail
    go_ret
    exact ⟨rfl, by assumption⟩

theorem bursts_nil (p k : Nat) (m : BitVec 32) (w : World) (ht : TabOk w) :
    Calls Tryd.prog 9 #[S [], .int .u16 p, .int .u16 k, W32 m] w fun e w' => e = .returned (.bool true) ∧ Below w.heap.size w w' := by
  have H := Lib.hid (fun w g hg ht => crc_two [] [] 9 w g hg (by simp) (by simp) ht)
  rw [show P.crc ([] ++ []) = 0#32 by decide] at H
  go_enter Tryd.func9, Tryd.ntmps9
  go_wp2_with (first
    | (go_at_call 11; (with_reducible refine (H.out _ _ ?hg ?ht).mono ?_); (case hg => simp); (case ht => exact ht); rintro e w2 ⟨rfl, hb2⟩)
    | (go_at_call 12; (with_reducible refine (awake_any _ (ht.up hb2)).mono ?_); rintro e w3 ⟨rfl, hb3⟩))
  go_ret
  exact ⟨rfl, Chain.up hb2 hb3⟩

theorem law_bursts (s : List UInt8) (x y z : Int) (w : World) (hs : s.length ≤ 9223372036854775807) (hx : (Lit.int .u16 x).wf = true) (hy : (Lit.int .u16 y).wf = true) (hz : (Lit.int .u32 z).wf = true) (ht : TabOk w) :
    Calls Tryd.prog 9 #[S s, .int .u16 x, .int .u16 y, .int .u32 z] w fun e w' => e = .returned (.bool true) ∧ Below w.heap.size w w' := by
  obtain ⟨p, rfl, hp⟩ := u16_of hx
  obtain ⟨k, rfl, hk⟩ := u16_of hy
  obtain ⟨m, rfl⟩ := mask_of hz
  by_cases hbig : 3000 < s.length
  · by_cases he : s.take 3000 = P.turned (s.take 3000) (p % (s.take 3000).length) m
    · exact bursts_eq_long (s.take 3000) s p k m w hbig rfl (by simp; omega) he (by simp; omega) hp hk ht
    · exact bursts_ne_long (s.take 3000) s p k m w hbig rfl (by simp; omega) he (by simp; omega) hp hk ht
  · by_cases h0 : s.length = 0
    · obtain rfl := List.length_eq_zero_iff.1 h0
      exact bursts_nil p k m w ht
    · by_cases he : s = P.turned s (p % s.length) m
      · exact bursts_eq s p k m w (by omega) he (by omega) hp hk ht
      · exact bursts_ne s p k m w (by omega) he (by omega) hp hk ht
end Go.Proofs.YtgbkaicjckclfaaDoor
