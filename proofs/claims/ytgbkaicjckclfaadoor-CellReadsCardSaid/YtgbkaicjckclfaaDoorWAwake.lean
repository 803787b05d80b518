/- The walk of awake: it answers true. -/
import Derived.Test.YtgbkaicjckclfaaDoorWRead
namespace Go.Proofs.YtgbkaicjckclfaaDoor
open Go.RowKit

/-- awake's cell. -/
def cellAb : P.Cell := ⟨true, true, 0, [97, 98]⟩
def bytesAb : List UInt8 := P.bytesOf cellAb
theorem ab_may : P.may ⟨true, true, 0, [97, 98]⟩ = true := by decide
theorem ab_len : bytesAb.length = 32 := P.bytesOf_length _ (by decide)
theorem ab_six : bytesAb.take 6 = [67, 2, 0, 0, 97, 98] := rfl
theorem ab_read : P.read bytesAb = cellAb := P.read_bytes _ ab_may
theorem ab_reads : P.reads bytesAb = true := P.reads_bytes _ ab_may
theorem crc_nine : (n32 (P.crc [49, 50, 51, 52, 53, 54, 55, 56, 57]) == 3421780262) = true := by decide +kernel

theorem strs_two (w : World) (l m : List UInt8) (t : TypeId) : StrsAt (w.alloc (.cells #[S l, S m] t)) (some ⟨w.heap.size, 0, none⟩) [l, m] := by
  intro i hi
  rcases i with _ | _ | i
  · exact ⟨w.heap.size, 0, rfl, by simp, by simp⟩
  · exact ⟨w.heap.size, 0, rfl, by simp, by simp⟩
  · simp at hi; omega
/-- The sum of two texts, handed over in a new slice. -/
theorem crc_two (l m : List UInt8) (t : TypeId) (w : World) (g : Nat) (hg : g = w.heap.size) (hl : l.length ≤ 9223372036854775807) (hm : m.length ≤ 9223372036854775807) (ht : TabOk w) :
    Calls Tryd.prog 11 #[.slice (some ⟨g, 0, none⟩) 2 2] (w.alloc (.cells #[S l, S m] t)) fun e w' => e = .returned (W32 (P.crc (l ++ m))) ∧ Below w.heap.size w w' := by
  subst hg
  have h := crc_any (some ⟨w.heap.size, 0, none⟩) 2 [l, m] (w.alloc (.cells #[S l, S m] t)) (by simp) (by simp; exact ⟨hl, hm⟩) (strs_two w l m t) (ht.alloc _)
  simp only [List.flatten_cons, List.flatten_nil, List.append_nil] at h
  exact h.mono fun e w' ⟨he, hb⟩ => ⟨he, ((Below.refl _ _).alloc (Nat.le_refl _) _).trans (hb.mono (by simp))⟩

theorem make_ab (w : World) (ht : TabOk w) : Calls Tryd.prog 10 #[.agg #[.bool true, .bool true, .int .i64 0, S [97, 98]]] w fun e w' => e = .returned (.tuple #[S bytesAb, .int .i64 0]) ∧ Below w.heap.size w w' :=
  make_yes true true 0 [97, 98] w ab_may ht
theorem read_ab (w : World) (ht : TabOk w) : Calls Tryd.prog 16 #[S bytesAb] w fun e w' => e = .returned (.tuple #[.agg #[.bool true, .bool true, .int .i64 0, S [97, 98]], .bool true]) ∧ Below w.heap.size w w' := by
  have h := read_any bytesAb w (by rw [ab_len]; omega) ht
  rw [ab_read, ab_reads] at h
  exact h
theorem ab_ext : (ByteArray.mk bytesAb.toArray).extract 0 6 = ⟨#[67, 2, 0, 0, 97, 98]⟩ := by
  rw [ByteArray.extract_mk, List.drop_zero, ab_six]
attribute [local go_sem] ab_ext ab_len

set_option maxHeartbeats 1000000 in
theorem awake_any (w : World) (ht : TabOk w) : Calls Tryd.prog 12 #[] w fun e w' => e = .returned (.bool true) ∧ Below w.heap.size w w' := by
  have hnine := crc_nine
  go_enter Tryd.func12, Tryd.ntmps12
  go_wp2_with (first
    | (go_at_call 10; refine (make_ab _ ht).mono ?_; rintro e w1 ⟨rfl, hb1⟩; have ht1 := ht.up hb1; have hs1 := hb1.size)
    | (go_at_call 16; refine (read_ab _ ht1).mono ?_; rintro e w2 ⟨rfl, hb2⟩; have ht2 := ht1.up hb2; have hs2 := hb2.size; have ht3 := ht2.alloc (.cells #[.bool true, .bool true, .int .i64 0, S [97, 98]] 23))
    | (go_at_call 11; refine (crc_two [49, 50, 51, 52] [53, 54, 55, 56, 57] _ _ _ (by simp) (by decide) (by decide) ht3).mono ?_; rintro e w4 ⟨rfl, hb4⟩; obtain ⟨x0, x1, x2, x3, hs4, hb5⟩ := box4 hb4))
  go_ret
  exact ⟨rfl, (hb1.trans (hb2.mono hs1)).trans (hb5.mono (by omega))⟩
end Go.Proofs.YtgbkaicjckclfaaDoor
