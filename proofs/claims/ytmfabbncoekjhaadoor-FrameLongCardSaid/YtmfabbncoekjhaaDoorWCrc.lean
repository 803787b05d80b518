/- The walk of cell.Crc: the sum of texts is the sum of them as one. -/
import Derived.Test.YtmfabbncoekjhaaDoorProg
import Derived.Test.YtmfabbncoekjhaaDoorWords
namespace Go.Proofs.YtmfabbncoekjhaaDoor
open Go.RowKit

/-- The nibble table lies in the first variable. -/
def TabOk (w : World) : Prop := 0 < w.heap.size ∧ ∀ i, i < 16 → w.cell? ⟨0, i, none⟩ = some (W32 (P.tabAt i))
theorem TabOk.below {w w' : World} {B : Nat} (h : TabOk w) (hb : Below B w w') (hB : 0 < B) : TabOk w' :=
  ⟨Nat.lt_of_lt_of_le h.1 hb.size, fun i hi => (hb.cell (p := ⟨0, i, none⟩) hB).trans (h.2 i hi)⟩
theorem TabOk.up {w w' : World} (h : TabOk w) (hb : Below w.heap.size w w') : TabOk w' := h.below hb h.1

/-- A slice of strings that reads as a list of texts. -/
def StrsAt (w : World) (a : Option Addr) (ps : List (List UInt8)) : Prop := ∀ (i : Nat) (h : i < ps.length), ∃ b o, a = some ⟨b, o, none⟩ ∧ b < w.heap.size ∧ w.cell? ⟨b, o + i, none⟩ = some (S ps[i])

theorem strs_one (w : World) (l : List UInt8) (t : TypeId) : StrsAt (w.alloc (.cells #[S l] t)) (some ⟨w.heap.size, 0, none⟩) [l] := by
  intro i hi
  obtain rfl : i = 0 := by simp at hi; exact hi
  exact ⟨w.heap.size, 0, rfl, by simp, by simp⟩
theorem TabOk.alloc {w : World} (h : TabOk w) (o : Obj) : TabOk (w.alloc o) := h.up ((Below.refl _ _).alloc (Nat.le_refl _) o)

theorem TabOk.drew {w : World} (h : TabOk w) : TabOk w.drew := h

attribute [local go_sem] b32_xor b32_and15 b32_shr4 b32_byte b32_not nib4 low4_lt'

set_option maxHeartbeats 400000 in
theorem crc_any (a : Option Addr) (c : Nat) (ps : List (List UInt8)) (w : World) (hn : ps.length ≤ 9223372036854775807) (hl : ∀ l ∈ ps, l.length ≤ 9223372036854775807) (hp : StrsAt w a ps) (ht : TabOk w) :
    Calls Tryd.prog 30 #[.slice a ps.length c] w fun e w' => e = .returned (W32 (P.crc ps.flatten)) ∧ Below w.heap.size w w' := by
  have Hl := Lib.hid hl
  clear hl
  go_enter Tryd.func30, Tryd.ntmps30
  go_wp2_with fail
  go_loopw [3, 10] (fun s i wr => ∃ k : Nat, k ≤ ps.length ∧ i = .int .i64 k ∧ s = W32 (P.crcRaw (ps.take k).flatten) ∧ Below w.heap.size w wr) (fun _ i _ => ps.length - (intOf i).toNat)
  case atStart => exact ⟨0, by omega, rfl, rfl, Below.refl _ _⟩
  case round =>
    obtain ⟨k, hk, rfl, rfl, hbel⟩ := hrel
    by_cases hlt : k < ps.length
    · obtain ⟨b, o, rfl, hb, hc⟩ := hp k hlt
      have hc' := (hbel.cell (p := ⟨b, o + k, none⟩) hb).trans hc
      clear hc
      have hll := Hl.out ps[k] (List.getElem_mem _)
      have Hnext := Lib.hid (show P.crcRaw (ps.take (k + 1)).flatten = P.crcOn (P.crcRaw (ps.take k).flatten) ps[k] by
        rw [List.take_succ_eq_append_getElem hlt, List.flatten_append, P.crcRaw_append]; simp)
      generalize P.crcRaw (ps.take k).flatten = r0 at *
      generalize ps[k] = l at *
      go_wp2_with (refine wpList_conv_bytes l rfl 5 Tryd.underlying9 Tryd.underlying30 Tryd.underlying5 ?_; intro cap w1 hb1 hbel1 hsz1)
      have hbel2 : Below w.heap.size w w1 := hbel.trans (hbel1.mono hbel.size)
      have ht1 := (ht.below hbel2 ht.1).2
      go_loop [3, 17] (fun s i => ∃ j : Nat, j ≤ l.length ∧ i = .int .i64 j ∧ s = W32 (P.crcOn r0 (l.take j))) (fun _ i => l.length - (intOf i).toNat)
      case atStart => exact ⟨0, by omega, rfl, rfl⟩
      case round =>
        obtain ⟨j, hj, rfl, rfl⟩ := hrel
        by_cases hjt : j < l.length
        · have hcj := hb1 j hjt
          have Hn2 := Lib.hid (show P.crcOn r0 (l.take (j + 1)) = P.crcByte (P.crcOn r0 (l.take j)) l[j] by rw [List.take_succ_eq_append_getElem hjt, P.crcOn_snoc])
          generalize P.crcOn r0 (l.take j) = r1 at *
          have hT1 := ht1 (low4 (r1 ^^^ P.wd l[j])) (low4_lt _)
          have hT2 := ht1 (low4 (P.st4 (r1 ^^^ P.wd l[j]))) (low4_lt _)
          go_wp2
          go_round
          case rel => exact ⟨j + 1, by omega, by go_num, by rw [Hn2.out]; rfl⟩
          case measure => simp [intOf]; omega
        · have hje : j = l.length := by omega
          subst hje
          go_wp2
          go_roundw
          case rel => exact ⟨k + 1, by omega, by go_num, by rw [Hnext.out, List.take_length], hbel2⟩
          case measure => simp [intOf]; omega
    · have hke : k = ps.length := by omega
      subst hke
      rw [List.take_length]
      go_wp2
      go_ret
      exact ⟨rfl, hbel⟩

/-- The sum of one text, handed over in a new slice. -/
theorem crc_one (l : List UInt8) (t : TypeId) (w : World) (hl : l.length ≤ 9223372036854775807) (ht : TabOk w) :
    Calls Tryd.prog 30 #[.slice (some ⟨w.heap.size, 0, none⟩) 1 1] (w.alloc (.cells #[S l] t)) fun e w' => e = .returned (W32 (P.crc l)) ∧ Below w.heap.size w w' := by
  have h := crc_any (some ⟨w.heap.size, 0, none⟩) 1 [l] (w.alloc (.cells #[S l] t)) (by simp) (by simpa using hl) (strs_one w l t) (ht.alloc _)
  simp only [List.flatten_cons, List.flatten_nil, List.append_nil] at h
  exact h.mono fun e w' ⟨he, hb⟩ => ⟨he, ((Below.refl _ _).alloc (Nat.le_refl _) _).trans (hb.mono (by simp))⟩
end Go.Proofs.YtmfabbncoekjhaaDoor
