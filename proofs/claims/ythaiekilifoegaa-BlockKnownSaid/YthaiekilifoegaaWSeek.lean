/- The walks of sort.Search, of the block's Seek and its two closures. -/
import Derived.Test.YthaiekilifoegaaWAt
import Derived.BigQuiet
import Derived.Laws.EntriesVeiled
import Derived.Deep.QuietTactic
namespace Go.Proofs.Ythaiekilifoegaa
open Go.RowKit
set_option linter.unusedVariables false
set_option linter.unusedSimpArgs false

def P.belowB (l : List P.En) (k : List UInt8) (i : Int) : Bool := P.inI l i && Op.bytesLess (P.keyI l i) k

set_option maxRecDepth 100000 in
set_option maxHeartbeats 4000000 in
theorem below_any {w : World} {g gb gk : Nat} {l : List P.En} (h : BlkAt w g l) (hgd : P.Good l) (hsl : (P.upTo l l.length).length ≤ 1000000) (i : Int) (k : List UInt8) (hb : w.cell? ⟨gb, 0, none⟩ = some (.pointer (some ⟨g, 0, none⟩))) (hk : w.cell? ⟨gk, 0, none⟩ = some (S k)) :
    Calls Try.prog 30 #[.int .i64 i, .pointer (some ⟨gb, 0, none⟩), .pointer (some ⟨gk, 0, none⟩)] w fun e w' => e = .returned (.bool (P.belowB l k i)) ∧ Below w.heap.size w w' := by
  have HA := Lib.hid (at_any h hgd hsl i)
  have HB := Lib.hid (show P.belowB l k i = (P.inI l i && Op.bytesLess (P.keyI l i) k) from rfl)
  generalize P.belowB l k i = bb at *
  generalize P.keyI l i = ki at *
  generalize P.valI l i = vi at *
  cases hin : P.inI l i with
  | true =>
    rw [hin] at HA HB
    go_enter Try.func30, Try.ntmps30
    go_wp2_with (go_at_call 14; (with_reducible refine HA.out.mono ?_); rintro e w1 ⟨rfl, hb1⟩; have hk1 := cell_up hb1 hk)
    go_ret
    exact ⟨by rw [HB.out]; rfl, hb1⟩
  | false =>
    rw [hin] at HA HB
    go_enter Try.func30, Try.ntmps30
    go_wp2_with (go_at_call 14; (with_reducible refine HA.out.mono ?_); rintro e w1 ⟨rfl, hb1⟩; have hk1 := cell_up hb1 hk)
    go_ret
    exact ⟨by rw [HB.out]; rfl, hb1⟩

set_option maxRecDepth 100000 in
set_option maxHeartbeats 4000000 in
theorem above_any {w : World} {g gb gk gf : Nat} {l : List P.En} (h : BlkAt w g l) (hgd : P.Good l) (hsl : (P.upTo l l.length).length ≤ 1000000) (r : Nat) (hr : r ≤ 1000000) (k : List UInt8) (hb : w.cell? ⟨gb, 0, none⟩ = some (.pointer (some ⟨g, 0, none⟩))) (hk : w.cell? ⟨gk, 0, none⟩ = some (S k))
    (hf : w.cell? ⟨gf, 0, none⟩ = some (.func (.func 30) #[] #[.pointer (some ⟨gb, 0, none⟩), .pointer (some ⟨gk, 0, none⟩)])) :
    Calls Try.prog 32 #[.int .i64 r, .pointer (some ⟨gf, 0, none⟩)] w fun e w' => e = .returned (.bool (!P.belowB l k ((4 * r : Nat) : Int))) ∧ Below w.heap.size w w' := by
  have HB := Lib.hid (below_any h hgd hsl ((4 * r : Nat) : Int) k hb hk)
  have hr4 : (r : Int) * 4 = ((4 * r : Nat) : Int) := by omega
  have hr4' : 4 * (r : Int) = ((4 * r : Nat) : Int) := by omega
  generalize P.belowB l k ((4 * r : Nat) : Int) = bb at *
  generalize 4 * r = r4 at *
  go_enter Try.func32, Try.ntmps32
  go_wp2_with (go_at_call 30; (with_reducible refine HB.out.mono ?_); rintro e w1 ⟨rfl, hb1⟩)
  go_ret
  exact ⟨rfl, hb1⟩

set_option maxRecDepth 100000 in
set_option maxHeartbeats 4000000 in
theorem search_any (n : Nat) (p : Nat → Bool) (gf : Nat) (w : World) (hn : n ≤ 1000000)
    (hf : ∀ wx, Below w.heap.size w wx → ∀ i, i < n → Calls Try.prog 32 #[.int .i64 i, .pointer (some ⟨gf, 0, none⟩)] wx fun e w' => e = .returned (.bool (p i)) ∧ Below wx.heap.size wx w') :
    Calls Try.prog 31 #[.int .i64 n, .func (.func 32) #[] #[.pointer (some ⟨gf, 0, none⟩)]] w fun e w' => (∃ r, r ≤ n ∧ (0 < r → p (r - 1) = false) ∧ e = .returned (.int .i64 r)) ∧ Below w.heap.size w w' := by
  have HF := Lib.hid hf
  clear hf
  go_enter Try.func31, Try.ntmps31
  go_wp2
  go_loopw [5, 6] (fun a b wr => ∃ lo hi : Nat, a = .int .i64 lo ∧ b = .int .i64 hi ∧ lo ≤ hi ∧ hi ≤ n ∧ (0 < lo → p (lo - 1) = false) ∧ Below w.heap.size w wr) (fun a b _ => (intOf b).toNat - (intOf a).toNat)
  case atStart => exact ⟨0, n, rfl, rfl, by omega, Nat.le_refl _, fun h => by omega, Below.refl _ _⟩
  case round =>
    obtain ⟨lo, hi, rfl, rfl, hlh, hin, hp, hb⟩ := hrel
    have Hp := Lib.hid hp
    clear hp
    by_cases hlt : lo < hi
    · have HC := Lib.hid (HF.out _ hb ((lo + hi) / 2) (by omega))
      have Hq : ((lo : Int) + (hi : Int)) / 2 = (((lo + hi) / 2 : Nat) : Int) := by omega
      have hm1 : lo ≤ (lo + hi) / 2 := by omega
      have hm2 : (lo + hi) / 2 < hi := by omega
      generalize (lo + hi) / 2 = m at *
      cases hpm : p m with
      | false =>
        rw [hpm] at HC
        have Hpm := Lib.hid hpm
        clear hpm
        go_wp2_with (go_at_call 32; (with_reducible refine HC.out.mono ?_); rintro e w1 ⟨rfl, hb1⟩)
        go_roundw
        case rel => exact ⟨m + 1, hi, by go_num, rfl, by omega, hin, fun _ => Hpm.out, Chain.up hb hb1⟩
        case measure => simp [intOf]; omega
      | true =>
        rw [hpm] at HC
        clear hpm
        go_wp2_with (go_at_call 32; (with_reducible refine HC.out.mono ?_); rintro e w1 ⟨rfl, hb1⟩)
        go_roundw
        case rel => exact ⟨lo, m, rfl, rfl, by omega, by omega, Hp.out, Chain.up hb hb1⟩
        case measure => simp [intOf]; omega
    · go_wp2
      go_ret
      exact ⟨⟨lo, by omega, Hp.out, rfl⟩, hb⟩

theorem P.belowB_nat {l : List P.En} (h : P.Good l) (k : List UInt8) (i : Nat) : P.belowB l k (i : Int) = decide (i < P.seekL l k) := by
  have hle := P.seekL_le l k
  by_cases hi : i < l.length
  · unfold P.belowB
    rw [show P.inI l (i : Int) = true from decide_eq_true ⟨by omega, by omega⟩, P.keyI_nat l i hi, Bool.true_and, h.seek k i hi]
  · unfold P.belowB
    rw [show P.inI l (i : Int) = false from decide_eq_false (by omega), Bool.false_and]
    exact (decide_eq_false (by omega)).symm
theorem two_box2 {w w1 : World} {A B : Array Value} {t u : TypeId} (hb : Below ((w.alloc (.cells A t)).alloc (.cells B u)).heap.size ((w.alloc (.cells A t)).alloc (.cells B u)) w1) :
    (∀ i, w1.cell? ⟨w.heap.size, i, none⟩ = A[i]?) ∧ (∀ i, w1.cell? ⟨w.heap.size + 1, i, none⟩ = B[i]?) ∧ w.heap.size + 1 < w1.heap.size ∧ Below w.heap.size w w1 := by
  have hs := hb.size
  simp at hs
  refine ⟨fun i => ?_, fun i => ?_, by omega, ?_⟩
  · rw [hb.cell (p := ⟨w.heap.size, i, none⟩) (by simp; omega), World.cell?_alloc_lt _ _ _ (by simp), World.cell?_alloc_new]
  · rw [hb.cell (p := ⟨w.heap.size + 1, i, none⟩) (by simp), World.cell?_alloc_at _ _ _ _ (by simp)]
  · exact (((Below.refl _ _).alloc (Nat.le_refl _) _).alloc (by simp) _).trans (hb.mono (by simp; omega))

set_option maxRecDepth 100000 in
set_option maxHeartbeats 4000000 in
theorem seek_none {w : World} {g : Nat} (h : BlkAt w g []) (k : List UInt8) :
    Calls Try.prog 16 #[.pointer (some ⟨g, 0, none⟩), S k] w fun e w' => e = .returned (.int .i64 0) ∧ Below w.heap.size w w' := by
  have HL := Lib.hid (fun wx (hb : Below w.heap.size w wx) => len_blk (h.up hb))
  have hW := Lib.hid (fun o1 o2 => show Below w.heap.size w ((w.alloc o1).alloc o2) from ((Below.refl _ _).alloc (Nat.le_refl _) _).alloc (by simp) _)
  go_enter Try.func16, Try.ntmps16
  go_wp2_with (go_at_call 15; (with_reducible refine (HL.out _ (hW.out _ _)).mono ?_); rintro e w1 ⟨rfl, hb1⟩)
  go_ret
  exact ⟨rfl, (two_box2 hb1).2.2.2⟩
set_option maxRecDepth 100000 in
set_option maxHeartbeats 4000000 in
theorem seek_some {w : World} {g : Nat} {l : List P.En} (h : BlkAt w g l) (hgd : P.Good l) (hsl : (P.upTo l l.length).length ≤ 1000000) (k : List UInt8) (hne : 0 < l.length) :
    Calls Try.prog 16 #[.pointer (some ⟨g, 0, none⟩), S k] w fun e w' => e = .returned (.int .i64 (P.seekL l k)) ∧ Below w.heap.size w w' := by
  have HL := Lib.hid (fun wx (hb : Below w.heap.size w wx) => len_blk (h.up hb))
  have hW := Lib.hid (fun o1 o2 => show Below w.heap.size w ((w.alloc o1).alloc o2) from ((Below.refl _ _).alloc (Nat.le_refl _) _).alloc (by simp) _)
  have hl3 := P.upTo_least l l.length
  have hln : l.length ≤ 1000000 := by omega
  have hne' : ((l.length : Int) == 0) = false := beq_eq_false_iff_ne.2 (by omega)
  have HS1 := Lib.hid (fun (wx : World) (gb gk gf : Nat) (hb : Below w.heap.size w wx) (c1 : wx.cell? ⟨gb, 0, none⟩ = some (.pointer (some ⟨g, 0, none⟩))) (c2 : wx.cell? ⟨gk, 0, none⟩ = some (S k)) (c3 : wx.cell? ⟨gf, 0, none⟩ = some (.func (.func 30) #[] #[.pointer (some ⟨gb, 0, none⟩), .pointer (some ⟨gk, 0, none⟩)])) =>
    search_any (P.starts l l.length).length (fun r => !P.belowB l k ((4 * r : Nat) : Int)) gf wx (by rw [P.starts_len]; omega)
      (fun wy hy i hi => above_any ((h.up hb).up hy) hgd hsl i (by rw [P.starts_len] at hi; omega) k (cell_up hy c1) (cell_up hy c2) (cell_up hy c3)))
  have HS2 := Lib.hid (fun (wx : World) (gb gk : Nat) (i : Nat) (hb : Below w.heap.size w wx) (c1 : wx.cell? ⟨gb, 0, none⟩ = some (.pointer (some ⟨g, 0, none⟩))) (c2 : wx.cell? ⟨gk, 0, none⟩ = some (S k)) =>
    below_any (h.up hb) hgd hsl (i : Int) k c1 c2)
  have HB := Lib.hid (P.belowB_nat hgd k)
  have hsk := P.seekL_le l k
  obtain ⟨vs, B, hx, hnum⟩ := h
  obtain ⟨c0, c1, c2, _, _, _⟩ := hx.three
  obtain ⟨a2, d2, rfl, hat, _⟩ := hnum.is intCells_len
  clear hat hnum hx
  have hstl : (P.starts l l.length).length ≤ 1000000 := by rw [P.starts_len]; omega
  generalize (P.starts l l.length).length = sl at *
  generalize P.seekL l k = sk at *
  go_enter Try.func16, Try.ntmps16
  go_wp2_with (first
    | (go_at_call 15; (with_reducible refine (HL.out _ (hW.out _ _)).mono ?_); rintro e w1 ⟨rfl, hb1⟩; obtain ⟨p0, p1, hs1, hc1⟩ := two_box2 hb1; have p00 : w1.cell? ⟨w.heap.size, 0, none⟩ = some (.pointer (some ⟨g, 0, none⟩)) := (by rw [p0]; rfl); have p10 : w1.cell? ⟨w.heap.size + 1, 0, none⟩ = some (S k) := (by rw [p1]; rfl); have k1 := cell_up hc1 c1; have pA := (fun o => cell_up ((Below.refl w1.heap.size w1).alloc (Nat.le_refl _) o) p00); have pB := (fun o => cell_up ((Below.refl w1.heap.size w1).alloc (Nat.le_refl _) o) p10); have pC := (fun o => cell_up ((Below.refl w1.heap.size w1).alloc (Nat.le_refl _) o) k1); have hcA := (fun o => hc1.alloc (B := w.heap.size) (by omega) o))
    | (go_at_call 31; (with_reducible refine (HS1.out _ _ _ _ (hcA _) (pA _) (pB _) (by simp)).mono ?_); rintro e w2 ⟨⟨r, hr1, hr2, rfl⟩, hb2⟩))
  have q0 := cell_up hb2 (pA _)
  have q1 := cell_up hb2 (pB _)
  have qf : w2.cell? ⟨w1.heap.size, 0, none⟩ = some (.func (.func 30) #[] #[.pointer (some ⟨w.heap.size, 0, none⟩), .pointer (some ⟨w.heap.size + 1, 0, none⟩)]) := cell_up hb2 (by simp)
  have hc2 := Chain.up (hcA _) hb2
  have hr3 : 4 * (r - 1) ≤ sk := by
    by_cases h0 : 0 < r
    · have h := hr2 h0
      rw [HB.out] at h
      have : 4 * (r - 1) < sk := by simpa using h
      omega
    · omega
  clear hr2 pA pB pC hcA hb2 p00 p10 k1 p0 p1 hs1 hc1 hb1 HS1 HL hW c0 c1 c2
  go_loopw [6] (fun a wr => ∃ i : Nat, a = .int .i64 i ∧ i ≤ sk ∧ Below w2.heap.size w2 wr) (fun a _ => sk - (intOf a).toNat)
  case atStart => exact ⟨4 * (r - 1), by congr 1; omega, hr3, Below.refl _ _⟩
  case round =>
    obtain ⟨i, rfl, his, hb⟩ := hrel
    have HC := HS2.out wr w.heap.size (w.heap.size + 1) i (Chain.up hc2 hb) (cell_up hb q0) (cell_up hb q1)
    rw [HB.out] at HC
    have HC := Lib.hid HC
    have qf1 := cell_up hb qf
    by_cases hlt : i < sk
    · rw [decide_eq_true hlt] at HC
      go_wp2_with (go_at_call 30; (with_reducible refine HC.out.mono ?_); rintro e w4 ⟨rfl, hb4⟩)
      go_roundw
      case rel => exact ⟨i + 1, by go_num, by omega, Chain.up hb hb4⟩
      case measure => simp [intOf]; omega
    · obtain rfl : i = sk := by omega
      rw [decide_eq_false (by omega)] at HC
      go_wp2_with (go_at_call 30; (with_reducible refine HC.out.mono ?_); rintro e w4 ⟨rfl, hb4⟩)
      go_ret
      exact ⟨rfl, Chain.up hc2 (Chain.up hb hb4)⟩
theorem seek_any {w : World} {g : Nat} {l : List P.En} (h : BlkAt w g l) (hgd : P.Good l) (hsl : (P.upTo l l.length).length ≤ 1000000) (k : List UInt8) :
    Calls Try.prog 16 #[.pointer (some ⟨g, 0, none⟩), S k] w fun e w' => e = .returned (.int .i64 (P.seekL l k)) ∧ Below w.heap.size w w' := by
  cases l with
  | nil => exact seek_none h k
  | cons x l => exact seek_some h hgd hsl k (by simp)
end Go.Proofs.Ythaiekilifoegaa
