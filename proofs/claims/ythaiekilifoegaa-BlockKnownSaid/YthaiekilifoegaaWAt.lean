/- The walks of the block's Len and At. -/
import Derived.Test.YthaiekilifoegaaWNext
import Derived.Test.YthaiekilifoegaaWBld
namespace Go.Proofs.Ythaiekilifoegaa
open Go.RowKit
set_option linter.unusedVariables false
set_option linter.unusedSimpArgs false

abbrev intCells (n : Nat) : List Value := [.int .i64 n]
theorem intCells_len (n : Nat) : (intCells n).length = 1 := rfl
theorem intCells_one (n : Nat) : ∀ u ∈ intCells n, u.oneCell' = true := by
  intro u hu
  simp only [intCells, List.mem_singleton] at hu
  subst hu
  rfl
abbrev OwnInts (w : World) (B : Nat) (v : Value) (l : List Nat) : Prop := OwnR 3 1 intCells w B v l
/-- The block of entries in box g. -/
def BlkAt (w : World) (g : Nat) (l : List P.En) : Prop := ∃ vs B, Bx w g 65 #[S (P.upTo l l.length), vs, .int .i64 l.length] ∧ OwnInts w B vs (P.starts l l.length)
theorem BlkAt.up {w w' : World} {g : Nat} {l : List P.En} (h : BlkAt w g l) (hb : Below w.heap.size w w') : BlkAt w' g l := by
  obtain ⟨vs, B, h1, h2⟩ := h
  exact ⟨vs, B, h1.up hb, h2.up hb⟩
/-- The key and the value at a place. -/
def P.keyI (l : List P.En) (i : Int) : List UInt8 := if 0 ≤ i ∧ i < l.length then P.keyAt l i.toNat else []
def P.valI (l : List P.En) (i : Int) : List UInt8 := if 0 ≤ i ∧ i < l.length then P.valAt l i.toNat else []
def P.inI (l : List P.En) (i : Int) : Bool := decide (0 ≤ i ∧ i < l.length)
def P.kk (l : List P.En) (r j : Nat) : List UInt8 := if j = 0 then [] else P.keyAt l (r + j - 1)
def P.vv (l : List P.En) (r j : Nat) : List UInt8 := if j = 0 then [] else P.valAt l (r + j - 1)
theorem P.keyI_nat (l : List P.En) (m : Nat) (h : m < l.length) : P.keyI l m = P.keyAt l m := by unfold P.keyI; rw [if_pos ⟨by omega, by omega⟩, Int.toNat_natCast]
theorem P.valI_nat (l : List P.En) (m : Nat) (h : m < l.length) : P.valI l m = P.valAt l m := by unfold P.valI; rw [if_pos ⟨by omega, by omega⟩, Int.toNat_natCast]

set_option maxRecDepth 100000 in
set_option maxHeartbeats 2000000 in
theorem len_blk {w : World} {g : Nat} {l : List P.En} (h : BlkAt w g l) :
    Calls Try.prog 15 #[.pointer (some ⟨g, 0, none⟩)] w fun e w' => e = .returned (.int .i64 l.length) ∧ Below w.heap.size w w' := by
  obtain ⟨vs, B, hx, _⟩ := h
  obtain ⟨c0, c1, c2, _, _, _⟩ := hx.three
  go_enter Try.func15, Try.ntmps15
  go_wp2
  go_ret
  exact ⟨rfl, Below.refl _ _⟩

set_option maxRecDepth 100000 in
set_option maxHeartbeats 4000000 in
theorem at_out {w : World} {g : Nat} {l : List P.En} (h : BlkAt w g l) (i : Int) (hi : ¬ (0 ≤ i ∧ i < l.length)) :
    Calls Try.prog 14 #[.pointer (some ⟨g, 0, none⟩), .int .i64 i] w fun e w' => e = .returned (.tuple #[S [], S [], .bool false]) ∧ Below w.heap.size w w' := by
  have HL := Lib.hid (fun wx (hb : Below w.heap.size w wx) => len_blk (h.up hb))
  have hb0 := Below.refl w.heap.size w
  by_cases h0 : i < 0
  · go_enter Try.func14, Try.ntmps14
    go_wp2_with (go_at_call 15; (with_reducible refine (HL.out _ hb0).mono ?_); rintro e w1 ⟨rfl, hb1⟩)
    exact bodyPost_ret (v := .tuple #[S [], S [], .bool false]) (by simp [results, Try.results14, go_sem]) rfl ⟨rfl, Below.refl _ _⟩
  · have hge : (l.length : Int) ≤ i := by omega
    go_enter Try.func14, Try.ntmps14
    go_wp2_with (go_at_call 15; (with_reducible refine (HL.out _ hb0).mono ?_); rintro e w1 ⟨rfl, hb1⟩)
    exact bodyPost_ret (v := .tuple #[S [], S [], .bool false]) (by simp [results, Try.results14, go_sem]) rfl ⟨rfl, hb1⟩

set_option maxRecDepth 100000 in
set_option maxHeartbeats 4000000 in
theorem at_in {w : World} {g : Nat} {l : List P.En} (h : BlkAt w g l) (hgd : P.Good l) (hsl : (P.upTo l l.length).length ≤ 1000000) (m : Nat) (hm : m < l.length) :
    Calls Try.prog 14 #[.pointer (some ⟨g, 0, none⟩), .int .i64 m] w fun e w' => e = .returned (.tuple #[S (P.keyAt l m), S (P.valAt l m), .bool true]) ∧ Below w.heap.size w w' := by
  have HL := Lib.hid (fun wx (hb : Below w.heap.size w wx) => len_blk (h.up hb))
  obtain ⟨vs, B, hx, hnum⟩ := h
  obtain ⟨c0, c1, c2, _, _, _⟩ := hx.three
  have hb0 := Below.refl w.heap.size w
  have hlm : ¬ (l.length ≤ m) := by omega
  have hl3 := P.upTo_least l l.length
  obtain ⟨a2, d2, rfl, hat, _⟩ := hnum.is intCells_len
  have hq : (m : Int) / 4 = ((m / 4 : Nat) : Int) := by omega
  have hql : m / 4 < (P.starts l l.length).length := by rw [P.starts_len]; omega
  have hr4 : (m : Int) % 4 = ((m % 4 : Nat) : Int) := by omega
  obtain ⟨b, o, rfl, hbb, hc⟩ := hat (m / 4) hql
  have c4 := hc 0 (by decide)
  rw [P.starts_at, Nat.mul_one, Nat.add_zero] at c4
  have hqi : (m : Int) / 4 < ((P.starts l l.length).length : Int) := by omega
  have hsi : 4 * (m / 4) + m % 4 = m := by omega
  have hr4l : m % 4 < 4 := by omega
  have Hsi := Lib.hid hsi
  have Hm := Lib.hid hm
  have Hgd := Lib.hid hgd
  clear hgd hsi
  have hc4 : w.cell? ⟨b, o + m / 4, none⟩ = some (.int .i64 ((P.upTo l (4 * (m / 4))).length : Nat)) := by simpa [intCells] using c4
  clear c4 hc hat hnum hx hql
  have hwq : wrap64 ((m / 4 : Nat) : Int) = ((m / 4 : Nat) : Int) := IntWalk.wrap64_in _ (by omega)
  generalize m % 4 = z at *
  generalize m / 4 = q at *
  generalize (P.starts l l.length).length = sl at *
  obtain ⟨n0, hn0⟩ : ∃ n0, n0 = (P.upTo l (4 * q)).length := ⟨_, rfl⟩
  rw [← hn0] at hc4
  have Hn0 := Lib.hid hn0
  have Hsp := Lib.hid (P.upTo_split l)
  clear hn0 hl3
  obtain ⟨bs, hbs⟩ : ∃ bs, bs = P.upTo l l.length := ⟨_, rfl⟩
  rw [← hbs] at c0 hsl
  have Hbs := Lib.hid hbs
  clear hbs
  go_enter Try.func14, Try.ntmps14
  go_wp2_with (go_at_call 15; (with_reducible refine (HL.out _ hb0).mono ?_); rintro e w1 ⟨rfl, hb1⟩; have k0 := cell_up hb1 c0; have k1 := cell_up hb1 c1; have k2 := cell_up hb1 c2; have k4 := cell_up hb1 hc4)
  clear hq hqi hwq hr4 hlm hc4 c1 c2
  go_loopw [28, 7, 5, 8] (fun i v u n wr => ∃ j : Nat, j ≤ z + 1 ∧ i = .int .i64 j ∧ KeyV wr v (P.kk l (4 * q) j) ∧ u = S (P.vv l (4 * q) j) ∧ n = .int .i64 (P.upTo l (4 * q + j)).length ∧ Below w.heap.size w wr) (fun i _ _ _ _ => z + 1 - (intOf i).toNat)
  case atStart => exact ⟨0, by omega, rfl, keyV_nil _, rfl, by rw [Hn0.out]; rfl, hb1⟩
  case round =>
    clear k0 k1 k2 k4 hb1
    obtain ⟨j, hj, rfl, hK, rfl, rfl, hb⟩ := hrel
    by_cases hlt : j < z + 1
    · have k0 := cell_up hb c0
      have hjl : 4 * q + j < l.length := by have := Hsi.out; have := Hm.out; omega
      obtain ⟨x, hx, hy⟩ := Hsp.out (4 * q + j) l.length (by omega)
      obtain ⟨y, rfl⟩ := hy hjl
      have hdr : bs.drop (P.upTo l (4 * q + j)).length = P.entAt l (4 * q + j) ++ y := by rw [Hbs.out, hx, List.drop_left]
      obtain ⟨r1, r2, r3, r4⟩ := Hgd.out.read (4 * q + j) hjl (P.kk l (4 * q) j) (fun h => by unfold P.kk; rw [if_neg (by omega)]) y
      have hkl : (P.kk l (4 * q) j).length ≤ 1024 := by
        unfold P.kk
        split
        · simp
        · exact (Hgd.out.lens _).1
      have hle : (P.upTo l (4 * q + j)).length ≤ bs.length := by rw [Hbs.out]; exact P.upTo_mono l _ _ (by omega)
      have HN := Lib.hid (fun wx v (hv : KeyV wx v (P.kk l (4 * q) j)) => (next_any bs (P.upTo l (4 * q + j)).length v (P.kk l (4 * q) j) wx hsl hle hv (by omega)).mono (fun e w' h => show (∃ v', e = .returned (.tuple #[v', S (P.valAt l (4 * q + j)), .int .i64 ((P.upTo l (4 * q + j + 1)).length : Nat)]) ∧ KeyV w' v' (P.keyAt l (4 * q + j))) ∧ Below wx.heap.size wx w' from by
        rw [hdr] at h
        obtain ⟨h1, h2, _⟩ := h
        obtain ⟨v', rfl, hk, _⟩ := h2 r1
        rw [r2] at hk
        exact ⟨⟨v', by rw [r3, r4, P.upTo_succ, List.length_append], hk⟩, h1⟩))
      have Hk1 := Lib.hid (show P.kk l (4 * q) (j + 1) = P.keyAt l (4 * q + j) by unfold P.kk; rw [if_neg (by omega)]; rfl)
      have Hv1 := Lib.hid (show P.vv l (4 * q) (j + 1) = P.valAt l (4 * q + j) by unfold P.vv; rw [if_neg (by omega)]; rfl)
      have hji : (j : Int) < (z : Int) + 1 := by omega
      clear r1 r2 r3 r4 hdr hx hy hle hkl
      generalize P.valAt l (4 * q + j) = va at *
      generalize P.keyAt l (4 * q + j) = ka at *
      generalize (P.upTo l (4 * q + j)).length = n1 at *
      generalize hn2 : (P.upTo l (4 * q + j + 1)).length = n2 at *
      have Hn2 := Lib.hid hn2
      clear hn2
      go_wp2_with (go_at_call 29; (with_reducible refine (HN.out _ _ hK).mono ?_); rintro e w2 ⟨⟨v2, rfl, hK2⟩, hb2⟩)
      go_roundw
      case rel => exact ⟨j + 1, by omega, by go_num, by rw [Hk1.out]; exact hK2, by rw [Hv1.out], by rw [← Hn2.out]; rfl, Chain.up hb hb2⟩
      case measure => simp [intOf]; omega
    · obtain rfl : j = z + 1 := by omega
      have Hk1 := Lib.hid (show P.kk l (4 * q) (z + 1) = P.keyAt l m by unfold P.kk; rw [if_neg (by omega), ← Hsi.out]; rfl)
      have Hv1 := Lib.hid (show P.vv l (4 * q) (z + 1) = P.valAt l m by unfold P.vv; rw [if_neg (by omega), ← Hsi.out]; rfl)
      rw [Hk1.out] at hK
      rw [Hv1.out]
      go_wp2_with fail
      rw [hK.string]
      go_wp2_with fail
      exact bodyPost_ret (v := .tuple #[S (P.keyAt l m), S (P.valAt l m), .bool true]) (by simp [results, Try.results14, go_sem]) rfl ⟨rfl, hb⟩
theorem at_any {w : World} {g : Nat} {l : List P.En} (h : BlkAt w g l) (hgd : P.Good l) (hsl : (P.upTo l l.length).length ≤ 1000000) (i : Int) :
    Calls Try.prog 14 #[.pointer (some ⟨g, 0, none⟩), .int .i64 i] w fun e w' => e = .returned (.tuple #[S (P.keyI l i), S (P.valI l i), .bool (P.inI l i)]) ∧ Below w.heap.size w w' := by
  by_cases hi : 0 ≤ i ∧ i < l.length
  · obtain ⟨m, rfl⟩ : ∃ m : Nat, i = (m : Int) := ⟨i.toNat, by omega⟩
    have := at_in h hgd hsl m (by omega)
    rw [P.keyI_nat l m (by omega), P.valI_nat l m (by omega), show P.inI l (m : Int) = true from decide_eq_true hi]
    exact this
  · have := at_out h i hi
    rw [show P.keyI l i = [] from by unfold P.keyI; rw [if_neg hi], show P.valI l i = [] from by unfold P.valI; rw [if_neg hi], show P.inI l i = false from decide_eq_false hi]
    exact this
end Go.Proofs.Ythaiekilifoegaa
