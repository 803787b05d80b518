/- What the laws of blocks call: the builder as a list of entries; Great, Same. -/
import Derived.Test.YthaiekilifoegaaWRefO
import Derived.Test.YthaiekilifoegaaWSeek
namespace Go.Proofs.Ythaiekilifoegaa
open Go.RowKit
set_option linter.unusedVariables false
set_option linter.unusedSimpArgs false

/-- Lists of entries of one's own stand. -/
def KeepE (w w' : World) : Prop := ∀ (B : Nat) (v : Value) (r : List P.En), OwnEns w B v r → OwnEns w' B v r
theorem KeepE.of {w w' : World} (h : Below w.heap.size w w') : KeepE w w' := fun B v r ho => ho.up h
/-- The builder of entries in box g. -/
def BldAt (w : World) (B g : Nat) (l : List P.En) : Prop := P.Good l ∧ ∃ vb vs, BldR w B g vb vs l.length (P.lastK l) (P.upTo l l.length) (P.starts l l.length)
theorem BldAt.up {w w' : World} {B g : Nat} {l : List P.En} (h : BldAt w B g l) (hb : Below w.heap.size w w') : BldAt w' B g l := by
  obtain ⟨hg, vb, vs, h⟩ := h
  exact ⟨hg, vb, vs, h.up hb⟩
theorem BldAt.fresh (w : World) (B : Nat) (hB : B ≤ w.heap.size) : BldAt (w.alloc (.cells #[.slice none 0 0, .slice none 0 0, .int .i64 0, S []] 26)) B w.heap.size [] :=
  ⟨P.good_nil, _, _, BldR.empty _ _ _ hB (Bx.fresh _ _ _)⟩
theorem add_at {w : World} {B g : Nat} {l : List P.En} (h : BldAt w B g l) (k v : List UInt8) (hk : k.length ≤ 1000000000) (hv : v.length ≤ 1000000000) (hl : l.length ≤ 100000) (hB : B ≤ w.heap.size) :
    Calls Try.prog 11 #[.pointer (some ⟨g, 0, none⟩), S k, S v] w fun e w' => e = .returned (.int .i64 (P.addE l.length (P.lastK l) k v)) ∧ BldAt w' B g (P.addL l k v) ∧ Below B w w' ∧ KeepE w w' := by
  obtain ⟨hg, vb, vs, h⟩ := h
  have hm := P.upTo_most hg l.length
  refine (add_any h k v hk hv (P.lastK_len hg) (by omega) (by omega) (by rw [P.starts_len]; omega) hB).mono ?_
  rintro e w' ⟨rfl, h1, h2⟩
  by_cases hE : P.addE l.length (P.lastK l) k v = 0
  · obtain ⟨vb', vs', hB', hbt, _⟩ := h2 hE
    have hA : P.addL l k v = l ++ [⟨k, v⟩] := by unfold P.addL; rw [if_pos hE]
    refine ⟨rfl, ⟨P.good_addL hg k v, vb', vs', ?_⟩, h.below hbt hB, fun B' v' r ho => ho.butS hbt (h.otherR ho (by decide) (by decide) (by decide))⟩
    rw [hA, List.length_append, List.length_singleton, P.lastK_snoc, P.upTo_snoc, P.starts_snoc]
    exact hB'
  · have hb := h1 hE
    have hA : P.addL l k v = l := by unfold P.addL; rw [if_neg hE]
    rw [hA]
    exact ⟨rfl, ⟨hg, vb, vs, h.up hb⟩, hb.mono hB, KeepE.of hb⟩
theorem count_at {w : World} {B g : Nat} {l : List P.En} (h : BldAt w B g l) :
    Calls Try.prog 10 #[.pointer (some ⟨g, 0, none⟩)] w fun e w' => e = .returned (.int .i64 l.length) ∧ Below w.heap.size w w' := by
  obtain ⟨hg, vb, vs, h⟩ := h
  exact count_bld h
theorem size_at {w : World} {B g : Nat} {l : List P.En} (h : BldAt w B g l) (hl : l.length ≤ 100000) :
    Calls Try.prog 9 #[.pointer (some ⟨g, 0, none⟩)] w fun e w' => e = .returned (.int .i64 (P.bytesB l).length) ∧ Below w.heap.size w w' := by
  obtain ⟨hg, vb, vs, h⟩ := h
  have hm := P.upTo_most hg l.length
  have := size_bld h (by omega) (by rw [P.starts_len]; omega)
  rw [P.starts_len] at this
  rw [P.bytesB_length]
  exact this
theorem finish_at {w : World} {B g : Nat} {l : List P.En} (h : BldAt w B g l) (hl : l.length ≤ 100000) (hB : B ≤ w.heap.size) :
    Calls Try.prog 12 #[.pointer (some ⟨g, 0, none⟩)] w fun e w' => e = .returned (S (P.bytesB l)) ∧ BldAt w' B g [] ∧ Below B w w' ∧ KeepE w w' := by
  obtain ⟨hg, vb, vs, h⟩ := h
  have hm := P.upTo_most hg l.length
  have := finish_any h (by omega) (by omega) (by rw [P.starts_len]; omega) (fun m hm' => by
    unfold P.starts at hm'
    obtain ⟨r, hr, rfl⟩ := List.mem_map.1 hm'
    have h1 := P.upTo_most hg (4 * r)
    have h2 := List.mem_range.1 hr
    omega) hB
  rw [P.bytesB_eq l _ rfl] at this
  refine this.mono ?_
  rintro e w' ⟨rfl, h1, h2, h3⟩
  exact ⟨rfl, ⟨P.good_nil, _, _, h1⟩, h2, fun B' v' r ho => ho.butS h3 (h.otherR ho (by decide) (by decide) (by decide))⟩
/-- Add of the document's, of a list of one's own. -/
theorem refAdd_own (l : List P.En) (B : Nat) (a : Option Addr) (n c : Nat) (hn : n = l.length) (k v : List UInt8) (w : World) (hk : k.length ≤ 1000000000) (hv : v.length ≤ 1000000000) (hp : OwnEns w B (.slice a n c) l) (hll : l.length ≤ 900000) (hB : B ≤ w.heap.size) :
    Calls Try.prog 19 #[.slice a n c, S k, S v] w fun e w' => (∃ a' c', e = .returned (.tuple #[.slice a' (P.addL l k v).length c', .int .i64 (P.addE l.length (P.lastK l) k v)]) ∧ OwnEns w' B (.slice a' (P.addL l k v).length c') (P.addL l k v)) ∧ Below w.heap.size w w' := by
  subst hn
  by_cases hl : 1024 < k.length ∨ 1024 < v.length
  · have he : P.addE l.length (P.lastK l) k v = 3 := by unfold P.addE; rw [if_pos hl]
    have hA : P.addL l k v = l := by unfold P.addL; rw [he]; rfl
    refine (refAdd_long l a _ c k v w hk hv hl).mono ?_
    rintro e w' ⟨rfl, hb⟩
    exact ⟨⟨a, c, by rw [hA, he]; rfl, by rw [hA]; exact hp.up hb⟩, hb⟩
  · by_cases ho : 0 < l.length ∧ Op.bytesLess (P.lastK l) k = false
    · have he : P.addE l.length (P.lastK l) k v = 1 := by unfold P.addE; rw [if_neg hl, if_pos ho]
      have hA : P.addL l k v = l := by unfold P.addL; rw [he]; rfl
      refine (refAdd_low l a c k v w (by omega) (by omega) (hp.at enCells_len) (by omega) ho.1 ho.2).mono ?_
      rintro e w' ⟨rfl, hb⟩
      exact ⟨⟨a, c, by rw [hA, he]; rfl, by rw [hA]; exact hp.up hb⟩, hb⟩
    · have he : P.addE l.length (P.lastK l) k v = 0 := by unfold P.addE; rw [if_neg hl, if_neg ho]
      have hA : P.addL l k v = l ++ [⟨k, v⟩] := by unfold P.addL; rw [he]; rfl
      refine (refAdd_ok l a c k v w (by omega) (by omega) (hp.at enCells_len) hll (fun h0 => by
        cases hb : Op.bytesLess (P.lastK l) k with
        | true => rfl
        | false => exact absurd ⟨h0, hb⟩ ho)).mono ?_
      rintro e w' ⟨⟨v', rfl, hO⟩, hb⟩
      obtain ⟨a2, c2, rfl, hr, _⟩ := hO.is enCells_len
      exact ⟨⟨a2, c2, by rw [hA, he]; rfl, by rw [hA]; exact hO.low hB⟩, hb⟩

/-- What is done to a builder. -/
structure P.Act where
  d : Nat
  k : List UInt8
  v : List UInt8
def actCells (x : P.Act) : List Value := [.int .u8 x.d, S x.k, S x.v]
abbrev ActsAt (w : World) (a : Option Addr) (l : List P.Act) : Prop := RowsAt 3 actCells w a l
theorem acts_at {w : World} {a : Option Addr} {l : List P.Act} (h : ActsAt w a l) (i : Nat) (hi : i < l.length) : ∃ b o, a = some ⟨b, o, none⟩ ∧ b < w.heap.size ∧ w.cell? ⟨b, o + i * 3, none⟩ = some (.int .u8 l[i].d) ∧ w.cell? ⟨b, o + i * 3 + 1, none⟩ = some (S l[i].k) ∧ w.cell? ⟨b, o + i * 3 + 2, none⟩ = some (S l[i].v) := by
  obtain ⟨b, o, rfl, hlt, hc⟩ := h i hi
  have h0 := hc 0 (by decide)
  have h1 := hc 1 (by decide)
  have h2 := hc 2 (by decide)
  rw [Nat.add_zero] at h0
  exact ⟨b, o, rfl, hlt, h0, h1, h2⟩
def P.totA (l : List P.Act) : Nat := (l.map fun x => x.k.length + x.v.length).sum
def P.greatA (l : List P.Act) : Bool := decide (120 < l.length ∨ 12000 < P.totA l)
theorem P.totA_snoc (l : List P.Act) (x : P.Act) : P.totA (l ++ [x]) = P.totA l + (x.k.length + x.v.length) := by simp [P.totA]
theorem P.totA_take : ∀ (l : List P.Act) (k : Nat), P.totA (l.take k) ≤ P.totA l
  | [], k => by simp
  | s :: ss, 0 => by simp [P.totA]
  | s :: ss, k + 1 => by
    have := P.totA_take ss k
    simp only [P.totA, List.take_succ_cons, List.map_cons, List.sum_cons] at *
    omega
theorem P.totA_mem (l : List P.Act) (i : Nat) (hi : i < l.length) : l[i].k.length + l[i].v.length ≤ P.totA l := by
  have h1 := P.totA_take l (i + 1)
  rw [List.take_succ_eq_append_getElem hi, P.totA_snoc] at h1
  omega
theorem P.greatA_no {l : List P.Act} (h : P.greatA l = false) : l.length ≤ 120 ∧ P.totA l ≤ 12000 := by
  have := of_decide_eq_false h
  omega

set_option maxRecDepth 100000 in
set_option maxHeartbeats 4000000 in
theorem greatA_any (a : Option Addr) (n c : Nat) (l : List P.Act) (hn : n = l.length) (w : World) (hl : l.length ≤ 9223372036854775807) (hx : ∀ x ∈ l, x.k.length ≤ 9223372036854775807 ∧ x.v.length ≤ 9223372036854775807) (hp : ActsAt w a l) :
    Calls Try.prog 18 #[.slice a n c] w fun e w' => e = .returned (.bool (P.greatA l)) ∧ Below w.heap.size w w' := by
  have HP := Lib.hid hp
  have HX := Lib.hid hx
  have Hn := Lib.hid hn
  by_cases h120 : 120 < n
  · have hg : P.greatA l = true := decide_eq_true (.inl (by omega))
    rw [hg]
    clear hp hx hn hg
    go_enter Try.func18, Try.ntmps18
    go_wp2
    go_ret
    exact ⟨rfl, Below.refl _ _⟩
  · have hG := Lib.hid (show P.greatA l = decide (12000 < P.totA l) from decide_eq_decide.2 ⟨fun h => h.resolve_left (by omega), .inr⟩)
    clear hp hx hn
    generalize P.greatA l = gl at *
    go_enter Try.func18, Try.ntmps18
    go_wp2
    go_loopw [4, 3] (fun i m wr => ∃ k : Nat, k ≤ n ∧ i = .int .i64 k ∧ m = .int .i64 (P.totA (l.take k)) ∧ P.totA (l.take k) ≤ k * 24000 ∧ Below w.heap.size w wr) (fun i _ _ => n - (intOf i).toNat)
    case atStart => exact ⟨0, by omega, rfl, rfl, by simp [P.totA], Below.refl _ _⟩
    case round =>
      obtain ⟨k, hk, rfl, rfl, h12, hb⟩ := hrel
      by_cases hlt : k < n
      · have hkl : k < l.length := by have := Hn.out; omega
        obtain ⟨b, o, rfl, hbb, x0, x1, x2⟩ := acts_at HP.out k hkl
        have y1 := cell_up hb x1
        have y2 := cell_up hb x2
        have Hmem := Lib.hid (P.totA_mem l k hkl)
        have Ht := Lib.hid (show P.totA (l.take (k + 1)) = P.totA (l.take k) + (l[k].k.length + l[k].v.length) by rw [List.take_succ_eq_append_getElem hkl, P.totA_snoc])
        obtain ⟨hx1, hx2⟩ := HX.out _ (List.getElem_mem hkl)
        clear x0 x1 x2
        generalize l[k] = x at *
        generalize P.totA (l.take k) = m at *
        by_cases hk1 : 12000 < x.k.length
        · have hi1 : decide ((12000 : Int) < (x.k.length : Int)) = true := decide_eq_true (by omega)
          go_wp2
          go_ret
          have hgt : 12000 < P.totA l := by have := Hmem.out; omega
          exact ⟨by rw [hG.out, decide_eq_true hgt]; rfl, hb⟩
        · have hi1 : decide ((12000 : Int) < (x.k.length : Int)) = false := decide_eq_false (by omega)
          by_cases hv1 : 12000 < x.v.length
          · have hi2 : decide ((12000 : Int) < (x.v.length : Int)) = true := decide_eq_true (by omega)
            go_wp2
            go_ret
            have hgt : 12000 < P.totA l := by have := Hmem.out; omega
            exact ⟨by rw [hG.out, decide_eq_true hgt]; rfl, hb⟩
          · have hi2 : decide ((12000 : Int) < (x.v.length : Int)) = false := decide_eq_false (by omega)
            go_wp2
            go_quiet (fail)
            go_wp2
            go_roundw
            case rel => exact ⟨k + 1, by omega, by go_num, by rw [Ht.out]; congr 1; omega, by rw [Ht.out]; omega, below_drewN hb _⟩
            case measure => simp [intOf]; omega
      · obtain rfl : k = n := by omega
        have htk : l.take k = l := List.take_of_length_le (by have := Hn.out; omega)
        rw [htk] at h12 ⊢
        generalize P.totA l = m at *
        go_wp2
        go_ret
        exact ⟨by rw [hG.out]; by_cases h : 12000 < m <;> simp [h] <;> omega, hb⟩

/-! ### Same -/
theorem P.keyI_out (l : List P.En) (i : Int) (h : ¬ (0 ≤ i ∧ i < l.length)) : P.keyI l i = [] ∧ P.valI l i = [] ∧ P.inI l i = false := by
  unfold P.keyI P.valI P.inI
  rw [if_neg h, if_neg h, decide_eq_false h]
  exact ⟨rfl, rfl, rfl⟩
set_option maxRecDepth 100000 in
set_option maxHeartbeats 4000000 in
theorem same_any {w : World} {g : Nat} {l : List P.En} (h : BlkAt w g l) (hgd : P.Good l) (hsl : (P.upTo l l.length).length ≤ 1000000) (a : Option Addr) (n c : Nat) (hn : n = l.length) (hp : EnsAt w a l) :
    Calls Try.prog 22 #[.pointer (some ⟨g, 0, none⟩), .slice a n c] w fun e w' => e = .returned (.bool true) ∧ Below w.heap.size w w' := by
  have hl3 := P.upTo_least l l.length
  have hnl : n ≤ 1000000 := by omega
  have HL := Lib.hid (fun wx (hb : Below w.heap.size w wx) => show Calls Try.prog 15 #[.pointer (some ⟨g, 0, none⟩)] wx fun e w' => e = .returned (.int .i64 n) ∧ Below wx.heap.size wx w' from by rw [hn]; exact len_blk (h.up hb))
  have HA := Lib.hid (fun wx (hb : Below w.heap.size w wx) (i : Int) => at_any (h.up hb) hgd hsl i)
  have HP := Lib.hid hp
  have Hn := Lib.hid hn
  have hb0 := Below.refl w.heap.size w
  clear h hgd hsl hp hn hl3
  go_enter Try.func22, Try.ntmps22
  go_wp2_with (go_at_call 15; (with_reducible refine (HL.out _ hb0).mono ?_); rintro e w1 ⟨rfl, hb1⟩)
  clear hb0
  go_loopw [5] (fun i wr => ∃ j : Nat, j ≤ n + 2 ∧ i = .int .i64 ((j : Int) - 1) ∧ Below w.heap.size w wr) (fun i _ => n + 2 - (match i with | .int _ z => (z + 1).toNat | _ => 0))
  case atStart => exact ⟨0, by omega, rfl, hb1⟩
  case round =>
    obtain ⟨j, hj, rfl, hb⟩ := hrel
    have hAt := Lib.hid (HA.out wr hb ((j : Int) - 1))
    by_cases hlt : j < n + 2
    · by_cases hin : 1 ≤ j ∧ j ≤ n
      · obtain ⟨m, rfl⟩ : ∃ m, j = m + 1 := ⟨j - 1, by omega⟩
        have hml : m < l.length := by have := Hn.out; omega
        have hm1 : ((m + 1 : Nat) : Int) - 1 = (m : Int) := by omega
        rw [hm1] at hAt
        rw [P.keyI_nat l m hml, P.valI_nat l m hml, show P.inI l (m : Int) = true from decide_eq_true ⟨by omega, by omega⟩] at hAt
        obtain ⟨b, o, rfl, hbb, x0, x1⟩ := ens_at HP.out m hml
        have y0 := cell_up hb x0
        have y1 := cell_up hb x1
        have hmn : (m : Int) < (n : Int) := by omega
        have hml2 : (m : Int) ≤ (n : Int) := by omega
        rw [hm1]
        clear x0 x1 hm1
        generalize P.keyAt l m = k at *
        generalize P.valAt l m = v at *
        go_wp2_with (go_at_call 14; (with_reducible refine hAt.out.mono ?_); rintro e w2 ⟨rfl, hb2⟩; have z0 := cell_up hb2 y0; have z1 := cell_up hb2 y1; have za := (fun o => cell_up ((Below.refl w2.heap.size w2).alloc (Nat.le_refl _) o) z0); have zb := (fun o => cell_up ((Below.refl w2.heap.size w2).alloc (Nat.le_refl _) o) z1))
        go_roundw
        case rel => exact ⟨m + 2, by omega, by first | rfl | (congr 1; omega), (Chain.up hb hb2).alloc (Chain.up hb hb2).size _⟩
        case measure => simp; omega
      · obtain ⟨e1, e2, e3⟩ := P.keyI_out l ((j : Int) - 1) (by have := Hn.out; omega)
        rw [e1, e2, e3] at hAt
        by_cases hj0 : j = 0
        · subst hj0
          have hm1 : ((0 : Nat) : Int) - 1 = -1 := by omega
          rw [hm1] at hAt ⊢
          clear e1 e2 e3 hm1
          go_wp2_with (go_at_call 14; (with_reducible refine hAt.out.mono ?_); rintro e w2 ⟨rfl, hb2⟩)
          go_roundw
          case rel => exact ⟨1, by omega, by first | rfl | (congr 1; omega), (Chain.up hb hb2).alloc (Chain.up hb hb2).size _⟩
          case measure => simp
        · obtain rfl : j = n + 1 := by omega
          have hm1 : ((n + 1 : Nat) : Int) - 1 = (n : Int) := by omega
          rw [hm1] at hAt ⊢
          clear e1 e2 e3 hm1
          go_wp2_with (go_at_call 14; (with_reducible refine hAt.out.mono ?_); rintro e w2 ⟨rfl, hb2⟩)
          go_roundw
          case rel => exact ⟨n + 2, by omega, by first | rfl | (congr 1; omega), (Chain.up hb hb2).alloc (Chain.up hb hb2).size _⟩
          case measure => simp; omega
    · obtain rfl : j = n + 2 := by omega
      have hm1 : ((n + 2 : Nat) : Int) - 1 = (n : Int) + 1 := by omega
      rw [hm1]
      clear hm1 hAt
      go_wp2
      go_ret
      exact ⟨rfl, hb⟩

/-! ### awake -/
abbrev P.L1 : List P.En := [⟨[97, 98], [49]⟩]
abbrev P.L2 : List P.En := [⟨[97, 98], [49]⟩, ⟨[97, 99], []⟩]
abbrev P.small2 : List UInt8 := [0, 2, 97, 98, 1, 49, 1, 1, 99, 0, 0, 0, 0, 0, 0, 0, 0, 2]
theorem P.add1 : P.addE 0 (P.lastK []) [97, 98] [49] = 0 ∧ P.addL [] [97, 98] [49] = P.L1 := ⟨by decide, rfl⟩
theorem P.add2 : P.addE 1 (P.lastK P.L1) [97, 99] [] = 0 ∧ P.addL P.L1 [97, 99] [] = P.L2 := ⟨by decide, rfl⟩
theorem P.bytes2 : P.bytesB P.L2 = P.small2 := by decide
theorem P.at2 : P.keyI P.L2 1 = [97, 99] ∧ P.valI P.L2 1 = [] ∧ P.inI P.L2 1 = true := by decide
theorem P.seek2 : P.seekL P.L2 [97, 98] = 0 ∧ P.seekL P.L2 [97, 98, 99] = 1 ∧ P.seekL P.L2 [98] = 2 := by decide

set_option maxRecDepth 100000 in
set_option maxHeartbeats 4000000 in
theorem awake_any (w : World) :
    Calls Try.prog 17 #[] w fun e w' => e = .returned (.bool true) ∧ Below w.heap.size w w' := by
  have H0 := Lib.hid (BldAt.fresh w w.heap.size (Nat.le_refl _))
  have HW := Lib.hid ((Below.refl w.heap.size w).alloc (Nat.le_refl _) (.cells #[.slice none 0 0, .slice none 0 0, .int .i64 0, S []] 26))
  have HA1 := Lib.hid (fun wx (h : BldAt wx w.heap.size w.heap.size []) (hs : w.heap.size ≤ wx.heap.size) => show Calls Try.prog 11 #[.pointer (some ⟨w.heap.size, 0, none⟩), S [97, 98], S [49]] wx fun e w' => e = .returned (.int .i64 0) ∧ BldAt w' w.heap.size w.heap.size P.L1 ∧ Below w.heap.size wx w' from
    (add_at h [97, 98] [49] (by decide) (by decide) (by decide) hs).mono (fun e w' h => ⟨by rw [h.1]; exact congrArg (fun z : Nat => Ending.returned (.int .i64 z)) P.add1.1, by rw [← P.add1.2]; exact h.2.1, h.2.2.1⟩))
  have HA2 := Lib.hid (fun wx (h : BldAt wx w.heap.size w.heap.size P.L1) (hs : w.heap.size ≤ wx.heap.size) => show Calls Try.prog 11 #[.pointer (some ⟨w.heap.size, 0, none⟩), S [97, 99], S []] wx fun e w' => e = .returned (.int .i64 0) ∧ BldAt w' w.heap.size w.heap.size P.L2 ∧ Below w.heap.size wx w' from
    (add_at h [97, 99] [] (by decide) (by decide) (by decide) hs).mono (fun e w' h => ⟨by rw [h.1]; exact congrArg (fun z : Nat => Ending.returned (.int .i64 z)) P.add2.1, by rw [← P.add2.2]; exact h.2.1, h.2.2.1⟩))
  have HS := Lib.hid (fun wx (h : BldAt wx w.heap.size w.heap.size P.L2) => show Calls Try.prog 9 #[.pointer (some ⟨w.heap.size, 0, none⟩)] wx fun e w' => e = .returned (.int .i64 18) ∧ Below wx.heap.size wx w' from
    (size_at h (by decide)).mono (fun e w' h => ⟨by rw [h.1, P.bytes2]; rfl, h.2⟩))
  have HF := Lib.hid (fun wx (h : BldAt wx w.heap.size w.heap.size P.L2) (hs : w.heap.size ≤ wx.heap.size) => show Calls Try.prog 12 #[.pointer (some ⟨w.heap.size, 0, none⟩)] wx fun e w' => e = .returned (S P.small2) ∧ (P.Good P.L2 ∧ BldAt w' w.heap.size w.heap.size []) ∧ Below w.heap.size wx w' from
    (finish_at h (by decide) hs).mono (fun e w' q => ⟨by rw [q.1, P.bytes2], ⟨h.1, q.2.1⟩, q.2.2.1⟩))
  have HO := Lib.hid (fun wx (hg : P.Good P.L2) => show Calls Try.prog 13 #[S P.small2] wx fun e w' => (∃ g, e = .returned (.tuple #[.pointer (some ⟨g, 0, none⟩), .int .i64 0]) ∧ BlkAt w' g P.L2) ∧ Below wx.heap.size wx w' from
    (open_any P.small2 wx (by decide)).mono (fun e w' h => by
      obtain ⟨hb, h | h⟩ := h
      · obtain ⟨l, g, ho, he, hbk⟩ := h
        obtain rfl := ho.one ⟨hg, P.bytes2⟩ (by decide)
        exact ⟨⟨g, he, hbk⟩, hb⟩
      · exact absurd ⟨hg, P.bytes2⟩ (h.1 P.L2)))
  have HAt := Lib.hid (fun wx g (h : BlkAt wx g P.L2) (hg : P.Good P.L2) => show Calls Try.prog 14 #[.pointer (some ⟨g, 0, none⟩), .int .i64 1] wx fun e w' => e = .returned (.tuple #[S [97, 99], S [], .bool true]) ∧ Below wx.heap.size wx w' from by
    have := at_any h hg (by decide) 1
    rw [P.at2.1, P.at2.2.1, P.at2.2.2] at this
    exact this)
  have HC := Lib.hid (fun wx (h : BldAt wx w.heap.size w.heap.size []) => show Calls Try.prog 10 #[.pointer (some ⟨w.heap.size, 0, none⟩)] wx fun e w' => e = .returned (.int .i64 0) ∧ Below wx.heap.size wx w' from count_at h)
  have HL := Lib.hid (fun wx g (h : BlkAt wx g P.L2) => show Calls Try.prog 15 #[.pointer (some ⟨g, 0, none⟩)] wx fun e w' => e = .returned (.int .i64 2) ∧ Below wx.heap.size wx w' from len_blk h)
  have HK1 := Lib.hid (fun wx g (h : BlkAt wx g P.L2) (hg : P.Good P.L2) => show Calls Try.prog 16 #[.pointer (some ⟨g, 0, none⟩), S [97, 98]] wx fun e w' => e = .returned (.int .i64 0) ∧ Below wx.heap.size wx w' from by
    have := seek_any h hg (by decide) [97, 98]
    rw [P.seek2.1] at this
    exact this)
  have HK2 := Lib.hid (fun wx g (h : BlkAt wx g P.L2) (hg : P.Good P.L2) => show Calls Try.prog 16 #[.pointer (some ⟨g, 0, none⟩), S [97, 98, 99]] wx fun e w' => e = .returned (.int .i64 1) ∧ Below wx.heap.size wx w' from by
    have := seek_any h hg (by decide) [97, 98, 99]
    rw [P.seek2.2.1] at this
    exact this)
  have HK3 := Lib.hid (fun wx g (h : BlkAt wx g P.L2) (hg : P.Good P.L2) => show Calls Try.prog 16 #[.pointer (some ⟨g, 0, none⟩), S [98]] wx fun e w' => e = .returned (.int .i64 2) ∧ Below wx.heap.size wx w' from by
    have := seek_any h hg (by decide) [98]
    rw [P.seek2.2.2] at this
    exact this)
  go_enter Try.func17, Try.ntmps17
  go_wp2_with (first
    | ((fail_if_success (have := hd2)); go_at_call 11; (with_reducible refine (HA1.out _ H0.out HW.out.size).mono ?_); rintro e w2 ⟨rfl, hd2, hb2⟩; have hc2 := HW.out.trans hb2)
    | (go_at_call 11; (with_reducible refine (HA2.out _ hd2 hc2.size).mono ?_); rintro e w3 ⟨rfl, hd3, hb3⟩; have hc3 := hc2.trans hb3)
    | (go_at_call 9; (with_reducible refine (HS.out _ hd3).mono ?_); rintro e w4 ⟨rfl, hb4⟩; have hc4 := Chain.up hc3 hb4; have hd4 := hd3.up hb4)
    | (go_at_call 12; (with_reducible refine (HF.out _ hd4 hc4.size).mono ?_); rintro e w5 ⟨rfl, ⟨hgd, hd5⟩, hb5⟩; have hc5 := hc4.trans hb5)
    | (go_at_call 13; (with_reducible refine (HO.out _ hgd).mono ?_); rintro e w6 ⟨⟨g, rfl, hk6⟩, hb6⟩; have hc6 := Chain.up hc5 hb6; have hd6 := hd5.up hb6)
    | (go_at_call 14; (with_reducible refine (HAt.out _ _ hk6 hgd).mono ?_); rintro e w7 ⟨rfl, hb7⟩; have hc7 := Chain.up hc6 hb7; have hd7 := hd6.up hb7; have hk7 := hk6.up hb7)
    | (go_at_call 10; (with_reducible refine (HC.out _ hd7).mono ?_); rintro e w8 ⟨rfl, hb8⟩; have hc8 := Chain.up hc7 hb8; have hk8 := hk7.up hb8)
    | (go_at_call 15; (with_reducible refine (HL.out _ _ hk8).mono ?_); rintro e w9 ⟨rfl, hb9⟩; have hc9 := Chain.up hc8 hb9; have hk9 := hk8.up hb9)
    | ((fail_if_success (have := hk10)); go_at_call 16; (with_reducible refine (HK1.out _ _ hk9 hgd).mono ?_); rintro e w10 ⟨rfl, hb10⟩; have hc10 := Chain.up hc9 hb10; have hk10 := hk9.up hb10)
    | ((fail_if_success (have := hk11)); go_at_call 16; (with_reducible refine (HK2.out _ _ hk10 hgd).mono ?_); rintro e w11 ⟨rfl, hb11⟩; have hc11 := Chain.up hc10 hb11; have hk11 := hk10.up hb11)
    | (go_at_call 16; (with_reducible refine (HK3.out _ _ hk11 hgd).mono ?_); rintro e w12 ⟨rfl, hb12⟩; have hc12 := Chain.up hc11 hb12))
  go_ret
  exact ⟨rfl, hc12⟩

/-! ### Open, parted -/
theorem open_yes {s : List UInt8} {l : List P.En} (ho : P.Opens s l) (hs : s.length ≤ 100000) (w : World) :
    Calls Try.prog 13 #[S s] w fun e w' => (∃ g, e = .returned (.tuple #[.pointer (some ⟨g, 0, none⟩), .int .i64 0]) ∧ BlkAt w' g l) ∧ Below w.heap.size w w' :=
  (open_any s w hs).mono fun e w' h => by
    obtain ⟨hb, ⟨l', g, ho', he, hk⟩ | ⟨hn, _⟩⟩ := h
    · obtain rfl := ho'.one ho (by omega)
      exact ⟨⟨g, he, hk⟩, hb⟩
    · exact absurd ho (hn l)
theorem open_not {s : List UInt8} (hno : ∀ l, ¬ P.Opens s l) (hs : s.length ≤ 100000) (w : World) :
    Calls Try.prog 13 #[S s] w fun e w' => e = .returned (.tuple #[.pointer none, .int .i64 8]) ∧ Below w.heap.size w w' :=
  (open_any s w hs).mono fun e w' h => by
    obtain ⟨hb, ⟨l', g, ho', _⟩ | ⟨hn, he⟩⟩ := h
    · exact absurd ho' (hno l')
    · exact ⟨he, hb⟩
theorem ropen_y {s : List UInt8} {l : List P.En} (ho : P.Opens s l) (hs : s.length ≤ 100000) (w : World) :
    Calls Try.prog 21 #[S s] w fun e w' => (∃ a c, e = .returned (.tuple #[.slice a l.length c, .bool true]) ∧ EnsAt w' a l) ∧ Below w.heap.size w w' :=
  (ropen_any s w hs).mono fun e w' h => by
    obtain ⟨hb, ⟨l', a, c, ho', he, hk⟩ | ⟨hn, _⟩⟩ := h
    · obtain rfl := ho'.one ho (by omega)
      exact ⟨⟨a, c, he, hk⟩, hb⟩
    · exact absurd ho (hn l)
theorem ropen_n {s : List UInt8} (hno : ∀ l, ¬ P.Opens s l) (hs : s.length ≤ 100000) (w : World) :
    Calls Try.prog 21 #[S s] w fun e w' => (∃ a n c, e = .returned (.tuple #[.slice a n c, .bool false])) ∧ Below w.heap.size w w' :=
  (ropen_any s w hs).mono fun e w' h => by
    obtain ⟨hb, ⟨l', a, c, ho', _⟩ | ⟨hn, he⟩⟩ := h
    · exact absurd ho' (hno l')
    · exact ⟨he, hb⟩
theorem P.Opens.up {s : List UInt8} {l : List P.En} (h : P.Opens s l) : (P.upTo l l.length).length ≤ s.length := by rw [← h.2, P.bytesB_length]; omega
end Go.Proofs.Ythaiekilifoegaa
