/- The walks of the script's small, uses, rightCrash, Right. -/
import Derived.Test.YtnflbgindcejjaaDoorPScript2
import Derived.Test.YtnflbgindcejjaaDoorWBut
import Derived.Test.YtnflbgindcejjaaDoorWOwnA
import Derived.Test.YtnflbgindcejjaaDoorProg
namespace Go.Proofs.YtnflbgindcejjaaDoor
open Go.RowKit
set_option linter.unusedVariables false
set_option linter.unusedSimpArgs false

/-! ### Acts in memory -/
def intCell (n : Int) : List Value := [.int .i64 n]
theorem intCell_len (n : Int) : (intCell n).length = 1 := rfl
def spotCells (x : Int × Nat) : List Value := [.int .i64 x.1, .int .u32 x.2]
theorem spotCells_len (x : Int × Nat) : (spotCells x).length = 2 := rfl
abbrev IntsAt (w : World) (a : Option Addr) (l : List Int) : Prop := RowsAt 1 intCell w a l
abbrev SpotsAt (w : World) (a : Option Addr) (l : List (Int × Nat)) : Prop := RowsAt 2 spotCells w a l
/-- A crash's value. -/
abbrev crV (n : Int) (a : Option Addr) (k c : Nat) (b : Option Addr) (m d : Nat) : Value := .agg #[.int .i64 n, .slice a k c, .slice b m d]
def CrAt (w : World) (a b : Option Addr) (c : P.Cr) : Prop := IntsAt w a c.keep ∧ SpotsAt w b c.spoil
theorem CrAt.up {w w' : World} {a b : Option Addr} {c : P.Cr} (h : CrAt w a b c) (hb : Below w.heap.size w w') : CrAt w' a b c := ⟨RowsAt.up h.1 hb, RowsAt.up h.2 hb⟩

set_option maxRecDepth 100000 in
theorem smallS_any (n : Int) (w : World) : Calls Tryd.prog 40 #[.int .i64 n] w fun e w' => e = .returned (.bool (P.smallB n)) ∧ Below w.heap.size w w' := by
  have Hs := Lib.hid (show P.smallB n = decide (0 ≤ n ∧ n ≤ 2147483647) from rfl)
  generalize P.smallB n = r at *
  by_cases h0 : 0 ≤ n
  · by_cases h1 : n ≤ 2147483647
    · go_enter Tryd.func40, Tryd.ntmps40
      go_wp2
      go_ret
      exact ⟨ret_bool (by rw [Hs.out]; simp [*]), Below.refl _ _⟩
    · have h2 : 2147483647 < n := by omega
      go_enter Tryd.func40, Tryd.ntmps40
      go_wp2
      go_ret
      exact ⟨ret_bool (by rw [Hs.out]; simp [*]), Below.refl _ _⟩
  · have h2 : n < 0 := by omega
    go_enter Tryd.func40, Tryd.ntmps40
    go_wp2
    go_ret
    exact ⟨ret_bool (by rw [Hs.out]; first | (simp [*]; done) | (simp [*]; omega)), Below.refl _ _⟩

/-- What an act of a kind uses. -/
def P.usesN (k : Nat) : Int := if k = 1 then 1 else if k = 2 then 2 else if k = 3 ∨ k = 4 then 0 else if k = 5 then 4 else if k = 6 then 10 else if k = 7 then 8 else -1
set_option maxRecDepth 100000 in
theorem uses_any (k : Nat) (w : World) : Calls Tryd.prog 22 #[.int .u8 k] w fun e w' => e = .returned (.int .i64 (P.usesN k)) ∧ Below w.heap.size w w' := by
  by_cases h1 : k = 1
  · subst h1
    go_enter Tryd.func22, Tryd.ntmps22
    go_wp2
    go_ret
    exact ⟨rfl, Below.refl _ _⟩
  by_cases h2 : k = 2
  · subst h2
    go_enter Tryd.func22, Tryd.ntmps22
    go_wp2
    go_ret
    exact ⟨rfl, Below.refl _ _⟩
  by_cases h3 : k = 3
  · subst h3
    go_enter Tryd.func22, Tryd.ntmps22
    go_wp2
    go_ret
    exact ⟨rfl, Below.refl _ _⟩
  by_cases h4 : k = 4
  · subst h4
    go_enter Tryd.func22, Tryd.ntmps22
    go_wp2
    go_ret
    exact ⟨rfl, Below.refl _ _⟩
  by_cases h5 : k = 5
  · subst h5
    go_enter Tryd.func22, Tryd.ntmps22
    go_wp2
    go_ret
    exact ⟨rfl, Below.refl _ _⟩
  by_cases h6 : k = 6
  · subst h6
    go_enter Tryd.func22, Tryd.ntmps22
    go_wp2
    go_ret
    exact ⟨rfl, Below.refl _ _⟩
  by_cases h7 : k = 7
  · subst h7
    go_enter Tryd.func22, Tryd.ntmps22
    go_wp2
    go_ret
    exact ⟨rfl, Below.refl _ _⟩
  have Hu := Lib.hid (show P.usesN k = -1 by unfold P.usesN; rw [if_neg h1, if_neg h2, if_neg (by omega), if_neg h5, if_neg h6, if_neg h7])
  have e1 : ((k : Int) == 1) = false := beq_eq_false_iff_ne.2 (by omega)
  have e2 : ((k : Int) == 2) = false := beq_eq_false_iff_ne.2 (by omega)
  have e3 : ((k : Int) == 3) = false := beq_eq_false_iff_ne.2 (by omega)
  have e4 : ((k : Int) == 4) = false := beq_eq_false_iff_ne.2 (by omega)
  have e5 : ((k : Int) == 5) = false := beq_eq_false_iff_ne.2 (by omega)
  have e6 : ((k : Int) == 6) = false := beq_eq_false_iff_ne.2 (by omega)
  have e7 : ((k : Int) == 7) = false := beq_eq_false_iff_ne.2 (by omega)
  generalize P.usesN k = u at *
  go_enter Tryd.func22, Tryd.ntmps22
  go_wp2
  go_ret
  exact ⟨by rw [Hu.out]; rfl, Below.refl _ _⟩

theorem int_at {w : World} {a : Option Addr} {l : List Int} (h : IntsAt w a l) (k : Nat) (hk : k < l.length) : ∃ b o, a = some ⟨b, o, none⟩ ∧ b < w.heap.size ∧ w.cell? ⟨b, o + k, none⟩ = some (.int .i64 l[k]) := by
  obtain ⟨b, o, rfl, hlt, hc⟩ := h k hk
  have := hc 0 (by decide)
  rw [Nat.mul_one, Nat.add_zero] at this
  exact ⟨b, o, rfl, hlt, this⟩
theorem spot_at {w : World} {a : Option Addr} {l : List (Int × Nat)} (h : SpotsAt w a l) (k : Nat) (hk : k < l.length) : ∃ b o, a = some ⟨b, o, none⟩ ∧ b < w.heap.size ∧ w.cell? ⟨b, o + k * 2, none⟩ = some (.int .i64 l[k].1) ∧ w.cell? ⟨b, o + k * 2 + 1, none⟩ = some (.int .u32 l[k].2) := by
  obtain ⟨b, o, rfl, hlt, hc⟩ := h k hk
  exact ⟨b, o, rfl, hlt, hc 0 (by decide), hc 1 (by decide)⟩
theorem P.all_take {α : Type} (f : α → Bool) (l : List α) (k : Nat) (h : k < l.length) : (l.take (k + 1)).all f = ((l.take k).all f && f l[k]) := by
  rw [List.take_succ_eq_append_getElem h, List.all_append]
  simp
theorem P.all_not {α : Type} {f : α → Bool} {l : List α} {k : Nat} (h : k < l.length) (hf : f l[k] = false) : l.all f = false := by
  cases hx : l.all f with
  | false => rfl
  | true => rw [List.all_eq_true] at hx; rw [hx _ (List.getElem_mem h)] at hf; cases hf

set_option maxRecDepth 100000 in
set_option maxHeartbeats 4000000 in
theorem rightCrash_any (c : P.Cr) (a b : Option Addr) (k kc m mc : Nat) (hk : k = c.keep.length) (hm : m = c.spoil.length) (w : World) (hp : CrAt w a b c) :
    Calls Tryd.prog 23 #[crV c.names a k kc b m mc] w fun e w' => e = .returned (.bool (P.crB c)) ∧ Below w.heap.size w w' := by
  have HI := Lib.hid (fun wx (hx : Below w.heap.size w wx) => RowsAt.up hp.1 hx)
  have HS := Lib.hid (fun wx (hx : Below w.heap.size w wx) => RowsAt.up hp.2 hx)
  obtain ⟨names, keep, spoil⟩ := c
  simp only at hk hm HI HS ⊢
  have HC := Lib.hid (show P.crB ⟨names, keep, spoil⟩ = (P.smallB names && decide (keep.length ≤ 255) && decide (spoil.length ≤ 255) && keep.all P.smallB && spoil.all (fun x => P.smallB x.1)) from rfl)
  generalize P.crB ⟨names, keep, spoil⟩ = res at *
  clear hp
  have Hk := Lib.hid hk
  have Hm := Lib.hid hm
  have hx := Bx.fresh w 29 #[.int .i64 names, .slice a k kc, .slice b m mc]
  have hb : Below w.heap.size w (w.alloc (.cells #[.int .i64 names, .slice a k kc, .slice b m mc] 29)) := (Below.refl _ _).alloc (Nat.le_refl _) _
  have HN := Lib.hid (fun wx => smallS_any names wx)
  clear hk hm
  cases hs : P.smallB names with
  | false =>
    have Hr := Lib.hid (show res = false by rw [HC.out, hs]; rfl)
    rw [hs] at HN
    clear HC hs
    go_enter Tryd.func23, Tryd.ntmps23
    go_wp2_with (go_at_call 40; (with_reducible refine (HN.out _).mono ?_); rintro e w1 ⟨rfl, hb1⟩)
    go_ret
    exact ⟨ret_bool Hr.out.symm, Chain.up hb hb1⟩
  | true =>
    rw [hs] at HN
    by_cases hk1 : 255 < k
    · have Hr := Lib.hid (show res = false by rw [HC.out, hs, decide_eq_false (p := keep.length ≤ 255) (by have := Hk.out; omega)]; rfl)
      have hk2 : (255 : Int) < (k : Int) := by omega
      clear HC hs
      go_enter Tryd.func23, Tryd.ntmps23
      go_wp2_with (go_at_call 40; (with_reducible refine (HN.out _).mono ?_); rintro e w1 ⟨rfl, hb1⟩; obtain ⟨q0, q1, q2, _, _, _⟩ := (hx.up hb1).three)
      go_ret
      exact ⟨ret_bool Hr.out.symm, Chain.up hb hb1⟩
    · by_cases hm1 : 255 < m
      · have Hr := Lib.hid (show res = false by rw [HC.out, decide_eq_false (p := spoil.length ≤ 255) (by have := Hm.out; omega)]; simp)
        have hk2 : (k : Int) ≤ 255 := by omega
        have hm2 : (255 : Int) < (m : Int) := by omega
        clear HC hs
        go_enter Tryd.func23, Tryd.ntmps23
        go_wp2_with (go_at_call 40; (with_reducible refine (HN.out _).mono ?_); rintro e w1 ⟨rfl, hb1⟩; obtain ⟨q0, q1, q2, _, _, _⟩ := (hx.up hb1).three)
        go_ret
        exact ⟨ret_bool Hr.out.symm, Chain.up hb hb1⟩
      · have hk2 : (k : Int) ≤ 255 := by omega
        have hm2 : (m : Int) ≤ 255 := by omega
        have Hr := Lib.hid (show res = (keep.all P.smallB && spoil.all (fun x => P.smallB x.1)) by rw [HC.out, hs, decide_eq_true (p := spoil.length ≤ 255) (by have := Hm.out; omega), decide_eq_true (p := keep.length ≤ 255) (by have := Hk.out; omega)]; rfl)
        clear HC hs
        go_enter Tryd.func23, Tryd.ntmps23
        go_wp2_with (go_at_call 40; (with_reducible refine (HN.out _).mono ?_); rintro e w1 ⟨rfl, hb1⟩; obtain ⟨q0, q1, q2, _, _, _⟩ := (hx.up hb1).three)
        have hc1 := Chain.up hb hb1
        have hx1 := hx.up hb1
        clear hb hb1 hx q0 q1 q2
        go_loopw [26] (fun i wr => ∃ j : Nat, j ≤ k ∧ i = .int .i64 j ∧ (keep.take j).all P.smallB = true ∧ Below w1.heap.size w1 wr) (fun i _ => k - (intOf i).toNat)
        case atStart => exact ⟨0, by omega, rfl, rfl, Below.refl _ _⟩
        case round =>
          obtain ⟨j, hj, rfl, hall, hb⟩ := hrel
          have Hall := Lib.hid hall
          clear hall
          have hcr := Chain.up hc1 hb
          by_cases hlt : j < k
          · have hltl : j < keep.length := by have := Hk.out; omega
            obtain ⟨bb, o, rfl, hbb, c0⟩ := int_at (HI.out _ hcr) j hltl
            have Hnx := Lib.hid (P.all_take P.smallB keep j hltl)
            have Hno := Lib.hid (fun h => P.all_not (f := P.smallB) hltl h)
            generalize keep[j] = v at *
            have HV := Lib.hid (fun wx => smallS_any v wx)
            cases hv : P.smallB v with
            | false =>
              rw [hv] at HV
              have Hr2 := Lib.hid (show res = false by rw [Hr.out, Hno.out hv]; rfl)
              clear hv Hnx Hno
              go_wp2_with (go_at_call 40; (with_reducible refine (HV.out _).mono ?_); rintro e w2 ⟨rfl, hb2⟩)
              go_ret
              exact ⟨ret_bool Hr2.out.symm, Chain.up hcr hb2⟩
            | true =>
              rw [hv] at HV
              rw [Hall.out, hv] at Hnx
              clear hv Hno
              go_wp2_with (go_at_call 40; (with_reducible refine (HV.out _).mono ?_); rintro e w2 ⟨rfl, hb2⟩)
              go_roundw
              case rel => exact ⟨j + 1, by omega, by go_num, by rw [Hnx.out]; rfl, Chain.up hb hb2⟩
              case measure => simp [intOf]; omega
          · obtain rfl : j = k := by omega
            have Hka := Lib.hid (show res = spoil.all (fun x => P.smallB x.1) by have h := Hall.out; rw [List.take_of_length_le (by have := Hk.out; omega)] at h; rw [Hr.out, h]; rfl)
            obtain ⟨q0, q1, q2, _, _, _⟩ := (hx1.up hb).three
            clear Hr Hall
            go_wp2_with fail
            go_loopw [37] (fun i wx => ∃ j' : Nat, j' ≤ m ∧ i = .int .i64 j' ∧ (spoil.take j').all (fun x => P.smallB x.1) = true ∧ Below w.heap.size w wx) (fun i _ => m - (intOf i).toNat)
            case atStart => exact ⟨0, by omega, rfl, rfl, hcr⟩
            case round =>
              clear q0 q1 q2 hcr hb
              rename_i wr0
              obtain ⟨i, hi, rfl, hall, hb⟩ := hrel
              have Hall := Lib.hid hall
              clear hall
              by_cases hlt : i < m
              · have hltl : i < spoil.length := by have := Hm.out; omega
                obtain ⟨bb, o, rfl, hbb, c0, c1⟩ := spot_at (HS.out _ hb) i hltl
                have Hnx := Lib.hid (P.all_take (fun x : Int × Nat => P.smallB x.1) spoil i hltl)
                have Hno := Lib.hid (fun h => P.all_not (f := fun x : Int × Nat => P.smallB x.1) hltl h)
                generalize spoil[i] = v at *
                obtain ⟨v, mk⟩ := v
                simp only at c0 c1 Hnx Hno
                have HV := Lib.hid (fun wx => smallS_any v wx)
                have hba := fun o => hb.alloc hb.size o
                cases hv : P.smallB v with
                | false =>
                  rw [hv] at HV
                  have Hr2 := Lib.hid (show res = false by rw [Hka.out]; exact Hno.out hv)
                  clear hv Hnx Hno
                  go_wp2_with (go_at_call 40; (with_reducible refine (HV.out _).mono ?_); rintro e w2 ⟨rfl, hb2⟩)
                  go_ret
                  exact ⟨ret_bool Hr2.out.symm, Chain.up (hba _) hb2⟩
                | true =>
                  rw [hv] at HV
                  rw [Hall.out, hv] at Hnx
                  clear hv Hno
                  go_wp2_with (go_at_call 40; (with_reducible refine (HV.out _).mono ?_); rintro e w2 ⟨rfl, hb2⟩)
                  go_roundw
                  case rel => exact ⟨i + 1, by omega, by go_num, by rw [Hnx.out]; rfl, Chain.up (hba _) hb2⟩
                  case measure => simp [intOf]; omega
              · obtain rfl : i = m := by omega
                have Hr2 := Lib.hid (show res = true by rw [Hka.out]; have h := Hall.out; rwa [List.take_of_length_le (by have := Hm.out; omega)] at h)
                go_wp2_with fail
                go_ret
                exact ⟨ret_bool Hr2.out.symm, hb⟩
end Go.Proofs.YtnflbgindcejjaaDoor
