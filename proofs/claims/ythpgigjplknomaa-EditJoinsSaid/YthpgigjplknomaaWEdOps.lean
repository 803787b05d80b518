/- The walks of edit's Check. -/
import Derived.Test.YthpgigjplknomaaWEdChk
namespace Go.Proofs.Ythpgigjplknomaa
open Go.RowKit
set_option linter.unusedVariables false

def P.badN (n : Nat) : Bool := !P.numB n
set_option maxRecDepth 100000 in
set_option maxHeartbeats 1000000 in
theorem check1_any (n : Nat) (w : World) :
    Calls Try.prog 32 #[V64 n] w fun e w' => e = .returned (.bool (P.badN n)) ∧ Below w.heap.size w w' := by
  have HN := Lib.hid (fun wx => number_any n wx _ rfl)
  have H := Lib.hid (show P.badN n = !P.numB n from rfl)
  generalize P.numB n = b at *
  go_enter Try.func32, Try.ntmps32
  go_wp2_with (go_at_call 33; (with_reducible refine (HN.out _).mono ?_); rintro e w' ⟨rfl, rfl⟩)
  go_ret
  exact ⟨by rw [H.out]; rfl, Below.refl _ _⟩
set_option maxRecDepth 100000 in
set_option maxHeartbeats 2000000 in
theorem index_wrong (a : Option Addr) (c : Nat) (l : List P.Tab) (w : World) (hl : l.length ≤ 9223372036854775807) (hp : TabsAt w a l) :
    Calls Try.prog 49 #[.slice a l.length c, .func (.func 30) #[] #[]] w fun e w' => ∃ z : Int, e = .returned (.int .i64 z) ∧ decide (0 ≤ z) = l.any P.wrongB ∧ Below w.heap.size w w' := by
  have Hp := Lib.hid hp
  clear hp
  go_enter Try.func49, Try.ntmps49
  go_wp2
  go_loopw [8] (fun i wr => ∃ k : Nat, k ≤ l.length ∧ i = .int .i64 k ∧ (l.take k).any P.wrongB = false ∧ Below w.heap.size w wr) (fun i _ => l.length - (intOf i).toNat)
  case atStart => exact ⟨0, by omega, rfl, rfl, Below.refl _ _⟩
  case round =>
    obtain ⟨k, hk, rfl, hany, hb⟩ := hrel
    have Hany := Lib.hid hany
    clear hany
    by_cases hlt : k < l.length
    · obtain ⟨b, o, rfl, hbb, c0, c1, c2, c3, c4, c5, c6, c7⟩ := tab_at (RowsAt.up Hp.out hb) k hlt
      have Hyes := Lib.hid (show P.wrongB l[k] = true → l.any P.wrongB = true from fun h => List.any_eq_true.2 ⟨_, List.getElem_mem hlt, h⟩)
      have Hno := Lib.hid (show P.wrongB l[k] = false → (l.take (k + 1)).any P.wrongB = false from fun h => by rw [List.take_succ_eq_append_getElem hlt, List.any_append, Hany.out]; simp [h])
      have HF := Lib.hid (fun w => wrong_any l[k] w)
      generalize l[k] = q at *
      obtain ⟨tn, tl, tc, ts, tf, tz, te, tm⟩ := q
      simp only at c0 c1 c2 c3 c4 c5 c6 c7
      cases hpr : P.wrongB ⟨tn, tl, tc, ts, tf, tz, te, tm⟩ with
      | true =>
        have Hy := Lib.hid (Hyes.out hpr)
        rw [hpr] at HF
        clear hpr Hno Hyes
        go_wp2_with (go_at_call 30; (with_reducible refine (HF.out _).mono ?_); rintro e w1 ⟨rfl, hb1⟩)
        go_ret
        exact ⟨k, rfl, by rw [Hy.out]; simp, Chain.up hb hb1⟩
      | false =>
        have Hn := Lib.hid (Hno.out hpr)
        rw [hpr] at HF
        clear hpr Hno Hyes
        go_wp2_with (go_at_call 30; (with_reducible refine (HF.out _).mono ?_); rintro e w1 ⟨rfl, hb1⟩)
        go_roundw
        case rel => exact ⟨k + 1, by omega, by go_num, Hn.out, Chain.up hb hb1⟩
        case measure => simp [intOf]; omega
    · obtain rfl : k = l.length := by omega
      have Ha := Lib.hid (show l.any P.wrongB = false by have h := Hany.out; rwa [List.take_length] at h)
      go_wp2
      go_ret
      exact ⟨-1, rfl, by rw [Ha.out]; rfl, hb⟩
set_option maxRecDepth 100000 in
set_option maxHeartbeats 2000000 in
theorem contains_wrong (a : Option Addr) (n c : Nat) (l : List P.Tab) (hn : n = l.length) (w : World) (hl : l.length ≤ 9223372036854775807) (hp : TabsAt w a l) :
    Calls Try.prog 29 #[.slice a n c, .func (.func 30) #[] #[]] w fun e w' => e = .returned (.bool (l.any P.wrongB)) ∧ Below w.heap.size w w' := by
  subst hn
  have HI := Lib.hid (index_wrong a c l w hl hp)
  clear hp
  go_enter Try.func29, Try.ntmps29
  go_wp2_with (go_at_call 49; (with_reducible refine HI.out.mono ?_); rintro e w1 ⟨z, rfl, hz, hb1⟩)
  go_ret
  exact ⟨by rw [← hz]; rfl, hb1⟩
set_option maxRecDepth 100000 in
set_option maxHeartbeats 2000000 in
theorem index_number (a : Option Addr) (c : Nat) (l : List Nat) (w : World) (hl : l.length ≤ 9223372036854775807) (hp : NumsAt w a l) :
    Calls Try.prog 51 #[.slice a l.length c, .func (.func 32) #[] #[]] w fun e w' => ∃ z : Int, e = .returned (.int .i64 z) ∧ decide (0 ≤ z) = l.any P.badN ∧ Below w.heap.size w w' := by
  have Hp := Lib.hid hp
  clear hp
  go_enter Try.func51, Try.ntmps51
  go_wp2
  go_loopw [8] (fun i wr => ∃ k : Nat, k ≤ l.length ∧ i = .int .i64 k ∧ (l.take k).any P.badN = false ∧ Below w.heap.size w wr) (fun i _ => l.length - (intOf i).toNat)
  case atStart => exact ⟨0, by omega, rfl, rfl, Below.refl _ _⟩
  case round =>
    obtain ⟨k, hk, rfl, hany, hb⟩ := hrel
    have Hany := Lib.hid hany
    clear hany
    by_cases hlt : k < l.length
    · obtain ⟨b, o, rfl, hbb, hc⟩ := Hp.out k hlt
      have c0 := (hb.cell (p := ⟨b, o + k, none⟩) hbb).trans hc
      clear hc
      have Hyes := Lib.hid (show P.badN l[k] = true → l.any P.badN = true from fun h => List.any_eq_true.2 ⟨_, List.getElem_mem hlt, h⟩)
      have Hno := Lib.hid (show P.badN l[k] = false → (l.take (k + 1)).any P.badN = false from fun h => by rw [List.take_succ_eq_append_getElem hlt, List.any_append, Hany.out]; simp [h])
      have HF := Lib.hid (fun w => check1_any l[k] w)
      generalize l[k] = q at *
      cases hpr : P.badN q with
      | true =>
        have Hy := Lib.hid (Hyes.out hpr)
        rw [hpr] at HF
        clear hpr Hno Hyes
        go_wp2_with (go_at_call 32; (with_reducible refine (HF.out _).mono ?_); rintro e w1 ⟨rfl, hb1⟩)
        go_ret
        exact ⟨k, rfl, by rw [Hy.out]; simp, Chain.up hb hb1⟩
      | false =>
        have Hn := Lib.hid (Hno.out hpr)
        rw [hpr] at HF
        clear hpr Hno Hyes
        go_wp2_with (go_at_call 32; (with_reducible refine (HF.out _).mono ?_); rintro e w1 ⟨rfl, hb1⟩)
        go_roundw
        case rel => exact ⟨k + 1, by omega, by go_num, Hn.out, Chain.up hb hb1⟩
        case measure => simp [intOf]; omega
    · obtain rfl : k = l.length := by omega
      have Ha := Lib.hid (show l.any P.badN = false by have h := Hany.out; rwa [List.take_length] at h)
      go_wp2
      go_ret
      exact ⟨-1, rfl, by rw [Ha.out]; rfl, hb⟩
set_option maxRecDepth 100000 in
set_option maxHeartbeats 2000000 in
theorem contains_number (a : Option Addr) (n c : Nat) (l : List Nat) (hn : n = l.length) (w : World) (hl : l.length ≤ 9223372036854775807) (hp : NumsAt w a l) :
    Calls Try.prog 31 #[.slice a n c, .func (.func 32) #[] #[]] w fun e w' => e = .returned (.bool (l.any P.badN)) ∧ Below w.heap.size w w' := by
  subst hn
  have HI := Lib.hid (index_number a c l w hl hp)
  clear hp
  go_enter Try.func31, Try.ntmps31
  go_wp2_with (go_at_call 51; (with_reducible refine HI.out.mono ?_); rintro e w1 ⟨z, rfl, hz, hb1⟩)
  go_ret
  exact ⟨by rw [← hz]; rfl, hb1⟩

/-- The value of an edit whose slices lie at a and b. -/
abbrev edV (a : Option Addr) (n c : Nat) (b : Option Addr) (m d : Nat) (lo se ne : Nat) : Value := .agg #[.slice a n c, .slice b m d, V64 lo, V64 se, V64 ne]
/-- An edit lies so. -/
def EdAt (w : World) (a b : Option Addr) (e : P.Ed) : Prop := TabsAt w a e.add ∧ NumsAt w b e.drop
theorem EdAt.up {w w' : World} {a b : Option Addr} {e : P.Ed} (h : EdAt w a b e) (hb : Below w.heap.size w w') : EdAt w' a b e := ⟨RowsAt.up h.1 hb, NumsAt.below h.2 hb⟩
/-- A box of five cells. -/
theorem Bx.five {w : World} {g : Nat} {t : TypeId} {a b c d e : Value} (h : Bx w g t #[a, b, c, d, e]) : w.cell? ⟨g, 0, none⟩ = some a ∧ w.cell? ⟨g, 1, none⟩ = some b ∧ w.cell? ⟨g, 2, none⟩ = some c ∧ w.cell? ⟨g, 3, none⟩ = some d ∧ w.cell? ⟨g, 4, none⟩ = some e :=
  ⟨h.cell 0, h.cell 1, h.cell 2, h.cell 3, h.cell 4⟩

set_option maxRecDepth 100000 in
set_option maxHeartbeats 2000000 in
theorem check_any (e : P.Ed) (a b : Option Addr) (n c m d : Nat) (hn : n = e.add.length) (hm : m = e.drop.length) (w : World) (hl : e.add.length ≤ 9223372036854775807) (hk : e.drop.length ≤ 9223372036854775807) (hp : EdAt w a b e) (lo se ne : Nat) (r : Int) (hr : (P.chkE e : Int) = r) :
    Calls Try.prog 13 #[edV a n c b m d lo se ne] w fun e w' => e = .returned (.int .i64 r) ∧ Below w.heap.size w w' := by
  have HT := Lib.hid (fun wx (hx : Below w.heap.size w wx) => contains_wrong a n c e.add hn wx hl (RowsAt.up hp.1 hx))
  have HN := Lib.hid (fun wx (hx : Below w.heap.size w wx) => contains_number b m d e.drop hm wx hk (NumsAt.below hp.2 hx))
  have H := Lib.hid (show P.chkE e = if !e.add.any P.wrongB && !e.drop.any P.badN then 0 else 1 from rfl)
  have h0 := (Below.refl w.heap.size w).alloc (Nat.le_refl _) (.cells #[.slice a n c, .slice b m d, V64 lo, V64 se, V64 ne] 29)
  have hbx := Bx.fresh w 29 #[.slice a n c, .slice b m d, V64 lo, V64 se, V64 ne]
  have Hr := Lib.hid hr
  clear hp hr hn hm hl hk
  cases h1 : e.add.any P.wrongB with
  | true =>
    rw [h1] at HT H
    clear h1
    generalize e.drop.any P.badN = b2 at *
    go_enter Try.func13, Try.ntmps13
    go_wp2_with (go_at_call 29; (with_reducible refine (HT.out _ h0).mono ?_); rintro e w1 ⟨rfl, hb1⟩)
    go_ret
    exact ⟨by rw [← Hr.out, H.out]; rfl, Chain.up h0 hb1⟩
  | false =>
    rw [h1] at HT H
    clear h1
    cases h2 : e.drop.any P.badN with
    | true =>
      rw [h2] at HN H
      clear h2
      go_enter Try.func13, Try.ntmps13
      go_wp2_with (first
        | (go_at_call 29; (with_reducible refine (HT.out _ h0).mono ?_); rintro e w1 ⟨rfl, hb1⟩; have hc1 := Chain.up h0 hb1; have hbx1 := hbx.up hb1; obtain ⟨x0, x1, x2, x3, x4⟩ := hbx1.five)
        | (go_at_call 31; (with_reducible refine (HN.out _ hc1).mono ?_); rintro e w2 ⟨rfl, hb2⟩))
      go_ret
      exact ⟨by rw [← Hr.out, H.out]; rfl, Chain.up hc1 hb2⟩
    | false =>
      rw [h2] at HN H
      clear h2
      go_enter Try.func13, Try.ntmps13
      go_wp2_with (first
        | (go_at_call 29; (with_reducible refine (HT.out _ h0).mono ?_); rintro e w1 ⟨rfl, hb1⟩; have hc1 := Chain.up h0 hb1; have hbx1 := hbx.up hb1; obtain ⟨x0, x1, x2, x3, x4⟩ := hbx1.five)
        | (go_at_call 31; (with_reducible refine (HN.out _ hc1).mono ?_); rintro e w2 ⟨rfl, hb2⟩))
      go_ret
      exact ⟨by rw [← Hr.out, H.out]; rfl, Chain.up hc1 hb2⟩
end Go.Proofs.Ythpgigjplknomaa
