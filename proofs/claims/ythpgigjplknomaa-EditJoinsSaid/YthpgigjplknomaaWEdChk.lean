/- The walks of edit's number, key, wrong, and of Check. -/
import Derived.Test.YthpgigjplknomaaPEdit
import Derived.Test.YthpgigjplknomaaWUp
import Derived.Test.YthpgigjplknomaaWBx
import Derived.Test.YthpgigjplknomaaWTextsR
namespace Go.Proofs.Ythpgigjplknomaa
open Go.RowKit
set_option linter.unusedVariables false

/-- The value of a table. -/
abbrev tabV (t : P.Tab) : Value := .agg #[V64 t.n, .int .i64 t.level, .int .i64 t.count, .int .i64 t.size, S t.first, S t.last, V64 t.least, V64 t.most]
abbrev tabCells (t : P.Tab) : List Value := [V64 t.n, .int .i64 t.level, .int .i64 t.count, .int .i64 t.size, S t.first, S t.last, V64 t.least, V64 t.most]
theorem tabCells_len (t : P.Tab) : (tabCells t).length = 8 := rfl
theorem tabCells_one (t : P.Tab) : ∀ u ∈ tabCells t, u.oneCell' = true := by
  intro u hu
  simp at hu
  rcases hu with rfl | rfl | rfl | rfl | rfl | rfl | rfl | rfl <;> rfl
abbrev TabsAt (w : World) (a : Option Addr) (l : List P.Tab) : Prop := RowsAt 8 tabCells w a l
/-- A table's cells. -/
theorem tab_at {w : World} {a : Option Addr} {l : List P.Tab} (h : TabsAt w a l) (k : Nat) (hk : k < l.length) :
    ∃ b o, a = some ⟨b, o, none⟩ ∧ b < w.heap.size ∧ w.cell? ⟨b, o + k * 8, none⟩ = some (V64 l[k].n) ∧ w.cell? ⟨b, o + k * 8 + 1, none⟩ = some (.int .i64 l[k].level) ∧ w.cell? ⟨b, o + k * 8 + 2, none⟩ = some (.int .i64 l[k].count) ∧
      w.cell? ⟨b, o + k * 8 + 3, none⟩ = some (.int .i64 l[k].size) ∧ w.cell? ⟨b, o + k * 8 + 4, none⟩ = some (S l[k].first) ∧ w.cell? ⟨b, o + k * 8 + 5, none⟩ = some (S l[k].last) ∧
      w.cell? ⟨b, o + k * 8 + 6, none⟩ = some (V64 l[k].least) ∧ w.cell? ⟨b, o + k * 8 + 7, none⟩ = some (V64 l[k].most) := by
  obtain ⟨b, o, ha, hlt, hc⟩ := h k hk
  exact ⟨b, o, ha, hlt, hc 0 (by omega), hc 1 (by omega), hc 2 (by omega), hc 3 (by omega), hc 4 (by omega), hc 5 (by omega), hc 6 (by omega), hc 7 (by omega)⟩

set_option maxRecDepth 100000 in
set_option maxHeartbeats 1000000 in
theorem number_any (n : Nat) (w : World) (b : Bool) (hb : P.numB n = b) :
    Calls Try.prog 33 #[V64 n] w fun e w' => e = .returned (.bool b) ∧ w = w' := by
  have Hb := Lib.hid hb
  clear hb
  by_cases h1 : 1 ≤ n
  · have h1i : (1 : Int) ≤ (n : Int) := by omega
    by_cases h2 : n ≤ 1099511627776
    · have h2i : (n : Int) ≤ 1099511627776 := by omega
      have Hk := Lib.hid (show true = b by rw [← Hb.out]; exact (decide_eq_true ⟨h1, h2⟩).symm)
      clear h2
      go_enter Try.func33, Try.ntmps33
      go_wp2
      go_ret
      exact ⟨by rw [← Hk.out]; rfl, rfl⟩
    · have h2i : decide ((n : Int) ≤ 1099511627776) = false := decide_eq_false (by omega)
      have Hk := Lib.hid (show false = b by rw [← Hb.out]; exact (decide_eq_false (fun h => h2 h.2)).symm)
      clear h2
      go_enter Try.func33, Try.ntmps33
      go_wp2
      go_ret
      exact ⟨by rw [← Hk.out]; rfl, rfl⟩
  · have h1i : (n : Int) < 1 := by omega
    have Hk := Lib.hid (show false = b by rw [← Hb.out]; exact (decide_eq_false (fun h => h1 h.1)).symm)
    clear h1
    go_enter Try.func33, Try.ntmps33
    go_wp2
    go_ret
    exact ⟨by rw [← Hk.out]; rfl, rfl⟩
set_option maxRecDepth 100000 in
set_option maxHeartbeats 1000000 in
theorem key_any (s : List UInt8) (w : World) (b : Bool) (hb : P.keyB s = b) :
    Calls Try.prog 50 #[S s] w fun e w' => e = .returned (.bool b) ∧ w = w' := by
  have Hb := Lib.hid hb
  clear hb
  by_cases h1 : s = []
  · subst h1
    have Hk := Lib.hid (show false = b by rw [← Hb.out]; rfl)
    go_enter Try.func50, Try.ntmps50
    go_wp2
    go_ret
    exact ⟨by rw [← Hk.out]; rfl, rfl⟩
  · have hp : 1 ≤ s.length := by cases s with | nil => exact absurd rfl h1 | cons a b => simp
    have e1 : (s == []) = false := beq_eq_false_iff_ne.2 h1
    have e2 : (s != []) = true := by rw [bne, e1]; rfl
    by_cases h2 : s.length ≤ 64
    · have h2i : (s.length : Int) ≤ 64 := by omega
      have Hk := Lib.hid (show true = b by rw [← Hb.out]; exact (decide_eq_true ⟨hp, h2⟩).symm)
      clear h2 hp
      go_enter Try.func50, Try.ntmps50
      go_wp2
      go_ret
      exact ⟨by rw [← Hk.out]; rfl, rfl⟩
    · have h2i : decide ((s.length : Int) ≤ 64) = false := decide_eq_false (by omega)
      have Hk := Lib.hid (show false = b by rw [← Hb.out]; exact (decide_eq_false (fun h => h2 h.2)).symm)
      clear h2 hp
      go_enter Try.func50, Try.ntmps50
      go_wp2
      go_ret
      exact ⟨by rw [← Hk.out]; rfl, rfl⟩


set_option maxRecDepth 100000 in
set_option maxHeartbeats 4000000 in
theorem wrong_any (t : P.Tab) (w : World) :
    Calls Try.prog 30 #[tabV t] w fun e w' => e = .returned (.bool (P.wrongB t)) ∧ Below w.heap.size w w' := by
  obtain ⟨n, level, count, size, first, last, least, most⟩ := t
  have h0 := (Below.refl w.heap.size w).alloc (Nat.le_refl _) (.cells #[V64 n, .int .i64 level, .int .i64 count, .int .i64 size, S first, S last, V64 least, V64 most] 31)
  have HN := Lib.hid (fun wx => number_any n wx _ rfl)
  have HF := Lib.hid (fun wx => key_any first wx _ rfl)
  have HL := Lib.hid (fun wx => key_any last wx _ rfl)
  have H := Lib.hid (show P.wrongB ⟨n, level, count, size, first, last, least, most⟩ = (decide (level < 0) || (decide (4 ≤ level) || (decide (count < 1) || (decide (size < 1) || (!P.numB n || (!P.keyB first || (!P.keyB last || (P.gtB first last || (decide (least < 1) || decide (most < least))))))))) ) from rfl)
  have H23 := Lib.hid (show first = last → P.keyB first = P.keyB last from fun h => by rw [h])
  generalize P.numB n = b1 at *
  generalize P.keyB first = b2 at *
  generalize P.keyB last = b3 at *
  cases hb : Op.bytesLess first last with
  | true =>
    rw [show P.gtB first last = false by unfold P.gtB; rw [hb]; rfl] at H
    go_enter Try.func30, Try.ntmps30
    go_wp2_with (first
      | (go_at_call 33; (with_reducible refine (HN.out _).mono ?_); rintro e w' ⟨rfl, rfl⟩)
      | (go_at_call 50; (with_reducible refine (HF.out _).mono ?_); rintro e w' ⟨rfl, rfl⟩)
      | (go_at_call 50; (with_reducible refine (HL.out _).mono ?_); rintro e w' ⟨rfl, rfl⟩))
    all_goals (go_ret; refine ⟨ret_bool ?_, h0⟩; rw [H.out]; first | (simp [*]; done) | (simp [*]; omega) | (clear HN HF HL h0; rw [Bool.eq_iff_iff]; simp [*]; omega))
  | false =>
    by_cases he : first = last
    · obtain rfl := H23.out he
      subst he
      rw [show P.gtB first first = false by unfold P.gtB; rw [hb, beq_self_eq_true]; rfl] at H
      go_enter Try.func30, Try.ntmps30
      go_wp2_with (first
        | (go_at_call 33; (with_reducible refine (HN.out _).mono ?_); rintro e w' ⟨rfl, rfl⟩)
        | (go_at_call 50; (with_reducible refine (HF.out _).mono ?_); rintro e w' ⟨rfl, rfl⟩)
        | (go_at_call 50; (with_reducible refine (HL.out _).mono ?_); rintro e w' ⟨rfl, rfl⟩))
      all_goals (go_ret; refine ⟨ret_bool ?_, h0⟩; rw [H.out]; first | (simp [*]; done) | (simp [*]; omega) | (clear HN HF HL h0; rw [Bool.eq_iff_iff]; simp [*]; omega))
    · have he1 : (first == last) = false := beq_eq_false_iff_ne.2 he
      rw [show P.gtB first last = true by unfold P.gtB; rw [hb, he1]; rfl] at H
      go_enter Try.func30, Try.ntmps30
      go_wp2_with (first
        | (go_at_call 33; (with_reducible refine (HN.out _).mono ?_); rintro e w' ⟨rfl, rfl⟩)
        | (go_at_call 50; (with_reducible refine (HF.out _).mono ?_); rintro e w' ⟨rfl, rfl⟩)
        | (go_at_call 50; (with_reducible refine (HL.out _).mono ?_); rintro e w' ⟨rfl, rfl⟩))
      all_goals (go_ret; refine ⟨ret_bool ?_, h0⟩; rw [H.out]; first | (simp [*]; done) | (simp [*]; omega) | (clear HN HF HL h0; rw [Bool.eq_iff_iff]; simp [*]; omega))
end Go.Proofs.Ythpgigjplknomaa
