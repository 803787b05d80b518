/- The walks of slices.Contains at numbers, and of slices.ContainsFunc at join's closure. -/
import Derived.Test.YthpgigjplknomaaWEdClone
import Derived.Test.YthpgigjplknomaaPEdit3
namespace Go.Proofs.Ythpgigjplknomaa
open Go.RowKit
set_option linter.unusedVariables false

set_option maxRecDepth 100000 in
set_option maxHeartbeats 2000000 in
theorem index_n (a : Option Addr) (c : Nat) (l : List Nat) (v : Nat) (w : World) (hl : l.length ≤ 9223372036854775807) (hp : NumsAt w a l) :
    Calls Try.prog 61 #[.slice a l.length c, V64 v] w fun e w' => ∃ z : Int, e = .returned (.int .i64 z) ∧ decide (0 ≤ z) = l.any (fun n => decide (v = n)) ∧ Below w.heap.size w w' := by
  have Hp := Lib.hid hp
  clear hp
  go_enter Try.func61, Try.ntmps61
  go_wp2
  go_loopw [8] (fun i wr => ∃ k : Nat, k ≤ l.length ∧ i = .int .i64 k ∧ (l.take k).any (fun n => decide (v = n)) = false ∧ Below w.heap.size w wr) (fun i _ => l.length - (intOf i).toNat)
  case atStart => exact ⟨0, by omega, rfl, rfl, Below.refl _ _⟩
  case round =>
    obtain ⟨k, hk, rfl, hany, hb⟩ := hrel
    have Hany := Lib.hid hany
    clear hany
    by_cases hlt : k < l.length
    · obtain ⟨b, o, rfl, hbb, c0⟩ := NumsAt.below Hp.out hb k hlt
      have Hyes := Lib.hid (show v = l[k] → l.any (fun n => decide (v = n)) = true from fun h => List.any_eq_true.2 ⟨_, List.getElem_mem hlt, decide_eq_true h⟩)
      have Hno := Lib.hid (show ¬ v = l[k] → (l.take (k + 1)).any (fun n => decide (v = n)) = false from fun h => by rw [List.take_succ_eq_append_getElem hlt, List.any_append, Hany.out]; simp [h])
      generalize l[k] = q at *
      by_cases he : v = q
      · have Hy := Lib.hid (Hyes.out he)
        subst he
        clear Hno Hyes
        go_wp2
        go_ret
        exact ⟨k, rfl, by rw [Hy.out]; simp, hb⟩
      · have Hn := Lib.hid (Hno.out he)
        have he1 : ((v : Int) == (q : Int)) = false := beq_eq_false_iff_ne.2 (by omega)
        clear Hno Hyes he
        go_wp2
        go_roundw
        case rel => exact ⟨k + 1, by omega, by go_num, Hn.out, hb⟩
        case measure => simp [intOf]; omega
    · obtain rfl : k = l.length := by omega
      have Ha := Lib.hid (show l.any (fun n => decide (v = n)) = false by have h := Hany.out; rwa [List.take_length] at h)
      go_wp2
      go_ret
      exact ⟨-1, rfl, by rw [Ha.out]; rfl, hb⟩
set_option maxRecDepth 100000 in
set_option maxHeartbeats 2000000 in
theorem contains_n (a : Option Addr) (n c : Nat) (l : List Nat) (v : Nat) (hn : n = l.length) (w : World) (hl : l.length ≤ 9223372036854775807) (hp : NumsAt w a l) (r : Bool) (hr : P.hasN l v = r) :
    Calls Try.prog 54 #[.slice a n c, V64 v] w fun e w' => e = .returned (.bool r) ∧ Below w.heap.size w w' := by
  subst hn
  have HI := Lib.hid (index_n a c l v w hl hp)
  clear hp
  have Hr := Lib.hid hr
  clear hr
  go_enter Try.func54, Try.ntmps54
  go_wp2_with (go_at_call 61; (with_reducible refine HI.out.mono ?_); rintro e w1 ⟨z, rfl, hz, hb1⟩)
  go_ret
  exact ⟨by rw [← Hr.out, P.hasN, ← hz]; rfl, hb1⟩
set_option maxRecDepth 100000 in
set_option maxHeartbeats 2000000 in
theorem joinF_any (t : P.Tab) (g n : Nat) (w : World) (hx : Bx w g 27 #[V64 n]) :
    Calls Try.prog 55 #[tabV t, .pointer (some ⟨g, 0, none⟩)] w fun e w' => e = .returned (.bool (P.isN n t)) ∧ Below w.heap.size w w' := by
  obtain ⟨tn, level, count, size, first, last, least, most⟩ := t
  have h0 := Lib.hid ((Below.refl w.heap.size w).alloc (Nat.le_refl _) (.cells #[V64 tn, .int .i64 level, .int .i64 count, .int .i64 size, S first, S last, V64 least, V64 most] 31))
  have hx0 := hx.cell 0
  have hx1 := (hx.up h0.out).cell 0
  by_cases he : tn = n
  · subst he
    have Hk := Lib.hid (show P.isN tn ⟨tn, level, count, size, first, last, least, most⟩ = true by simp [P.isN])
    generalize P.isN tn ⟨tn, level, count, size, first, last, least, most⟩ = r at *
    go_enter Try.func55, Try.ntmps55
    go_wp2
    go_ret
    exact ⟨by rw [Hk.out]; simp, h0.out⟩
  · have Hk := Lib.hid (show P.isN n ⟨tn, level, count, size, first, last, least, most⟩ = false by simp [P.isN, he])
    have he1 : ((tn : Int) == (n : Int)) = false := beq_eq_false_iff_ne.2 (by omega)
    generalize P.isN n ⟨tn, level, count, size, first, last, least, most⟩ = r at *
    go_enter Try.func55, Try.ntmps55
    go_wp2
    go_ret
    exact ⟨by rw [Hk.out]; simp, h0.out⟩
set_option maxRecDepth 100000 in
set_option maxHeartbeats 2000000 in
theorem index_join (a : Option Addr) (c : Nat) (l : List P.Tab) (g n : Nat) (w : World) (hl : l.length ≤ 9223372036854775807) (hp : TabsAt w a l) (hx : Bx w g 27 #[V64 n]) :
    Calls Try.prog 49 #[.slice a l.length c, .func (.func 55) #[] #[.pointer (some ⟨g, 0, none⟩)]] w fun e w' => ∃ z : Int, e = .returned (.int .i64 z) ∧ decide (0 ≤ z) = l.any (P.isN n) ∧ Below w.heap.size w w' := by
  have Hp := Lib.hid hp
  clear hp
  go_enter Try.func49, Try.ntmps49
  go_wp2
  go_loopw [8] (fun i wr => ∃ k : Nat, k ≤ l.length ∧ i = .int .i64 k ∧ (l.take k).any (P.isN n) = false ∧ Below w.heap.size w wr) (fun i _ => l.length - (intOf i).toNat)
  case atStart => exact ⟨0, by omega, rfl, rfl, Below.refl _ _⟩
  case round =>
    obtain ⟨k, hk, rfl, hany, hb⟩ := hrel
    have Hany := Lib.hid hany
    clear hany
    by_cases hlt : k < l.length
    · obtain ⟨b, o, rfl, hbb, c0, c1, c2, c3, c4, c5, c6, c7⟩ := tab_at (RowsAt.up Hp.out hb) k hlt
      have Hyes := Lib.hid (show P.isN n l[k] = true → l.any (P.isN n) = true from fun h => List.any_eq_true.2 ⟨_, List.getElem_mem hlt, h⟩)
      have Hno := Lib.hid (show P.isN n l[k] = false → (l.take (k + 1)).any (P.isN n) = false from fun h => by rw [List.take_succ_eq_append_getElem hlt, List.any_append, Hany.out]; simp [h])
      have HF := Lib.hid (fun (w1 : World) (hx1 : Below w.heap.size w w1) => joinF_any l[k] g n w1 (hx.up hx1))
      generalize l[k] = q at *
      obtain ⟨tn, tl, tc, ts, tf, tz, te, tm⟩ := q
      simp only at c0 c1 c2 c3 c4 c5 c6 c7
      cases hpr : P.isN n ⟨tn, tl, tc, ts, tf, tz, te, tm⟩ with
      | true =>
        have Hy := Lib.hid (Hyes.out hpr)
        rw [hpr] at HF
        clear hpr Hno Hyes
        go_wp2_with (go_at_call 55; (with_reducible refine (HF.out _ hb).mono ?_); rintro e w1 ⟨rfl, hb1⟩)
        go_ret
        exact ⟨k, rfl, by rw [Hy.out]; simp, Chain.up hb hb1⟩
      | false =>
        have Hn := Lib.hid (Hno.out hpr)
        rw [hpr] at HF
        clear hpr Hno Hyes
        go_wp2_with (go_at_call 55; (with_reducible refine (HF.out _ hb).mono ?_); rintro e w1 ⟨rfl, hb1⟩)
        go_roundw
        case rel => exact ⟨k + 1, by omega, by go_num, Hn.out, Chain.up hb hb1⟩
        case measure => simp [intOf]; omega
    · obtain rfl : k = l.length := by omega
      have Ha := Lib.hid (show l.any (P.isN n) = false by have h := Hany.out; rwa [List.take_length] at h)
      go_wp2
      go_ret
      exact ⟨-1, rfl, by rw [Ha.out]; rfl, hb⟩
set_option maxRecDepth 100000 in
set_option maxHeartbeats 2000000 in
theorem contains_join (a : Option Addr) (m c : Nat) (l : List P.Tab) (g n : Nat) (hm : m = l.length) (w : World) (hl : l.length ≤ 9223372036854775807) (hp : TabsAt w a l) (hx : Bx w g 27 #[V64 n]) (r : Bool) (hr : l.any (P.isN n) = r) :
    Calls Try.prog 29 #[.slice a m c, .func (.func 55) #[] #[.pointer (some ⟨g, 0, none⟩)]] w fun e w' => e = .returned (.bool r) ∧ Below w.heap.size w w' := by
  subst hm
  have HI := Lib.hid (index_join a c l g n w hl hp hx)
  clear hp hx
  have Hr := Lib.hid hr
  clear hr
  go_enter Try.func29, Try.ntmps29
  go_wp2_with (go_at_call 49; (with_reducible refine HI.out.mono ?_); rintro e w1 ⟨z, rfl, hz, hb1⟩)
  go_ret
  exact ⟨by rw [← Hr.out, ← hz]; rfl, hb1⟩
end Go.Proofs.Ythpgigjplknomaa
