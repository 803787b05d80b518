/- The walk of the document's May. -/
import Derived.Test.YthpgigjplknomaaWEdOps
namespace Go.Proofs.Ythpgigjplknomaa
open Go.RowKit
set_option linter.unusedVariables false

set_option maxRecDepth 100000 in
set_option maxHeartbeats 8000000 in
theorem may_any (e : P.Ed) (a b : Option Addr) (n c m d : Nat) (hn : n = e.add.length) (hm : m = e.drop.length) (w : World) (hl : e.add.length ≤ 9223372036854775807) (hk : e.drop.length ≤ 9223372036854775807) (hp : EdAt w a b e) (lo se ne : Nat) (r : Bool) (hr : P.mayB e = r) :
    Calls Try.prog 21 #[edV a n c b m d lo se ne] w fun e' w' => e' = .returned (.bool r) ∧ Below w.heap.size w w' := by
  have Ht := Lib.hid hp.1
  have Hd := Lib.hid hp.2
  have Hr := Lib.hid hr
  have Hn := Lib.hid hn
  have Hm := Lib.hid hm
  have hnb : n ≤ 9223372036854775807 := by omega
  have hmb : m ≤ 9223372036854775807 := by omega
  have H := Lib.hid (show P.mayB e = (!e.add.any P.wrongB && !e.drop.any P.badN) from rfl)
  have h0 := (Below.refl w.heap.size w).alloc (Nat.le_refl _) (.cells #[.slice a n c, .slice b m d, V64 lo, V64 se, V64 ne] 38)
  have hbx := Bx.fresh w 38 #[.slice a n c, .slice b m d, V64 lo, V64 se, V64 ne]
  clear hp hr hn hm hl hk
  generalize he : e.add = add at *
  generalize e.drop = drop at *
  clear he
  go_enter Try.func21, Try.ntmps21
  go_wp2
  go_loopw [3] (fun i wr => ∃ k : Nat, k ≤ n ∧ i = .int .i64 k ∧ (add.take k).any P.wrongB = false ∧ Bx wr w.heap.size 38 #[.slice a n c, .slice b m d, V64 lo, V64 se, V64 ne] ∧ Below w.heap.size w wr) (fun i _ => n - (intOf i).toNat)
  case atStart => exact ⟨0, by omega, rfl, rfl, hbx, h0⟩
  case round =>
    clear hbx h0
    obtain ⟨k, hk, rfl, hany, hbx, hb⟩ := hrel
    obtain ⟨y0, y1, y2, y3, y4⟩ := hbx.five
    have Hany := Lib.hid hany
    clear hany
    by_cases hlt : k < n
    · have hlt' : k < add.length := by have := Hn.out; omega
      obtain ⟨bb, o, rfl, hbb, c0, c1, c2, c3, c4, c5, c6, c7⟩ := tab_at (RowsAt.up Ht.out hb) k hlt'
      have Hyes := Lib.hid (show P.wrongB add[k] = true → r = false from fun h => by rw [← Hr.out, H.out, List.any_eq_true.2 ⟨_, List.getElem_mem hlt', h⟩]; rfl)
      have Hno := Lib.hid (show P.wrongB add[k] = false → (add.take (k + 1)).any P.wrongB = false from fun h => by rw [List.take_succ_eq_append_getElem hlt', List.any_append, Hany.out]; simp [h])
      generalize add[k] = t at *
      obtain ⟨tn, tl, tc, ts, tf, tz, te, tm⟩ := t
      simp only at c0 c1 c2 c3 c4 c5 c6 c7
      have Hw := Lib.hid (show P.wrongB ⟨tn, tl, tc, ts, tf, tz, te, tm⟩ = (decide (tl < 0) || (decide (4 ≤ tl) || (decide (tc < 1) || (decide (ts < 1) || (!P.numB tn || (!P.keyB tf || (!P.keyB tz || (P.gtB tf tz || (decide (te < 1) || decide (tm < te))))))))) ) from rfl)
      have hba := (Below.refl wr.heap.size wr).alloc (Nat.le_refl _) (.cells #[V64 tn, .int .i64 tl, .int .i64 tc, .int .i64 ts, S tf, S tz, V64 te, V64 tm] 31)
      cases hwb : P.wrongB ⟨tn, tl, tc, ts, tf, tz, te, tm⟩ with
      | false =>
        have HnoF := Lib.hid (Hno.out hwb)
        clear Hno
        obtain ⟨h1, h2, h3, h4, h5, h6, h7, h8, h9, h10⟩ := P.wrong_no hwb
        simp only at h1 h2 h3 h4 h5 h6 h7 h8 h9 h10
        have hz : ((te : Int) == 0) = false := beq_eq_false_iff_ne.2 (by omega)
        clear Hyes Hw hwb
        cases hbl : Op.bytesLess tf tz with
        | true =>
          go_wp2
          go_roundw
          case rel => exact ⟨k + 1, by omega, by go_num, HnoF.out, hbx.up hba, Chain.up hb hba⟩
          case measure => simp [intOf]; omega
        | false =>
          have he : tf = tz := by unfold P.gtB at h8; rw [hbl] at h8; simpa using h8
          subst he
          go_wp2
          go_roundw
          case rel => exact ⟨k + 1, by omega, by go_num, HnoF.out, hbx.up hba, Chain.up hb hba⟩
          case measure => simp [intOf]; omega
      | true =>
        have HyesF := Lib.hid (Hyes.out hwb)
        clear Hyes Hno
        rw [hwb] at Hw
        by_cases hz0 : te = 0
        · subst hz0
          cases hbl : Op.bytesLess tf tz with
          | true =>
            have hd := Hw.out
            rw [show P.gtB tf tz = false by unfold P.gtB; rw [hbl]; rfl] at hd
            simp only [P.numB, P.keyB, Bool.true_eq, Bool.or_eq_true, decide_eq_true_eq, Bool.not_eq_true', decide_eq_false_iff_not, Bool.false_eq_true, false_or] at hd
            have Hd0 := Lib.hid hd
            clear hd

            go_wp2
            all_goals first
              | (go_ret; exact ⟨ret_bool HyesF.out.symm, Chain.up hb hba⟩)
              | (exfalso; have hd := Hd0.out; omega)
          | false =>
            by_cases he : tf = tz
            · subst he
              have hd := Hw.out
              rw [show P.gtB tf tf = false by unfold P.gtB; rw [hbl, beq_self_eq_true]; rfl] at hd
              simp only [P.numB, P.keyB, Bool.true_eq, Bool.or_eq_true, decide_eq_true_eq, Bool.not_eq_true', decide_eq_false_iff_not, Bool.false_eq_true, false_or] at hd
              have Hd0 := Lib.hid hd
              clear hd

              go_wp2
              all_goals first
                | (go_ret; exact ⟨ret_bool HyesF.out.symm, Chain.up hb hba⟩)
                | (exfalso; have hd := Hd0.out; omega)
            · have he1 : (tf == tz) = false := beq_eq_false_iff_ne.2 he
              go_wp2
              all_goals first
                | (go_ret; exact ⟨ret_bool HyesF.out.symm, Chain.up hb hba⟩)
                | (exfalso; omega)
        · have hz1 : 1 ≤ te := by omega
          have hz : ((te : Int) == 0) = false := beq_eq_false_iff_ne.2 (by omega)
          clear hz0
          cases hbl : Op.bytesLess tf tz with
          | true =>
            have hd := Hw.out
            rw [show P.gtB tf tz = false by unfold P.gtB; rw [hbl]; rfl] at hd
            simp only [P.numB, P.keyB, Bool.true_eq, Bool.or_eq_true, decide_eq_true_eq, Bool.not_eq_true', decide_eq_false_iff_not, Bool.false_eq_true, false_or] at hd
            have Hd0 := Lib.hid hd
            clear hd

            go_wp2
            all_goals first
              | (go_ret; exact ⟨ret_bool HyesF.out.symm, Chain.up hb hba⟩)
              | (exfalso; have hd := Hd0.out; omega)
          | false =>
            by_cases he : tf = tz
            · subst he
              have hd := Hw.out
              rw [show P.gtB tf tf = false by unfold P.gtB; rw [hbl, beq_self_eq_true]; rfl] at hd
              simp only [P.numB, P.keyB, Bool.true_eq, Bool.or_eq_true, decide_eq_true_eq, Bool.not_eq_true', decide_eq_false_iff_not, Bool.false_eq_true, false_or] at hd
              have Hd0 := Lib.hid hd
              clear hd

              go_wp2
              all_goals first
                | (go_ret; exact ⟨ret_bool HyesF.out.symm, Chain.up hb hba⟩)
                | (exfalso; have hd := Hd0.out; omega)
            · have he1 : (tf == tz) = false := beq_eq_false_iff_ne.2 he
              go_wp2
              all_goals first
                | (go_ret; exact ⟨ret_bool HyesF.out.symm, Chain.up hb hba⟩)
                | (exfalso; omega)
    · obtain rfl : k = n := by omega
      have Ha := Lib.hid (show add.any P.wrongB = false by have h := Hany.out; have h2 := Hn.out; rw [List.take_of_length_le (by omega)] at h; exact h)
      rw [Ha.out] at H
      clear hlt hk
      have hbx0 := hbx
      have hb0 := hb
      go_wp2
      clear hbx hb y0 y1 y2 y3 y4
      go_loopw [5] (fun i wr => ∃ j : Nat, j ≤ m ∧ i = .int .i64 j ∧ (drop.take j).any P.badN = false ∧ Bx wr w.heap.size 38 #[.slice a k c, .slice b m d, V64 lo, V64 se, V64 ne] ∧ Below w.heap.size w wr) (fun i _ => m - (intOf i).toNat)
      case atStart => exact ⟨0, by omega, rfl, rfl, hbx0, hb0⟩
      case round =>
        clear hbx0 hb0
        obtain ⟨j, hj, rfl, hany, hbx, hb⟩ := hrel
        obtain ⟨y0, y1, y2, y3, y4⟩ := hbx.five
        have Hanyj := Lib.hid hany
        clear hany
        by_cases hlt : j < m
        · have hlt' : j < drop.length := by have := Hm.out; omega
          obtain ⟨bb, o, rfl, hbb, hc⟩ := Hd.out j hlt'
          have c0 := (hb.cell (p := ⟨bb, o + j, none⟩) hbb).trans hc
          clear hc
          have Hyes := Lib.hid (show P.badN drop[j] = true → r = false from fun h => by rw [← Hr.out, H.out, List.any_eq_true.2 ⟨_, List.getElem_mem hlt', h⟩]; rfl)
          have Hno := Lib.hid (show P.badN drop[j] = false → (drop.take (j + 1)).any P.badN = false from fun h => by rw [List.take_succ_eq_append_getElem hlt', List.any_append, Hanyj.out]; simp [h])
          generalize drop[j] = q at *
          by_cases hq1 : 1 ≤ q
          · have q1 : (1 : Int) ≤ (q : Int) := by omega
            by_cases hq2 : q ≤ 1099511627776
            · have q2 : (q : Int) ≤ 1099511627776 := by omega
              have Hno := Lib.hid (Hno.out (by unfold P.badN P.numB; rw [decide_eq_true ⟨hq1, hq2⟩]; rfl))
              clear hq2
              go_wp2
              go_roundw
              case rel => exact ⟨j + 1, by omega, by go_num, Hno.out, hbx, hb⟩
              case measure => simp [intOf]; omega
            · have q2 : (1099511627776 : Int) < (q : Int) := by omega
              have Hyes := Lib.hid (Hyes.out (by unfold P.badN P.numB; rw [decide_eq_false (fun h => hq2 h.2)]; rfl))
              clear hq2
              go_wp2
              go_ret
              exact ⟨ret_bool Hyes.out.symm, hb⟩
          · have q1 : (q : Int) < 1 := by omega
            have Hyes := Lib.hid (Hyes.out (by unfold P.badN P.numB; rw [decide_eq_false (fun h => hq1 h.1)]; rfl))
            clear hq1
            go_wp2
            go_ret
            exact ⟨ret_bool Hyes.out.symm, hb⟩
        · obtain rfl : j = m := by omega
          have Hb := Lib.hid (show true = r by have h := Hanyj.out; have h2 := Hm.out; rw [List.take_of_length_le (by omega)] at h; rw [← Hr.out, H.out, h]; rfl)
          go_wp2
          go_ret
          exact ⟨ret_bool Hb.out, hb⟩
end Go.Proofs.Ythpgigjplknomaa
