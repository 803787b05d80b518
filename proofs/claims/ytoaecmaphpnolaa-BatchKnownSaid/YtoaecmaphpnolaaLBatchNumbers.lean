/- The walk of BatchNumbers: it answers true. -/
import Derived.Test.YtoaecmaphpnolaaWLaw6
import Derived.Test.YtoaecmaphpnolaaWGreat
import Derived.Deep.RegionHeld3
import Derived.Deep.RegionWith
import Derived.BigQuiet
import Derived.Test.YtoaecmaphpnolaaWSkip
namespace Go.Proofs.Ytoaecmaphpnolaa
open Go.RowKit
set_option linter.unusedVariables false

/-- What Entries gives back, as a slice. -/
def EntsV (n : Nat) (es : List (P.Op × Nat)) (e : Ending) (w : World) : Prop := ∃ a c, e = .returned (.slice a n c) ∧ RowsAt 4 entCells w a es
theorem entries_v (q : Nat) (z : Int) (hz : z = (q : Int)) (a : Option Addr) (n c : Nat) (l : List P.Op) (hn : n = l.length) (w : World) (hs : q < 18446744073709551616) (hl : l.length ≤ 10000) (hp : OpsAt w a l) :
    Calls Try.prog 14 #[.agg #[.int .u64 z, .slice a n c]] w fun e w' => EntsV n (P.ents q l) e w' ∧ Below w.heap.size w w' := by
  subst hz hn
  refine (entries_any q a c l w hs hl hp).mono ?_
  rintro e w' ⟨v, rfl, hown, hb⟩
  obtain ⟨a5, c5, rfl, hr, _⟩ := hown.is entCells_len
  exact ⟨⟨a5, c5, by rw [P.ents_len], hr⟩, hb⟩
theorem refEntries_v (q : Nat) (z : Int) (hz : z = (q : Int)) (a : Option Addr) (n c : Nat) (l : List P.Op) (hn : n = l.length) (w : World) (hs : q < 18446744073709551616) (hl : l.length ≤ 10000) (hp : OpsAt w a l) :
    Calls Try.prog 19 #[.agg #[.int .u64 z, .slice a n c]] w fun e w' => EntsV n (P.ents q l) e w' ∧ Below w.heap.size w w' := by
  subst hz hn
  refine (refEntries_any q a c l w hs hl hp).mono ?_
  rintro e w' ⟨v, rfl, hown, hb⟩
  obtain ⟨a5, c5, rfl, hr, _⟩ := hown.is entCells_len
  exact ⟨⟨a5, c5, by rw [P.ents_len], hr⟩, hb⟩
/-- An entry's cells. -/
theorem ent_at {q : Nat} {l : List P.Op} {w : World} {a : Option Addr} (h : RowsAt 4 entCells w a (P.ents q l)) (k : Nat) (hk : k < l.length) :
    ∃ b o, a = some ⟨b, o, none⟩ ∧ b < w.heap.size ∧ w.cell? ⟨b, o + k * 4, none⟩ = some (S l[k].key) ∧ w.cell? ⟨b, o + k * 4 + 1, none⟩ = some (S l[k].val) ∧
      w.cell? ⟨b, o + k * 4 + 2, none⟩ = some (V64 ((q + k) % 18446744073709551616)) ∧ w.cell? ⟨b, o + k * 4 + 3, none⟩ = some (.bool l[k].gone) := by
  obtain ⟨b, o, ha, hlt, hc⟩ := h k (by rw [P.ents_len]; exact hk)
  rw [P.ents_at q l k hk] at hc
  exact ⟨b, o, ha, hlt, hc 0 (by omega), hc 1 (by omega), hc 2 (by omega), hc 3 (by omega)⟩
theorem last_v (q : Nat) (z : Int) (hz : z = (q : Int)) (a : Option Addr) (n c : Nat) (w : World) (hs : q < 18446744073709551616) (hn : n ≤ 9223372036854775807) (r : Nat) (hr : P.lastN q n = r) :
    Calls Try.prog 13 #[.agg #[.int .u64 z, .slice a n c]] w fun e w' => e = .returned (.int .u64 (r : Int)) ∧ Below w.heap.size w w' := by
  subst hz hr
  exact last_any q n a c w hs hn

set_option maxRecDepth 100000 in
set_option maxHeartbeats 4000000 in
theorem law_numbers (q : Nat) (a : Option Addr) (c : Nat) (l : List P.Op) (w : World) (hq : q < 18446744073709551616) (hl : l.length ≤ 9223372036854775807) (hp : OpsAt w a l) :
    Calls Try.prog 8 #[batchV q a l.length c] w fun e w' => e = .returned (.bool true) ∧ Below w.heap.size w w' := by
  have HG := Lib.hid (fun wx (hx : Below w.heap.size w wx) => great_v q a c l wx hl (hp.up hx))
  have h0 := (Below.refl w.heap.size w).alloc (Nat.le_refl _) (.cells #[.int .u64 (q : Int), .slice a l.length c] 27)
  have hbx := Bx.fresh w 27 #[.int .u64 (q : Int), .slice a l.length c]
  cases hg : P.greatB l with
  | true =>
    rw [hg] at HG
    clear hp hg
    generalize l.length = n at *
    go_enter Try.func8, Try.ntmps8
    go_wp2_with (first
      | (go_at_call 16; (with_reducible refine (HG.out _ h0).mono ?_); rintro e w1 ⟨rfl, hb1⟩)
      | (go_at_call 15; (with_reducible refine (awake_any _).mono ?_); rintro e w2 ⟨rfl, hb2⟩))
    go_ret
    exact ⟨rfl, Chain.up (Chain.up h0 hb1) hb2⟩
  | false =>
    rw [hg] at HG
    have hl60 := (P.greatB_no hg).1
    have Hq := Lib.hid hq
    have HE := Lib.hid (fun wx (hx : Below w.heap.size w wx) => entries_v q _ rfl a _ c l rfl wx hq (by omega) (hp.up hx))
    have Hp := Lib.hid hp
    clear hp hg hl hq
    generalize hn : l.length = n at *
    have Hn := Lib.hid hn
    clear hn
    go_enter Try.func8, Try.ntmps8
    go_wp2_with (first
      | (go_at_call 16; (with_reducible refine (HG.out _ h0).mono ?_); rintro e w1 ⟨rfl, hb1⟩; have hc1 := Chain.up h0 hb1; have hbx1 := hbx.up hb1; obtain ⟨x0, x1, _, _⟩ := hbx1.two)
      | (go_at_call 14; (with_reducible refine (HE.out _ hc1).mono ?_); rintro e w2 ⟨⟨a2, c2, rfl, hr2⟩, hb2⟩; have hc2 := Chain.up hc1 hb2; have hbx2 := hbx1.up hb2; obtain ⟨y0, y1, _, _⟩ := hbx2.two))
    clear hb1 hc1 hbx hbx1 x0 x1 h0 hb2
    go_loopw [4] (fun i wr => ∃ k : Nat, k ≤ n ∧ i = .int .i64 k ∧ Below w2.heap.size w2 wr) (fun i _ => n - (intOf i).toNat)
    case atStart => exact ⟨0, by omega, rfl, Below.refl _ _⟩
    case round =>
      obtain ⟨k, hk, rfl, hb⟩ := hrel
      have u0 := cell_up hb y0
      have u1 := cell_up hb y1
      by_cases hlt : k < n
      · have hlt' : k < l.length := by have := Hn.out; omega
        obtain ⟨b, o, rfl, hbb, q0, q1, q2⟩ := Hp.out k hlt'
        have hcw := Chain.up hc2 hb
        have c0 := (hcw.cell (p := ⟨b, o + k * 3, none⟩) hbb).trans q0
        have c1 := (hcw.cell (p := ⟨b, o + k * 3 + 1, none⟩) hbb).trans q1
        have c2 := (hcw.cell (p := ⟨b, o + k * 3 + 2, none⟩) hbb).trans q2
        obtain ⟨b', o', rfl, hbb', e0, e1, e2, e3⟩ := ent_at (hr2.up hb) k hlt'
        clear q0 q1 q2 y0 y1
        have hw1 : IntKind.u64.wrap ((((q + k) % 18446744073709551616 : Nat) : Int) - (q : Int)) = (k : Int) := by have := Hq.out; rw [IntKind.wrap_u64]; omega
        have hw2 : IntKind.u64.wrap (k : Int) = (k : Int) := by rw [IntKind.wrap_u64]; omega
        generalize (q + k) % 18446744073709551616 = qk at *
        generalize l[k] = x at *
        obtain ⟨kk, vv, gg⟩ := x
        simp only at c0 c1 c2 e0 e1 e2 e3
        go_wp2
        go_quiet (fail)
        go_wp2
        go_roundw
        case rel => exact ⟨k + 1, by omega, by go_num, below_drewN hb _⟩
        case measure => simp [intOf]; omega
      · obtain rfl : k = n := by omega
        clear hlt hk
        have hc3 := Chain.up hc2 hb
        cases k with
        | zero =>
          clear hr2 y0 y1 hbx2 HE HG
          generalize hB : wr = w3 at *
          clear hB
          have hb0 := (Below.refl w3.heap.size w3).drew
          go_wp2
          refine wp_region_still_tail 15 (by kernel_rfl) (by kernel_rfl) ?_
          simp only [List.take_succ_cons, List.take_zero, List.drop_succ_cons, List.drop_zero]
          still_step
          still_step
          still_step
          still_step
          iterate 10 ((with_reducible refine wpStill_skip0 ?hh ?hp ?_); (case hh => kernel_rfl); (case hp => kernel_rfl))
          still_step
          refine wpStill_nil ?_
          go_wp2_with (go_at_call 15; (with_reducible refine (awake_any _).mono ?_); rintro e w7 ⟨rfl, hbL⟩)
          go_ret
          exact ⟨rfl, Chain.up hc3 (Chain.up hb0 hbL)⟩
        | succ m =>
          obtain ⟨b', o', rfl, hbb', e0, e1, e2, e3⟩ := ent_at (hr2.up hb) m (by have := Hn.out; omega)
          clear e0 e1 e3
          have HL := Lib.hid (fun wx => last_v q _ rfl a _ c wx Hq.out (by omega : m + 1 ≤ 9223372036854775807) ((q + m) % 18446744073709551616) (by unfold P.lastN; rw [Nat.max_eq_left (by omega)]; congr 1))
          clear hr2 y0 y1 hbx2 HE HG
          generalize (q + m) % 18446744073709551616 = qm at *
          have hmi : (0 : Int) ≤ (m : Int) := by omega
          have hml : (m : Int) < (m : Int) + 1 := by omega
          have hwm : IntKind.i64.wrap (m : Int) = (m : Int) := IntWalk.i64_in _ (by omega)
          have hmb : ((m : Int) + 1 == 0) = false := beq_eq_false_iff_ne.2 (by omega)
          have hb0 := (Below.refl wr.heap.size wr).drew
          go_wp2
          go_region_held3 (fun wx => Below wr.heap.size wr wx ∧ wx.cell? ⟨w.heap.size, 0, none⟩ = some (.int .u64 (q : Int)) ∧ wx.cell? ⟨w.heap.size, 1, none⟩ = some (.slice a (m + 1) c) ∧ wx.cell? ⟨b', o' + m * 4 + 2, none⟩ = some (.int .u64 (qm : Int)))
            (first | exact ⟨hb0, u0, u1, e2⟩ | (go_split_ands; have hK := Chain.up (show Below wr.heap.size wr _ by assumption) hbL; exact ⟨hK, cell_up hK u0, cell_up hK u1, cell_up hK e2⟩))
            (first
              | (go_at_call 13; (with_reducible refine (HL.out _).mono ?_); rintro e w6 ⟨rfl, hbL⟩)
              | (go_at_call 15; (with_reducible refine (awake_any _).mono ?_); rintro e w7 ⟨rfl, hbL⟩))
          go_wp2_with fail
          go_ret
          go_split_ands
          exact ⟨rfl, Chain.up hc3 (show Below wr.heap.size wr _ by assumption)⟩
end Go.Proofs.Ytoaecmaphpnolaa
