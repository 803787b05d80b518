/- The walks of Last and Check. -/
import Derived.Test.YtoaecmaphpnolaaWOps
namespace Go.Proofs.Ytoaecmaphpnolaa
open Go.RowKit
set_option linter.unusedVariables false

/-- The last one's number, as 64 bits have it. -/
def P.lastN (seq n : Nat) : Nat := (seq + max n 1 - 1) % 18446744073709551616
abbrev batchV (seq : Nat) (a : Option Addr) (n c : Nat) : Value := .agg #[V64 seq, .slice a n c]
/-- A box of two cells, seen behind a call. -/
theorem box2 {w w1 : World} {c0 c1 : Value} {t : TypeId} (hb : Below (w.alloc (.cells #[c0, c1] t)).heap.size (w.alloc (.cells #[c0, c1] t)) w1) :
    w1.cell? ⟨w.heap.size, 0, none⟩ = some c0 ∧ w1.cell? ⟨w.heap.size, 1, none⟩ = some c1 ∧ w.heap.size < w1.heap.size ∧ Below w.heap.size w w1 := by
  have hc : ∀ i, w1.cell? ⟨w.heap.size, i, none⟩ = (#[c0, c1] : Array Value)[i]? := fun i => by
    rw [hb.cell (p := ⟨w.heap.size, i, none⟩) (by simp), World.cell?_alloc_new]
  have hs := hb.size
  simp at hs
  exact ⟨by rw [hc]; rfl, by rw [hc]; rfl, by omega, ((Below.refl _ _).alloc (Nat.le_refl _) _).trans (hb.mono (by simp))⟩
theorem cell_up {w w1 : World} {a : Addr} {v : Value} (hb : Below w.heap.size w w1) (h : w.cell? a = some v) : w1.cell? a = some v := (hb.cell (World.block_lt_of_cell? w a h)).trans h

set_option maxRecDepth 100000 in
set_option maxHeartbeats 2000000 in
theorem last_any (seq n : Nat) (a : Option Addr) (c : Nat) (w : World) (hs : seq < 18446744073709551616) (hn : n ≤ 9223372036854775807) :
    Calls Try.prog 13 #[batchV seq a n c] w fun e w' => e = .returned (V64 (P.lastN seq n)) ∧ Below w.heap.size w w' := by
  have hm1 : max (n : Int) 1 = ((max n 1 : Nat) : Int) := by omega
  have hm2 : 1 ≤ max n 1 := by omega
  have hm3 : max n 1 ≤ 9223372036854775807 := by omega
  have HL := Lib.hid (show P.lastN seq n = (seq + max n 1 - 1) % 18446744073709551616 from rfl)
  generalize max n 1 = m at *
  have hw1 : IntKind.u64.wrap (m : Int) = (m : Int) := by rw [IntKind.wrap_u64]; omega
  have hw2 : IntKind.u64.wrap (IntKind.u64.wrap ((seq : Int) + (m : Int)) - 1) = ((P.lastN seq n : Nat) : Int) := by
    rw [HL.out, IntKind.wrap_u64, IntKind.wrap_u64]; omega
  go_enter Try.func13, Try.ntmps13
  go_wp2
  go_ret
  exact ⟨rfl, (Below.refl _ _).alloc (Nat.le_refl _) _⟩

set_option maxRecDepth 100000 in
set_option maxHeartbeats 4000000 in
theorem check_of (seq : Nat) (a : Option Addr) (c : Nat) (l : List P.Op) (w : World) (hs : seq < 18446744073709551616) (hl : l.length ≤ 9223372036854775807) (hp : OpsAt w a l) :
    Calls Try.prog 10 #[batchV seq a l.length c] w fun e w' => e = .returned (.int .i64 (P.chk seq l)) ∧ Below w.heap.size w w' := by
  have HC := Lib.hid (fun wx (hx : Below w.heap.size w wx) => contains_long a c l wx hl (hp.up hx))
  have HB := Lib.hid (fun wx (hx : Below w.heap.size w wx) => contains_bad a c l wx hl (hp.up hx))
  have h0 : Below w.heap.size w (w.alloc (.cells #[V64 seq, .slice a l.length c] 27)) := (Below.refl _ _).alloc (Nat.le_refl _) _
  have hsi : (seq : Int) < 18446744073709551616 := by omega
  clear hp
  by_cases h16 : 16 < l.length
  · have Hk := Lib.hid (show P.chk seq l = 3 by unfold P.chk; rw [decide_eq_true h16]; rfl)
    have h16i : (16 : Int) < l.length := by omega
    generalize hgn : l.length = n at *
    unfold batchV V64 at *
    generalize hgz : (seq : Int) = z at *
    clear hgn hgz
    go_enter Try.func10, Try.ntmps10
    go_wp2
    go_ret
    exact ⟨by rw [Hk.out]; rfl, h0⟩
  · have h16d : decide (16 < l.length) = false := decide_eq_false h16
    have h16i : (l.length : Int) ≤ 16 := by omega
    cases hlo : l.any P.opLong with
    | true =>
      have Hk := Lib.hid (show P.chk seq l = 3 by unfold P.chk; rw [h16d, hlo]; rfl)
      rw [hlo] at HC
      generalize hgn : l.length = n at *
      unfold batchV V64 at *
      generalize hgz : (seq : Int) = z at *
      clear hgn hgz
      go_enter Try.func10, Try.ntmps10
      go_wp2_with (first
        | (go_at_call 27; (with_reducible refine (HC.out _ h0).mono ?_); rintro e w1 ⟨rfl, hb1⟩; obtain ⟨x0, x1, hs1, hc1⟩ := box2 hb1))
      go_ret
      exact ⟨by rw [Hk.out]; rfl, hc1⟩
    | false =>
      rw [hlo] at HC
      have Hun := Lib.hid (show P.chk seq l = if decide (l.length = 0) || decide (seq = 0) || decide (9223372036854775808 < seq) || decide (9223372036854775808 < seq + l.length - 1) || l.any P.opBad then 1 else 0 by unfold P.chk; rw [h16d, hlo]; rfl)
      by_cases hn0 : l.length = 0
      · have Hk := Lib.hid (show P.chk seq l = 1 by rw [Hun.out, decide_eq_true hn0]; rfl)
        have hn0b : ((l.length : Int) == 0) = true := beq_iff_eq.2 (by omega)
        clear hn0
        generalize hgn : l.length = n at *
        unfold batchV V64 at *
        generalize hgz : (seq : Int) = z at *
        clear hgn hgz
        go_enter Try.func10, Try.ntmps10
        go_wp2_with (first
          | (go_at_call 27; (with_reducible refine (HC.out _ h0).mono ?_); rintro e w1 ⟨rfl, hb1⟩; obtain ⟨x0, x1, hs1, hc1⟩ := box2 hb1))
        go_ret
        exact ⟨by rw [Hk.out]; rfl, hc1⟩
      · have hn0i : ¬ (l.length : Int) = 0 := by omega
        have hn0b : ((l.length : Int) == 0) = false := beq_eq_false_iff_ne.2 (by omega)
        by_cases hs0 : seq = 0
        · have Hk := Lib.hid (show P.chk seq l = 1 by rw [Hun.out, decide_eq_false hn0, decide_eq_true hs0]; rfl)
          have hs0b : ((seq : Int) == 0) = true := beq_iff_eq.2 (by omega)
          generalize hgn : l.length = n at *
          unfold batchV V64 at *
          generalize hgz : (seq : Int) = z at *
          clear hgn hgz
          go_enter Try.func10, Try.ntmps10
          go_wp2_with (first
            | (go_at_call 27; (with_reducible refine (HC.out _ h0).mono ?_); rintro e w1 ⟨rfl, hb1⟩; obtain ⟨x0, x1, hs1, hc1⟩ := box2 hb1))
          go_ret
          exact ⟨by rw [Hk.out]; rfl, hc1⟩
        · have hs0i : ¬ (seq : Int) = 0 := by omega
          have hs0b : ((seq : Int) == 0) = false := beq_eq_false_iff_ne.2 (by omega)
          by_cases hsb : 9223372036854775808 < seq
          · have Hk := Lib.hid (show P.chk seq l = 1 by rw [Hun.out, decide_eq_false hn0, decide_eq_false hs0, decide_eq_true hsb]; rfl)
            have hsbi : (9223372036854775808 : Int) < (seq : Int) := by omega
            clear hsb
            generalize hgn : l.length = n at *
            unfold batchV V64 at *
            generalize hgz : (seq : Int) = z at *
            clear hgn hgz
            go_enter Try.func10, Try.ntmps10
            go_wp2_with (first
              | (go_at_call 27; (with_reducible refine (HC.out _ h0).mono ?_); rintro e w1 ⟨rfl, hb1⟩; obtain ⟨x0, x1, hs1, hc1⟩ := box2 hb1))
            go_ret
            exact ⟨by rw [Hk.out]; rfl, hc1⟩
          · have hsbi : (seq : Int) ≤ 9223372036854775808 := by omega
            have HLast := Lib.hid (fun wx => last_any seq l.length a c wx hs hl)
            have hln : P.lastN seq l.length = seq + l.length - 1 := by unfold P.lastN; omega
            rw [hln] at HLast
            by_cases hlb : 9223372036854775808 < seq + l.length - 1
            · have Hk := Lib.hid (show P.chk seq l = 1 by rw [Hun.out, decide_eq_false hn0, decide_eq_false hs0, decide_eq_false hsb, decide_eq_true hlb]; rfl)
              have hlbi : (9223372036854775808 : Int) < ((seq + l.length - 1 : Nat) : Int) := by omega
              clear hlb hsb hln
              generalize seq + l.length - 1 = last at *
              generalize hgn : l.length = n at *
              unfold batchV V64 at *
              generalize hgz : (seq : Int) = z at *
              clear hgn hgz
              generalize hgy : (last : Int) = y at *
              clear hgy
              go_enter Try.func10, Try.ntmps10
              go_wp2_with (first
                | (go_at_call 27; (with_reducible refine (HC.out _ h0).mono ?_); rintro e w1 ⟨rfl, hb1⟩; obtain ⟨x0, x1, hs1, hc1⟩ := box2 hb1)
                | (go_at_call 13; (with_reducible refine (HLast.out _).mono ?_); rintro e w2 ⟨rfl, hb2⟩; have hc2 := Chain.up hc1 hb2; have y0 := cell_up hb2 x0; have y1 := cell_up hb2 x1))
              go_ret
              exact ⟨by rw [Hk.out]; rfl, hc2⟩
            · have hlbi : ((seq + l.length - 1 : Nat) : Int) ≤ (9223372036854775808 : Int) := by omega
              cases hba : l.any P.opBad with
              | true =>
                have Hk := Lib.hid (show P.chk seq l = 1 by rw [Hun.out, decide_eq_false hn0, decide_eq_false hs0, decide_eq_false hsb, decide_eq_false hlb, hba]; rfl)
                rw [hba] at HB
                clear hlb hsb hln
                generalize seq + l.length - 1 = last at *
                generalize hgn : l.length = n at *
                unfold batchV V64 at *
                generalize hgz : (seq : Int) = z at *
                clear hgn hgz
                generalize hgy : (last : Int) = y at *
                clear hgy
                go_enter Try.func10, Try.ntmps10
                go_wp2_with (first
                  | (go_at_call 27; (with_reducible refine (HC.out _ h0).mono ?_); rintro e w1 ⟨rfl, hb1⟩; obtain ⟨x0, x1, hs1, hc1⟩ := box2 hb1)
                  | (go_at_call 13; (with_reducible refine (HLast.out _).mono ?_); rintro e w2 ⟨rfl, hb2⟩; have hc2 := Chain.up hc1 hb2; have y0 := cell_up hb2 x0; have y1 := cell_up hb2 x1)
                  | (go_at_call 27; (with_reducible refine (HB.out _ hc2).mono ?_); rintro e w3 ⟨rfl, hb3⟩; have hc3 := Chain.up hc2 hb3))
                go_ret
                exact ⟨by rw [Hk.out]; rfl, hc3⟩
              | false =>
                have Hk := Lib.hid (show P.chk seq l = 0 by rw [Hun.out, decide_eq_false hn0, decide_eq_false hs0, decide_eq_false hsb, decide_eq_false hlb, hba]; rfl)
                rw [hba] at HB
                clear hlb hsb hln
                generalize seq + l.length - 1 = last at *
                generalize hgn : l.length = n at *
                unfold batchV V64 at *
                generalize hgz : (seq : Int) = z at *
                clear hgn hgz
                generalize hgy : (last : Int) = y at *
                clear hgy
                go_enter Try.func10, Try.ntmps10
                go_wp2_with (first
                  | (go_at_call 27; (with_reducible refine (HC.out _ h0).mono ?_); rintro e w1 ⟨rfl, hb1⟩; obtain ⟨x0, x1, hs1, hc1⟩ := box2 hb1)
                  | (go_at_call 13; (with_reducible refine (HLast.out _).mono ?_); rintro e w2 ⟨rfl, hb2⟩; have hc2 := Chain.up hc1 hb2; have y0 := cell_up hb2 x0; have y1 := cell_up hb2 x1)
                  | (go_at_call 27; (with_reducible refine (HB.out _ hc2).mono ?_); rintro e w3 ⟨rfl, hb3⟩; have hc3 := Chain.up hc2 hb3))
                go_ret
                exact ⟨by rw [Hk.out]; rfl, hc3⟩
end Go.Proofs.Ytoaecmaphpnolaa
