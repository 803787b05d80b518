/- The walk of BatchPuts: it answers true. -/
import Derived.Test.YtoaecmaphpnolaaLBatchBack
namespace Go.Proofs.Ytoaecmaphpnolaa
open Go.RowKit
set_option linter.unusedVariables false

attribute [local go_sem high] eq_ent guardEnt

theorem P.entEq_self (k v : List UInt8) (n : Int) (g : Bool) : P.entEq k v n g k v n g = true := by rw [P.entEq_iff]; exact decide_eq_true ⟨rfl, rfl, rfl, rfl⟩
theorem refEncode_v (q : Nat) (z : Int) (hz : z = (q : Int)) (a : Option Addr) (n c : Nat) (l : List P.Op) (hn : n = l.length) (w : World) (hs : q < 18446744073709551616) (hl : l.length ≤ 9223372036854775807) (hp : OpsAt w a l) (r : Int) (hr : (P.chk q l : Int) = r) (s : List UInt8) (hss : P.encS q l = s) :
    Calls Try.prog 17 #[.agg #[.int .u64 z, .slice a n c]] w fun e w' => e = .returned (.tuple #[S s, .int .i64 r]) ∧ Below w.heap.size w w' := by
  subst hz hn hr hss
  exact refEncode_any q a c l w hs hl hp
theorem refCheck_v (q : Nat) (z : Int) (hz : z = (q : Int)) (a : Option Addr) (n c : Nat) (l : List P.Op) (hn : n = l.length) (w : World) (hs : q < 18446744073709551616) (hl : l.length ≤ 9223372036854775807) (hp : OpsAt w a l) (r : Int) (hr : (P.chk q l : Int) = r) :
    Calls Try.prog 20 #[.agg #[.int .u64 z, .slice a n c]] w fun e w' => e = .returned (.int .i64 r) ∧ Below w.heap.size w w' := by
  subst hz hn hr
  exact refCheck_of q a c l w hs hl hp

set_option maxRecDepth 100000 in
set_option maxHeartbeats 4000000 in
theorem law_puts (q : Nat) (a : Option Addr) (c : Nat) (l : List P.Op) (w : World) (hq : q < 18446744073709551616) (hl : l.length ≤ 9223372036854775807) (hp : OpsAt w a l) :
    Calls Try.prog 4 #[batchV q a l.length c] w fun e w' => e = .returned (.bool true) ∧ Below w.heap.size w w' := by
  have HG := Lib.hid (fun wx (hx : Below w.heap.size w wx) => great_v q a c l wx hl (hp.up hx))
  have h0 := (Below.refl w.heap.size w).alloc (Nat.le_refl _) (.cells #[.int .u64 (q : Int), .slice a l.length c] 27)
  have hbx := Bx.fresh w 27 #[.int .u64 (q : Int), .slice a l.length c]
  cases hg : P.greatB l with
  | true =>
    rw [hg] at HG
    clear hp hg
    generalize l.length = n at *
    go_enter Try.func4, Try.ntmps4
    go_wp2_with (first
      | (go_at_call 16; (with_reducible refine (HG.out _ h0).mono ?_); rintro e w1 ⟨rfl, hb1⟩)
      | (go_at_call 15; (with_reducible refine (awake_any _).mono ?_); rintro e w2 ⟨rfl, hb2⟩))
    go_ret
    exact ⟨rfl, Chain.up (Chain.up h0 hb1) hb2⟩
  | false =>
    rw [hg] at HG
    have hl60 := (P.greatB_no hg).1
    have HE := Lib.hid (fun wx (hx : Below w.heap.size w wx) => encode_v q _ rfl a _ c l rfl wx hq hl (hp.up hx) _ rfl _ rfl)
    have HRE := Lib.hid (fun wx (hx : Below w.heap.size w wx) => refEncode_v q _ rfl a _ c l rfl wx hq hl (hp.up hx) _ rfl _ rfl)
    have HC := Lib.hid (fun wx (hx : Below w.heap.size w wx) => check_v q _ rfl a _ c l rfl wx hq hl (hp.up hx) _ rfl)
    have HRC := Lib.hid (fun wx (hx : Below w.heap.size w wx) => refCheck_v q _ rfl a _ c l rfl wx hq hl (hp.up hx) _ rfl)
    have HN := Lib.hid (fun wx (hx : Below w.heap.size w wx) => entries_v q _ rfl a _ c l rfl wx hq (by omega) (hp.up hx))
    have HRN := Lib.hid (fun wx (hx : Below w.heap.size w wx) => refEntries_v q _ rfl a _ c l rfl wx hq (by omega) (hp.up hx))
    have Hq := Lib.hid hq
    clear hp hg hl hq
    generalize (P.chk q l : Int) = ck at *
    generalize P.encS q l = en at *
    generalize hn : l.length = n at *
    have Hn := Lib.hid hn
    clear hn
    go_enter Try.func4, Try.ntmps4
    go_wp2_with (first
      | (go_at_call 16; (with_reducible refine (HG.out _ h0).mono ?_); rintro e w1 ⟨rfl, hb1⟩; have hc1 := Chain.up h0 hb1; have hbx1 := hbx.up hb1; obtain ⟨x0, x1, _, _⟩ := hbx1.two)
      | (go_at_call 9; (with_reducible refine (HE.out _ hc1).mono ?_); rintro e w2 ⟨rfl, hb2⟩; have hc2 := Chain.up hc1 hb2; have y0 := cell_up hb2 x0; have y1 := cell_up hb2 x1)
      | (go_at_call 17; (with_reducible refine (HRE.out _ hc3).mono ?_); rintro e w4 ⟨rfl, hb4⟩; have hc4 := Chain.up hc3 hb4; have u0 := cell_up hb4 z0; have u1 := cell_up hb4 z1)
      | (go_at_call 14; (with_reducible refine (HN.out _ hc4).mono ?_); rintro e w5 ⟨⟨a5, c5, rfl, hr5⟩, hb5⟩; have hc5 := Chain.up hc4 hb5; have v0 := cell_up hb5 u0; have v1 := cell_up hb5 u1)
      | (go_at_call 19; (with_reducible refine (HRN.out _ hc6).mono ?_); rintro e w7 ⟨⟨a7, c7, rfl, hr7⟩, hb7⟩; have hc7 := Chain.up hc6 hb7; have s0 := cell_up hb7 r0; have s1 := cell_up hb7 r1; have hr8 := hr6.up hb7)
      | (go_at_call 18; (with_reducible refine (given_v _ _ _ _ q ?hz1 _).mono ?_); (case hz1 => rfl); rintro e w3 ⟨rfl, hb3⟩; have hc3 := Chain.up hc2 hb3; have z0 := cell_up hb3 y0; have z1 := cell_up hb3 y1)
      | (go_at_call 18; (with_reducible refine (given_v _ _ _ _ q ?hz2 _).mono ?_); (case hz2 => rfl); rintro e w6 ⟨rfl, hb6⟩; have hc6 := Chain.up hc5 hb6; have r0 := cell_up hb6 v0; have r1 := cell_up hb6 v1; have hr6 := hr5.up hb6))
    clear hb1 hb2 hb3 hb4 hb5 hb6 hb7 hc1 hc2 hc3 hc4 hc5 hc6 x0 x1 y0 y1 z0 z1 u0 u1 v0 v1 r0 r1 hr5 hr6 hbx hbx1 h0 HG HN HRN HE HRE
    have hb0 := (Below.refl w7.heap.size w7).drew
    go_region_held3 (fun wx => Below w7.heap.size w7 wx ∧ wx.cell? ⟨w.heap.size, 0, none⟩ = some (.int .u64 (q : Int)) ∧ wx.cell? ⟨w.heap.size, 1, none⟩ = some (.slice a n c))
      (first | exact ⟨hb0, s0, s1⟩ | (go_split_ands; have hK := Chain.up (show Below w7.heap.size w7 _ by assumption) hbL; exact ⟨hK, cell_up hK s0, cell_up hK s1⟩))
      (first
        | (go_at_call 10; go_split_ands; (with_reducible refine (HC.out _ (Chain.up hc7 ?hk)).mono ?_); (case hk => assumption); rintro e w8 ⟨rfl, hbL⟩)
        | (go_at_call 20; go_split_ands; (with_reducible refine (HRC.out _ (Chain.up hc7 ?hk2)).mono ?_); (case hk2 => assumption); rintro e w9 ⟨rfl, hbL⟩)
        | (go_at_call 18; (with_reducible refine (given_v _ _ _ _ q ?hz _).mono ?_); (case hz => rfl); rintro e w10 ⟨rfl, hbL⟩))
    go_split_ands
    have hb79 : Below w7.heap.size w7 w9 := by assumption
    have hc8 := Chain.up hc7 hb79
    have t0 := cell_up hb79 s0
    have t1 := cell_up hb79 s1
    have hra := hr8.up hb79
    have hrb := hr7.up hb79
    clear hc7 s0 s1 hr8 hr7 hb79 hb0
    go_wp2_with fail
    go_loopw [9] (fun i wr => ∃ k : Nat, k ≤ n ∧ i = .int .i64 k ∧ Below w9.heap.size w9 wr) (fun i _ => n - (intOf i).toNat)
    case atStart => exact ⟨0, by omega, rfl, Below.refl _ _⟩
    case round =>
      obtain ⟨k, hk, rfl, hb⟩ := hrel
      have u0 := cell_up hb t0
      have u1 := cell_up hb t1
      by_cases hlt : k < n
      · have hlt' : k < l.length := by have := Hn.out; omega
        obtain ⟨b, o, rfl, hbb, e0, e1, e2, e3⟩ := ent_at (hra.up hb) k hlt'
        obtain ⟨b', o', rfl, hbb', f0, f1, f2, f3⟩ := ent_at (hrb.up hb) k hlt'
        generalize (q + k) % 18446744073709551616 = qk at *
        generalize l[k] = x at *
        obtain ⟨kk, vv, gg⟩ := x
        simp only at e0 e1 e2 e3 f0 f1 f2 f3
        have hself := P.entEq_self kk vv (qk : Int) gg
        clear t0 t1
        go_wp2_with fail
        go_quiet (fail)
        go_wp2_with fail
        go_roundw
        case rel => exact ⟨k + 1, by omega, by go_num, below_drewN hb _⟩
        case measure => simp [intOf]; omega
      · obtain rfl : k = n := by omega
        clear hlt hk t0 t1
        have hc9 := Chain.up hc8 hb
        have hb0 := (Below.refl wr.heap.size wr).drew
        cases k with
        | zero =>
          have HL := Lib.hid (fun wx => last_v q _ rfl a _ c wx Hq.out (by omega : 0 ≤ 9223372036854775807) q (by have := Hq.out; unfold P.lastN; omega))
          clear hra hrb HC HRC
          go_wp2_with fail
          go_region_held3 (fun wx => Below wr.heap.size wr wx ∧ wx.cell? ⟨w.heap.size, 0, none⟩ = some (.int .u64 (q : Int)) ∧ wx.cell? ⟨w.heap.size, 1, none⟩ = some (.slice a 0 c))
            (first | exact ⟨hb0, u0, u1⟩ | (go_split_ands; have hK := Chain.up (show Below wr.heap.size wr _ by assumption) hbL; exact ⟨hK, cell_up hK u0, cell_up hK u1⟩))
            (first
              | (go_at_call 13; (with_reducible refine (HL.out _).mono ?_); rintro e w11 ⟨rfl, hbL⟩)
              | (go_at_call 15; (with_reducible refine (awake_any _).mono ?_); rintro e w12 ⟨rfl, hbL⟩))
          go_wp2_with fail
          go_ret
          go_split_ands
          exact ⟨rfl, Chain.up hc9 (show Below wr.heap.size wr _ by assumption)⟩
        | succ m =>
          obtain ⟨b', o', rfl, hbb', e0, e1, e2, e3⟩ := ent_at (hrb.up hb) m (by have := Hn.out; omega)
          clear e0 e1 e3
          have HL := Lib.hid (fun wx => last_v q _ rfl a _ c wx Hq.out (by omega : m + 1 ≤ 9223372036854775807) ((q + m) % 18446744073709551616) (by unfold P.lastN; rw [Nat.max_eq_left (by omega)]; congr 1))
          clear hra hrb HC HRC
          generalize (q + m) % 18446744073709551616 = qm at *
          have hmi : (0 : Int) ≤ (m : Int) := by omega
          have hml : (m : Int) < (m : Int) + 1 := by omega
          have hwm : IntKind.i64.wrap (m : Int) = (m : Int) := IntWalk.i64_in _ (by omega)
          have hmb : ((m : Int) + 1 == 0) = false := beq_eq_false_iff_ne.2 (by omega)
          go_wp2_with fail
          go_region_held3 (fun wx => Below wr.heap.size wr wx ∧ wx.cell? ⟨w.heap.size, 0, none⟩ = some (.int .u64 (q : Int)) ∧ wx.cell? ⟨w.heap.size, 1, none⟩ = some (.slice a (m + 1) c) ∧ wx.cell? ⟨b', o' + m * 4 + 2, none⟩ = some (.int .u64 (qm : Int)))
            (first | exact ⟨hb0, u0, u1, e2⟩ | (go_split_ands; have hK := Chain.up (show Below wr.heap.size wr _ by assumption) hbL; exact ⟨hK, cell_up hK u0, cell_up hK u1, cell_up hK e2⟩))
            (first
              | (go_at_call 13; (with_reducible refine (HL.out _).mono ?_); rintro e w11 ⟨rfl, hbL⟩)
              | (go_at_call 15; (with_reducible refine (awake_any _).mono ?_); rintro e w12 ⟨rfl, hbL⟩))
          go_wp2_with fail
          go_ret
          go_split_ands
          exact ⟨rfl, Chain.up hc9 (show Below wr.heap.size wr _ by assumption)⟩
end Go.Proofs.Ytoaecmaphpnolaa
