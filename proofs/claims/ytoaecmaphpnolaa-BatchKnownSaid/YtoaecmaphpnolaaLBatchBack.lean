/- The walk of BatchBack: it answers true. -/
import Derived.Test.YtoaecmaphpnolaaLBatchOnly
import Derived.Test.YtoaecmaphpnolaaPBatch3
namespace Go.Proofs.Ytoaecmaphpnolaa
open Go.RowKit
set_option linter.unusedVariables false

attribute [local go_sem] str_take str_app

theorem P.enc_len {q : Nat} {l : List P.Op} (h : P.chk q l = 0) : (P.enc q l).length ≤ 9618 := by
  obtain ⟨h1, h2, h3, h4, h5⟩ := P.chk_ok h
  have a := P.row_len9 q
  have b := P.row_len9 l.length
  have c := P.opRows_len l (fun o ho => ⟨(h5 o ho).2.1, (h5 o ho).2.2.1⟩)
  rw [P.enc_is, List.length_append, List.length_append]
  omega
theorem below_call {W w : World} {O : Obj} (hb : Below (W.alloc O).heap.size (W.alloc O) w) : Below W.heap.size W w := ((Below.refl _ _).alloc (Nat.le_refl _) _).trans (hb.mono (by simp))
theorem u16_bd {z : Int} (h : (Lit.int .u16 z).wf = true) : 0 ≤ z ∧ z < 65536 := by
  simp [Lit.wf, IntKind.min, IntKind.max, IntKind.signed, IntKind.bits] at h
  omega
theorem P.dok_of {s : List UInt8} {q : Nat} {l : List P.Op} (h : P.dec s = some (q, l)) : P.dok s = true ∧ P.dq s = q ∧ P.dl s = l := by
  unfold P.dok P.dq P.dl
  rw [h]
  exact ⟨rfl, rfl, rfl⟩
theorem P.dok_no {s : List UInt8} (h : P.dec s = none) : P.dok s = false ∧ P.dq s = 0 ∧ P.dl s = [] := by
  unfold P.dok P.dq P.dl
  rw [h]
  exact ⟨rfl, rfl, rfl⟩

set_option maxRecDepth 100000 in
set_option maxHeartbeats 4000000 in
theorem law_back_great (q : Nat) (a : Option Addr) (c : Nat) (l : List P.Op) (z : Int) (x : List UInt8) (w : World) (hl : l.length ≤ 9223372036854775807) (hp : OpsAt w a l) (hx : x.length ≤ 9223372036854775807) (hg : P.greatB l = true ∨ 100 < x.length) :
    Calls Try.prog 6 #[batchV q a l.length c, .int .u16 z, S x] w fun e w' => e = .returned (.bool true) ∧ Below w.heap.size w w' := by
  have HG := Lib.hid (fun wx (hx : Below w.heap.size w wx) => great_v q a c l wx hl (hp.up hx))
  have h0 := (Below.refl w.heap.size w).alloc (Nat.le_refl _) (.cells #[.int .u64 (q : Int), .slice a l.length c] 27)
  cases hgb : P.greatB l with
  | true =>
    rw [hgb] at HG
    clear hp hg hgb
    generalize l.length = n at *
    go_enter Try.func6, Try.ntmps6
    go_wp2_with (first
      | (go_at_call 16; (with_reducible refine (HG.out _ h0).mono ?_); rintro e w1 ⟨rfl, hb1⟩)
      | (go_at_call 15; (with_reducible refine (awake_any _).mono ?_); rintro e w2 ⟨rfl, hb2⟩))
    go_ret
    exact ⟨rfl, Chain.up (Chain.up h0 hb1) hb2⟩
  | false =>
    have hbig : 100 < x.length := by
      rcases hg with h | h
      · rw [hgb] at h; cases h
      · exact h
    have hbi : (100 : Int) < (x.length : Int) := by omega
    rw [hgb] at HG
    clear hp hg hgb hbig
    generalize l.length = n at *
    go_enter Try.func6, Try.ntmps6
    go_wp2_with (first
      | (go_at_call 16; (with_reducible refine (HG.out _ h0).mono ?_); rintro e w1 ⟨rfl, hb1⟩)
      | (go_at_call 15; (with_reducible refine (awake_any _).mono ?_); rintro e w2 ⟨rfl, hb2⟩))
    go_ret
    exact ⟨rfl, Chain.up (Chain.up h0 hb1) hb2⟩

set_option maxRecDepth 100000 in
set_option maxHeartbeats 4000000 in
theorem law_back_no (q : Nat) (a : Option Addr) (c : Nat) (l : List P.Op) (z : Int) (x : List UInt8) (w : World) (hq : q < 18446744073709551616) (hl : l.length ≤ 9223372036854775807) (hp : OpsAt w a l) (hx : x.length ≤ 100) (hg : P.greatB l = false) (hck : ¬ P.chk q l = 0) :
    Calls Try.prog 6 #[batchV q a l.length c, .int .u16 z, S x] w fun e w' => e = .returned (.bool true) ∧ Below w.heap.size w w' := by
  have HG := Lib.hid (fun wx (hx : Below w.heap.size w wx) => great_v q a c l wx hl (hp.up hx))
  have h0 := (Below.refl w.heap.size w).alloc (Nat.le_refl _) (.cells #[.int .u64 (q : Int), .slice a l.length c] 27)
  have hbx := Bx.fresh w 27 #[.int .u64 (q : Int), .slice a l.length c]
  have hxi : (x.length : Int) ≤ 100 := by omega
  have HE := Lib.hid (fun wx (hx : Below w.heap.size w wx) => encode_v q _ rfl a _ c l rfl wx hq hl (hp.up hx) _ rfl [] (by unfold P.encS; rw [if_neg hck]))
  have HC := Lib.hid (fun wx (hx : Below w.heap.size w wx) => check_v q _ rfl a _ c l rfl wx hq hl (hp.up hx) _ rfl)
  have hckb : ((P.chk q l : Int) == 0) = false := beq_eq_false_iff_ne.2 (by omega)
  have hckc : ((P.chk q l : Int) != 0) = true := by rw [bne, hckb]; rfl
  rw [hg] at HG
  clear hp hg hck
  generalize (P.chk q l : Int) = ck at *
  generalize l.length = n at *
  go_enter Try.func6, Try.ntmps6
  go_wp2_with (first
    | (go_at_call 16; (with_reducible refine (HG.out _ h0).mono ?_); rintro e w1 ⟨rfl, hb1⟩; have hc1 := Chain.up h0 hb1; have hbx1 := hbx.up hb1; obtain ⟨x0, x1, _, _⟩ := hbx1.two)
    | (go_at_call 9; (with_reducible refine (HE.out _ hc1).mono ?_); rintro e w2 ⟨rfl, hb2⟩; have hc2 := Chain.up hc1 hb2; have y0 := cell_up hb2 x0; have y1 := cell_up hb2 x1)
    | (go_at_call 10; (with_reducible refine (HC.out _ hc2).mono ?_); rintro e w3 ⟨rfl, hb3⟩; have hc3 := Chain.up hc2 hb3)
    | (go_at_call 15; (with_reducible refine (awake_any _).mono ?_); rintro e w4 ⟨rfl, hb4⟩))
  go_ret
  exact ⟨rfl, Chain.up hc3 hb4⟩

set_option maxRecDepth 100000 in
set_option maxHeartbeats 4000000 in
theorem law_back_ok (q : Nat) (a : Option Addr) (c : Nat) (l : List P.Op) (z : Nat) (x : List UInt8) (w : World) (hq : q < 18446744073709551616) (hl : l.length ≤ 9223372036854775807) (hp : OpsAt w a l) (hx : x.length ≤ 100) (hg : P.greatB l = false) (hck : P.chk q l = 0) (hz : z < 65536) :
    Calls Try.prog 6 #[batchV q a l.length c, .int .u16 (z : Int), S x] w fun e w' => e = .returned (.bool true) ∧ Below w.heap.size w w' := by
  have HG := Lib.hid (fun wx (hx : Below w.heap.size w wx) => great_v q a c l wx hl (hp.up hx))
  have h0 := (Below.refl w.heap.size w).alloc (Nat.le_refl _) (.cells #[.int .u64 (q : Int), .slice a l.length c] 27)
  have hbx := Bx.fresh w 27 #[.int .u64 (q : Int), .slice a l.length c]
  have hxi : (x.length : Int) ≤ 100 := by omega
  have HE := Lib.hid (fun wx (hx : Below w.heap.size w wx) => encode_v q _ rfl a _ c l rfl wx hq hl (hp.up hx) 0 (by rw [hck]; rfl) (P.enc q l) (by unfold P.encS; rw [if_pos hck]))
  rw [hg] at HG
  have hsl := P.enc_len hck
  have hs1 := P.enc_pos q l
  have hm : z % (P.enc q l).length < (P.enc q l).length := Nat.mod_lt _ (by omega)
  obtain ⟨d1, d2, d3⟩ := P.dok_of (P.dec_enc q l hck)
  obtain ⟨f1, f2, f3⟩ := P.dok_no (P.dec_cut hck _ hm)
  have g1 : P.dok (P.enc q l ++ x) = (x == []) := by
    by_cases hx0 : x = []
    · subst hx0; rw [List.append_nil, d1]; rfl
    · rw [(P.dok_no (P.dec_more hck x hx0)).1]; exact (beq_eq_false_iff_ne.2 hx0).symm
  have HD1 := Lib.hid (fun wx => decode_v (P.enc q l) wx (by omega))
  rw [d1, d2, d3] at HD1
  have HD2 := Lib.hid (fun wx => decode_v ((P.enc q l).take (z % (P.enc q l).length)) wx (by rw [List.length_take]; omega))
  rw [f1, f2, f3] at HD2
  have HD3 := Lib.hid (fun wx => decode_v (P.enc q l ++ x) wx (by rw [List.length_append]; omega))
  rw [g1] at HD3
  have hg0 := Lib.hid hg
  clear hg hck d1 d2 d3 f1 f2 f3 g1
  generalize P.dq (P.enc q l ++ x) = q3 at *
  generalize P.dl (P.enc q l ++ x) = l3 at *
  generalize P.enc q l = s at *
  have hzz : (z : Int) % (s.length : Int) = ((z % s.length : Nat) : Int) := by omega
  have hadd : ¬ 9223372036854775807 < s.length + x.length := by omega
  have hzi : (z : Int) ≤ 65535 := by omega
  have hsi : (1 : Int) ≤ (s.length : Int) := by omega
  have hnb : ((s.length : Int) == 0) = false := beq_eq_false_iff_ne.2 (by omega)
  generalize z % s.length = m at *
  have Hp := Lib.hid hp
  clear hp
  go_enter Try.func6, Try.ntmps6
  go_wp2_with (first
    | (go_at_call 16; (with_reducible refine (HG.out _ h0).mono ?_); rintro e w1 ⟨rfl, hb1⟩; have hc1 := Chain.up h0 hb1; have hbx1 := hbx.up hb1; obtain ⟨x0, x1, _, _⟩ := hbx1.two)
    | (go_at_call 9; (with_reducible refine (HE.out _ hc1).mono ?_); rintro e w2 ⟨rfl, hb2⟩; have hc2 := Chain.up hc1 hb2; have hbx2 := hbx1.up hb2)
    | (go_at_call 12; (with_reducible refine (HD1.out _).mono ?_); rintro e w3 ⟨⟨a3, c3, rfl, hops3⟩, hb3⟩)
    | (go_at_call 12; (with_reducible refine (HD2.out _).mono ?_); rintro e w4 ⟨⟨a4, c4, rfl, _⟩, hb4⟩)
    | (go_at_call 12; (with_reducible refine (HD3.out _).mono ?_); rintro e w5 ⟨⟨a5, c5, rfl, _⟩, hb5⟩))
  have b3 := Chain.up hc2 hb3
  have b4 := below_call hb4
  have b5 := below_call hb5
  have b6 := (Below.refl w5.heap.size w5).alloc (Nat.le_refl _) (.cells #[.int .u64 (q3 : Int), .slice a5 l3.length c5] 27)
  have b36 := Chain.up (Chain.up b4 b5) b6
  have hops6 := hops3.up b36
  have hc6 := Chain.up b3 b36
  have hbx6 := (hbx2.up hb3).up b36
  have hby6 := (((Bx.fresh w3 27 #[.int .u64 (q : Int), .slice a3 l.length c3]).up hb4).up b5).up b6
  have hp6 := Hp.out.up hc6
  clear hb1 hb2 hb3 hb4 hb5 b3 b4 b5 b6 b36 hops3 hbx hbx1 hbx2 hc1 hc2 h0 HD1 HD2 HD3 HE HG
  generalize w5.alloc (.cells #[.int .u64 (q3 : Int), .slice a5 l3.length c5] 27) = w6 at *
  obtain ⟨y0, y1, _, _⟩ := hbx6.two
  obtain ⟨z0, z1, _, _⟩ := hby6.two
  have hb0 := (Below.refl w6.heap.size w6).drew
  have Hl := Lib.hid (P.greatB_no hg0.out).1
  go_region_held3 (fun wx => Below w6.heap.size w6 wx ∧ wx.cell? ⟨w.heap.size, 0, none⟩ = some (.int .u64 (q : Int)) ∧ wx.cell? ⟨w.heap.size, 1, none⟩ = some (.slice a l.length c) ∧ wx.cell? ⟨w3.heap.size, 0, none⟩ = some (.int .u64 (q : Int)) ∧ wx.cell? ⟨w3.heap.size, 1, none⟩ = some (.slice a3 l.length c3))
    (first | exact ⟨hb0, y0, y1, z0, z1⟩ | (go_split_ands; have hK := Chain.up (show Below w6.heap.size w6 _ by assumption) hbL; exact ⟨hK, cell_up hK y0, cell_up hK y1, cell_up hK z0, cell_up hK z1⟩))
    (first
      | (go_at_call 18; (with_reducible refine (given_v _ _ _ _ q ?hz _).mono ?_); (case hz => rfl); rintro e w7 ⟨rfl, hbL⟩)
      | (go_at_call 22; go_split_ands; (with_reducible refine (same_self q l ?hn _ ?hz _ _ ?h1 ?h2 _ _ _ _ _ (hops6.up ?k1) (hp6.up ?k2)).mono ?_); (case hn => have := Hl.out; omega); (case hz => rfl); (case h1 => rfl); (case h2 => rfl); (case k1 => assumption); (case k2 => assumption); rintro e w8 ⟨rfl, hbL⟩)
      | (go_at_call 15; (with_reducible refine (awake_any _).mono ?_); rintro e w9 ⟨rfl, hbL⟩))
  go_wp2_with fail
  go_ret
  go_split_ands
  exact ⟨rfl, Chain.up hc6 (show Below w6.heap.size w6 _ by assumption)⟩

theorem law_back (q : Nat) (a : Option Addr) (c : Nat) (l : List P.Op) (z : Int) (x : List UInt8) (w : World) (hq : q < 18446744073709551616) (hl : l.length ≤ 9223372036854775807) (hp : OpsAt w a l) (hz : (Lit.int .u16 z).wf = true) (hx : x.length ≤ 9223372036854775807) :
    Calls Try.prog 6 #[batchV q a l.length c, .int .u16 z, S x] w fun e w' => e = .returned (.bool true) ∧ Below w.heap.size w w' := by
  have hzb := u16_bd hz
  by_cases hg : P.greatB l = true ∨ 100 < x.length
  · exact law_back_great q a c l z x w hl hp hx hg
  · have hgn : P.greatB l = false := by
      cases h : P.greatB l with
      | false => rfl
      | true => exact absurd (.inl h) hg
    have hxl : x.length ≤ 100 := Nat.le_of_not_lt (fun h => hg (.inr h))
    by_cases hck : P.chk q l = 0
    · obtain ⟨m, rfl⟩ : ∃ m : Nat, z = (m : Int) := ⟨z.toNat, by omega⟩
      exact law_back_ok q a c l m x w hq hl hp hxl hgn hck (by omega)
    · exact law_back_no q a c l z x w hq hl hp hxl hgn hck
end Go.Proofs.Ytoaecmaphpnolaa
