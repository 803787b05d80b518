/- The walk of BatchOnly: it answers true. -/
import Derived.Test.YtoaecmaphpnolaaLBatchNumbers
namespace Go.Proofs.Ytoaecmaphpnolaa
open Go.RowKit
set_option linter.unusedVariables false

attribute [local go_sem] str_take

/-- A row that the call owns, as a box. -/
theorem OwnR.box {α : Type} {e : TypeId} {k : Nat} {cs : α → List Value} {w : World} {B : Nat} {v : Value} {l : List α} (hk : ∀ x, (cs x).length = k) (h : OwnR e k cs w B v l) :
    ∃ a c, v = .slice a l.length c ∧ (0 < l.length → ∃ g cur, a = some ⟨g, 0, none⟩ ∧ B ≤ g ∧ Bx w g e cur ∧ l.length * k ≤ cur.size) := by
  obtain ⟨_, ⟨rfl, h0⟩ | ⟨g, cap, cur, rfl, hB, hg, hnc, _, hcs, htake⟩⟩ := h
  · exact ⟨none, 0, by rw [h0], fun h => by omega⟩
  · refine ⟨some ⟨g, 0, none⟩, cap, rfl, fun _ => ⟨g, cur, rfl, hB, hg, ?_⟩⟩
    have h1 := congrArg List.length htake
    rw [flat_len k cs hk, List.length_take] at h1
    have : cur.toList.length = cur.size := by simp
    omega
/-- Entries whose first field is written anew, one after another. -/
def BxN (w : World) (B n : Nat) (a : Option Addr) : Prop := 0 < n → ∃ g cur, a = some ⟨g, 0, none⟩ ∧ B ≤ g ∧ Bx w g 48 cur ∧ n * 4 ≤ cur.size
def EntsB (n B : Nat) (e : Ending) (w : World) : Prop := ∃ a c, e = .returned (.slice a n c) ∧ BxN w B n a
theorem entries_b (q : Nat) (z : Int) (hz : z = (q : Int)) (a : Option Addr) (n c : Nat) (l : List P.Op) (hn : n = l.length) (w : World) (hs : q < 18446744073709551616) (hl : l.length ≤ 10000) (hp : OpsAt w a l) :
    Calls Try.prog 14 #[.agg #[.int .u64 z, .slice a n c]] w fun e w' => EntsB n w.heap.size e w' ∧ Below w.heap.size w w' := by
  subst hz hn
  refine (entries_any q a c l w hs hl hp).mono ?_
  rintro e w' ⟨v, rfl, hown, hb⟩
  obtain ⟨a5, c5, rfl, hr⟩ := hown.box entCells_len
  rw [P.ents_len] at hr
  exact ⟨⟨a5, c5, by rw [P.ents_len], hr⟩, hb⟩
theorem check_v (q : Nat) (z : Int) (hz : z = (q : Int)) (a : Option Addr) (n c : Nat) (l : List P.Op) (hn : n = l.length) (w : World) (hs : q < 18446744073709551616) (hl : l.length ≤ 9223372036854775807) (hp : OpsAt w a l) (r : Int) (hr : (P.chk q l : Int) = r) :
    Calls Try.prog 10 #[.agg #[.int .u64 z, .slice a n c]] w fun e w' => e = .returned (.int .i64 r) ∧ Below w.heap.size w w' := by
  subst hz hn hr
  exact check_of q a c l w hs hl hp
theorem encode_v (q : Nat) (z : Int) (hz : z = (q : Int)) (a : Option Addr) (n c : Nat) (l : List P.Op) (hn : n = l.length) (w : World) (hs : q < 18446744073709551616) (hl : l.length ≤ 9223372036854775807) (hp : OpsAt w a l) (r : Int) (hr : (P.chk q l : Int) = r) (s : List UInt8) (hss : P.encS q l = s) :
    Calls Try.prog 9 #[.agg #[.int .u64 z, .slice a n c]] w fun e w' => e = .returned (.tuple #[S s, .int .i64 r]) ∧ Below w.heap.size w w' := by
  subst hz hn hr hss
  exact encode_any q a c l w hs hl hp

set_option maxRecDepth 100000 in
set_option maxHeartbeats 4000000 in
theorem law_only0 (s : List UInt8) (w : World) (hs : s.length ≤ 12000) :
    Calls Try.prog 7 #[S s] w fun e w' => e = .returned (.bool true) ∧ Below w.heap.size w w' := by
  have HD := Lib.hid (fun wx => decode_v s wx (by omega))
  have hsi : (s.length : Int) ≤ 12000 := by omega
  cases hok : P.dok s with
  | false =>
    obtain ⟨_, h2, h3⟩ := P.dok_none hok
    rw [hok, h2, h3] at HD
    clear hok h2 h3
    go_enter Try.func7, Try.ntmps7
    go_wp2_with (first
      | (go_at_call 12; (with_reducible refine (HD.out _).mono ?_); rintro e w1 ⟨⟨a1, c1, rfl, hops1⟩, hb1⟩)
      | (go_at_call 15; (with_reducible refine (awake_any _).mono ?_); rintro e w2 ⟨rfl, hb2⟩))
    go_ret
    exact ⟨rfl, Chain.up (hb1.alloc hb1.size _) hb2⟩
  | true =>
    have hd := P.dec_some (P.dok_some hok)
    have hck := P.chk_ok hd.1
    have hq := P.dq_lt s
    have hl16 := P.dl_len s
    have Henc := Lib.hid (show P.encS (P.dq s) (P.dl s) = s by unfold P.encS; rw [if_pos hd.1, hd.2])
    have Hchk := Lib.hid (show (P.chk (P.dq s) (P.dl s) : Int) = 0 by rw [hd.1]; rfl)
    have Hlast := Lib.hid (show P.lastN (P.dq s) (P.dl s).length = P.dq s + ((P.dl s).length - 1) by unfold P.lastN; omega)
    have hge : (P.dq s : Int) ≤ ((P.dq s + ((P.dl s).length - 1) : Nat) : Int) := by omega
    rw [hok] at HD
    have Hq := Lib.hid hq
    clear hd hck hok hq
    generalize P.dl s = l at *
    generalize P.dq s = q at *
    generalize hn : l.length = n at *
    have Hn := Lib.hid hn.symm
    generalize q + (n - 1) = r at *
    have Hl := Lib.hid (show l.length ≤ 16 by omega)
    clear hn
    go_enter Try.func7, Try.ntmps7
    go_wp2_with (first
      | (go_at_call 12; (with_reducible refine (HD.out _).mono ?_); rintro e w1 ⟨⟨a1, c1, rfl, hops1⟩, hb1⟩; have hba := (Below.refl w1.heap.size w1).alloc (Nat.le_refl _) (.cells #[.int .u64 (q : Int), .slice a1 l.length c1] 27); have hops2 := hops1.up hba; have hbx := Bx.fresh w1 27 #[.int .u64 (q : Int), .slice a1 l.length c1]; have hc2 := Chain.up hb1 hba)
      | (go_at_call 14; (with_reducible refine (entries_b q _ rfl _ _ _ l ?hn _ Hq.out ?hl hops2).mono ?_); (case hn => first | rfl | exact Hn.out); (case hl => have := Hl.out; omega); rintro e w3 ⟨⟨a3, c3, rfl, hbn⟩, hb3⟩))
    clear hops1 hb1 hba HD
    generalize w1.alloc (.cells #[.int .u64 (q : Int), .slice a1 l.length c1] 27) = w2 at *
    obtain ⟨x0, x1, _, _⟩ := hbx.two
    go_loopw [6] (fun i wr => ∃ k : Nat, k ≤ l.length ∧ i = .int .i64 k ∧ BxN wr w2.heap.size l.length a3 ∧ Below w2.heap.size w2 wr) (fun i _ => l.length - (intOf i).toNat)
    case atStart => exact ⟨0, by omega, rfl, hbn, hb3⟩
    case round =>
      clear hbn hb3
      obtain ⟨k, hk, rfl, hbn, hb⟩ := hrel
      have hll := Hl.out
      by_cases hlt : k < l.length
      · obtain ⟨g, cur, rfl, hBg, hbc, hsz⟩ := hbn (by omega)
        have e0 : wr.cell? ⟨g, k * 4, none⟩ = some (cur[k * 4]'(by omega)) := by rw [hbc.cell]; exact Array.getElem?_eq_getElem (by omega)
        have ef := hbc.frozen (k * 4)
        generalize cur[k * 4]'(by omega) = old at *
        have Hbn := Lib.hid hbn
        clear hbn
        go_wp2
        go_roundw
        case rel => exact ⟨k + 1, by omega, by go_num, fun _ => ⟨g, _, rfl, hBg, hbc.set (k * 4) _, by rw [Array.size_setIfInBounds]; exact hsz⟩, hb.setCell hBg _⟩
        case measure => simp [intOf]; omega
      · obtain rfl : k = l.length := by omega
        clear hbn
        have u0 := cell_up hb x0
        have u1 := cell_up hb x1
        have hops4 := hops2.up hb
        have hc4 := Chain.up hc2 hb
        go_wp2_with (go_at_call 9; (with_reducible refine (encode_v q _ rfl _ _ _ l ?hn _ Hq.out ?hl hops4 0 Hchk.out s Henc.out).mono ?_); (case hn => first | rfl | exact Hn.out); (case hl => have := Hl.out; omega); rintro e w5 ⟨rfl, hb5⟩; have v0 := cell_up hb5 u0; have v1 := cell_up hb5 u1; have hops5 := hops4.up hb5; have hc5 := Chain.up hc4 hb5)
        clear u0 u1 hops4 hc4 hb hb5 x0 x1 hbx hops2
        have hb0 := (Below.refl w5.heap.size w5).drew
        go_region_held3 (fun wx => Below w5.heap.size w5 wx ∧ wx.cell? ⟨w1.heap.size, 0, none⟩ = some (.int .u64 (q : Int)) ∧ wx.cell? ⟨w1.heap.size, 1, none⟩ = some (.slice a1 l.length c1))
          (first | exact ⟨hb0, v0, v1⟩ | (go_split_ands; have hK := Chain.up (show Below w5.heap.size w5 _ by assumption) hbL; exact ⟨hK, cell_up hK v0, cell_up hK v1⟩))
          (first
            | (go_at_call 10; go_split_ands; (with_reducible refine (check_v q _ rfl _ _ _ l ?hn _ Hq.out ?hl (hops5.up ?hk) 0 Hchk.out).mono ?_); (case hn => first | rfl | exact Hn.out); (case hl => have := Hl.out; omega); (case hk => assumption); rintro e w6 ⟨rfl, hbL⟩)
            | (go_at_call 13; (with_reducible refine (last_v q _ rfl _ _ _ _ Hq.out ?hl r ?hr).mono ?_); (case hl => have := Hl.out; omega); (case hr => rw [← Hn.out]; exact Hlast.out); rintro e w7 ⟨rfl, hbL⟩)
            | (go_at_call 15; (with_reducible refine (awake_any _).mono ?_); rintro e w8 ⟨rfl, hbL⟩))
        go_wp2_with fail
        go_ret
        go_split_ands
        exact ⟨rfl, Chain.up hc5 (show Below w5.heap.size w5 _ by assumption)⟩
set_option maxRecDepth 100000 in
set_option maxHeartbeats 4000000 in
theorem law_only1 (s s0 : List UInt8) (w : World) (hbig : 12000 < s0.length) (hqs : s0.take 12000 = s) (hs : s.length ≤ 12000) :
    Calls Try.prog 7 #[S s0] w fun e w' => e = .returned (.bool true) ∧ Below w.heap.size w w' := by
  have HD := Lib.hid (fun wx => decode_v s wx (by omega))
  have hsi : (12000 : Int) < (s0.length : Int) := by omega
  have hbi : 12000 ≤ s0.length := by omega
  cases hok : P.dok s with
  | false =>
    obtain ⟨_, h2, h3⟩ := P.dok_none hok
    rw [hok, h2, h3] at HD
    clear hok h2 h3
    go_enter Try.func7, Try.ntmps7
    go_wp2_with (first
      | (go_at_call 12; (with_reducible refine (HD.out _).mono ?_); rintro e w1 ⟨⟨a1, c1, rfl, hops1⟩, hb1⟩)
      | (go_at_call 15; (with_reducible refine (awake_any _).mono ?_); rintro e w2 ⟨rfl, hb2⟩))
    go_ret
    exact ⟨rfl, Chain.up (hb1.alloc hb1.size _) hb2⟩
  | true =>
    have hd := P.dec_some (P.dok_some hok)
    have hck := P.chk_ok hd.1
    have hq := P.dq_lt s
    have hl16 := P.dl_len s
    have Henc := Lib.hid (show P.encS (P.dq s) (P.dl s) = s by unfold P.encS; rw [if_pos hd.1, hd.2])
    have Hchk := Lib.hid (show (P.chk (P.dq s) (P.dl s) : Int) = 0 by rw [hd.1]; rfl)
    have Hlast := Lib.hid (show P.lastN (P.dq s) (P.dl s).length = P.dq s + ((P.dl s).length - 1) by unfold P.lastN; omega)
    have hge : (P.dq s : Int) ≤ ((P.dq s + ((P.dl s).length - 1) : Nat) : Int) := by omega
    rw [hok] at HD
    have Hq := Lib.hid hq
    clear hd hck hok hq
    generalize P.dl s = l at *
    generalize P.dq s = q at *
    generalize hn : l.length = n at *
    have Hn := Lib.hid hn.symm
    generalize q + (n - 1) = r at *
    have Hl := Lib.hid (show l.length ≤ 16 by omega)
    clear hn
    go_enter Try.func7, Try.ntmps7
    go_wp2_with (first
      | (go_at_call 12; (with_reducible refine (HD.out _).mono ?_); rintro e w1 ⟨⟨a1, c1, rfl, hops1⟩, hb1⟩; have hba := (Below.refl w1.heap.size w1).alloc (Nat.le_refl _) (.cells #[.int .u64 (q : Int), .slice a1 l.length c1] 27); have hops2 := hops1.up hba; have hbx := Bx.fresh w1 27 #[.int .u64 (q : Int), .slice a1 l.length c1]; have hc2 := Chain.up hb1 hba)
      | (go_at_call 14; (with_reducible refine (entries_b q _ rfl _ _ _ l ?hn _ Hq.out ?hl hops2).mono ?_); (case hn => first | rfl | exact Hn.out); (case hl => have := Hl.out; omega); rintro e w3 ⟨⟨a3, c3, rfl, hbn⟩, hb3⟩))
    clear hops1 hb1 hba HD
    generalize w1.alloc (.cells #[.int .u64 (q : Int), .slice a1 l.length c1] 27) = w2 at *
    obtain ⟨x0, x1, _, _⟩ := hbx.two
    go_loopw [6] (fun i wr => ∃ k : Nat, k ≤ l.length ∧ i = .int .i64 k ∧ BxN wr w2.heap.size l.length a3 ∧ Below w2.heap.size w2 wr) (fun i _ => l.length - (intOf i).toNat)
    case atStart => exact ⟨0, by omega, rfl, hbn, hb3⟩
    case round =>
      clear hbn hb3
      obtain ⟨k, hk, rfl, hbn, hb⟩ := hrel
      have hll := Hl.out
      by_cases hlt : k < l.length
      · obtain ⟨g, cur, rfl, hBg, hbc, hsz⟩ := hbn (by omega)
        have e0 : wr.cell? ⟨g, k * 4, none⟩ = some (cur[k * 4]'(by omega)) := by rw [hbc.cell]; exact Array.getElem?_eq_getElem (by omega)
        have ef := hbc.frozen (k * 4)
        generalize cur[k * 4]'(by omega) = old at *
        have Hbn := Lib.hid hbn
        clear hbn
        go_wp2
        go_roundw
        case rel => exact ⟨k + 1, by omega, by go_num, fun _ => ⟨g, _, rfl, hBg, hbc.set (k * 4) _, by rw [Array.size_setIfInBounds]; exact hsz⟩, hb.setCell hBg _⟩
        case measure => simp [intOf]; omega
      · obtain rfl : k = l.length := by omega
        clear hbn
        have u0 := cell_up hb x0
        have u1 := cell_up hb x1
        have hops4 := hops2.up hb
        have hc4 := Chain.up hc2 hb
        go_wp2_with (go_at_call 9; (with_reducible refine (encode_v q _ rfl _ _ _ l ?hn _ Hq.out ?hl hops4 0 Hchk.out s Henc.out).mono ?_); (case hn => first | rfl | exact Hn.out); (case hl => have := Hl.out; omega); rintro e w5 ⟨rfl, hb5⟩; have v0 := cell_up hb5 u0; have v1 := cell_up hb5 u1; have hops5 := hops4.up hb5; have hc5 := Chain.up hc4 hb5)
        clear u0 u1 hops4 hc4 hb hb5 x0 x1 hbx hops2
        have hb0 := (Below.refl w5.heap.size w5).drew
        go_region_held3 (fun wx => Below w5.heap.size w5 wx ∧ wx.cell? ⟨w1.heap.size, 0, none⟩ = some (.int .u64 (q : Int)) ∧ wx.cell? ⟨w1.heap.size, 1, none⟩ = some (.slice a1 l.length c1))
          (first | exact ⟨hb0, v0, v1⟩ | (go_split_ands; have hK := Chain.up (show Below w5.heap.size w5 _ by assumption) hbL; exact ⟨hK, cell_up hK v0, cell_up hK v1⟩))
          (first
            | (go_at_call 10; go_split_ands; (with_reducible refine (check_v q _ rfl _ _ _ l ?hn _ Hq.out ?hl (hops5.up ?hk) 0 Hchk.out).mono ?_); (case hn => first | rfl | exact Hn.out); (case hl => have := Hl.out; omega); (case hk => assumption); rintro e w6 ⟨rfl, hbL⟩)
            | (go_at_call 13; (with_reducible refine (last_v q _ rfl _ _ _ _ Hq.out ?hl r ?hr).mono ?_); (case hl => have := Hl.out; omega); (case hr => rw [← Hn.out]; exact Hlast.out); rintro e w7 ⟨rfl, hbL⟩)
            | (go_at_call 15; (with_reducible refine (awake_any _).mono ?_); rintro e w8 ⟨rfl, hbL⟩))
        go_wp2_with fail
        go_ret
        go_split_ands
        exact ⟨rfl, Chain.up hc5 (show Below w5.heap.size w5 _ by assumption)⟩
theorem law_only (s : List UInt8) (w : World) (_hs : s.length ≤ 9223372036854775807) :
    Calls Try.prog 7 #[S s] w fun e w' => e = .returned (.bool true) ∧ Below w.heap.size w w' := by
  by_cases h : s.length ≤ 12000
  · exact law_only0 s w h
  · exact law_only1 (s.take 12000) s w (by omega) rfl (by rw [List.length_take]; omega)
end Go.Proofs.Ytoaecmaphpnolaa
