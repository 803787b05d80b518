/- The walks of the document's Check, of Great and of Same. -/
import Derived.Test.YtoaecmaphpnolaaWEnts
namespace Go.Proofs.Ytoaecmaphpnolaa
open Go.RowKit
set_option linter.unusedVariables false

/-- How many bytes the operations have in all. -/
def P.tot (l : List P.Op) : Nat := (l.map fun o => o.key.length + o.val.length).sum
theorem P.tot_snoc (l : List P.Op) (o : P.Op) : P.tot (l ++ [o]) = P.tot l + (o.key.length + o.val.length) := by simp [P.tot]

set_option maxRecDepth 100000 in
set_option maxHeartbeats 4000000 in
theorem great_any (seq : Nat) (a : Option Addr) (c : Nat) (l : List P.Op) (w : World) (hl : l.length ≤ 9223372036854775807) (hp : OpsAt w a l) :
    Calls Try.prog 16 #[batchV seq a l.length c] w fun e w' => (∃ r, e = .returned (.bool r) ∧ (r = false → l.length ≤ 60 ∧ P.tot l ≤ 12000)) ∧ Below w.heap.size w w' := by
  have Hp := Lib.hid hp
  clear hp
  have h0 := (Below.refl w.heap.size w).alloc (Nat.le_refl _) (.cells #[.int .u64 (seq : Int), .slice a l.length c] 27)
  by_cases h60 : 60 < l.length
  · have h60i : (60 : Int) < (l.length : Int) := by omega
    go_enter Try.func16, Try.ntmps16
    go_wp2
    go_ret
    exact ⟨⟨true, rfl, fun h => by cases h⟩, h0⟩
  · have h60i : (l.length : Int) ≤ 60 := by omega
    go_enter Try.func16, Try.ntmps16
    go_wp2
    go_loopw [3, 4] (fun n i wr => ∃ k : Nat, k ≤ l.length ∧ i = .int .i64 k ∧ n = .int .i64 (P.tot (l.take k) : Int) ∧ P.tot (l.take k) ≤ 24000 * k ∧ Bx wr w.heap.size 27 #[.int .u64 (seq : Int), .slice a l.length c] ∧ Below w.heap.size w wr) (fun _ i _ => l.length - (intOf i).toNat)
    case atStart => exact ⟨0, by omega, rfl, rfl, by simp [P.tot], Bx.fresh w _ _, h0⟩
    case round =>
      clear h0
      obtain ⟨k, hk, rfl, rfl, hkt, hbx, hb⟩ := hrel
      obtain ⟨y0, y1, _, _⟩ := hbx.two
      by_cases hlt : k < l.length
      · obtain ⟨b, o, rfl, hbb, q0, q1, q2⟩ := Hp.out k hlt
        have c0 := (hb.cell (p := ⟨b, o + k * 3, none⟩) hbb).trans q0
        have c1 := (hb.cell (p := ⟨b, o + k * 3 + 1, none⟩) hbb).trans q1
        clear q0 q1 q2
        have Hnx := Lib.hid (show P.tot (l.take (k + 1)) = P.tot (l.take k) + (l[k].key.length + l[k].val.length) by rw [List.take_succ_eq_append_getElem hlt, P.tot_snoc])
        generalize P.tot (l.take k) = m at *
        generalize l[k] = q at *
        obtain ⟨kk, vv, gg⟩ := q
        simp only at c0 c1 Hnx
        by_cases hb1 : 12000 < kk.length
        · have hb1i : (12000 : Int) < (kk.length : Int) := by omega
          go_wp2
          go_ret
          exact ⟨⟨true, rfl, fun h => by cases h⟩, hb⟩
        · have hb1i : (kk.length : Int) ≤ 12000 := by omega
          by_cases hb2 : 12000 < vv.length
          · have hb2i : (12000 : Int) < (vv.length : Int) := by omega
            go_wp2
            go_ret
            exact ⟨⟨true, rfl, fun h => by cases h⟩, hb⟩
          · have hb2i : (vv.length : Int) ≤ 12000 := by omega
            go_wp2
            go_region
            go_wp2
            go_roundw
            case rel => exact ⟨k + 1, by omega, by go_num, by rw [Hnx.out]; go_num, by rw [Hnx.out]; omega, hbx.drew, hb.drew⟩
            case measure => simp [intOf]; omega
      · obtain rfl : k = l.length := by omega
        rw [List.take_length] at *
        generalize hm : P.tot l = m at *
        by_cases hmb : 12000 < m
        · have hmi : (12000 : Int) < (m : Int) := by omega
          go_wp2
          go_ret
          exact ⟨⟨true, by first | (simp; done) | (simp; omega), fun h => by cases h⟩, hb⟩
        · have hmi : (m : Int) ≤ 12000 := by omega
          go_wp2
          go_ret
          exact ⟨⟨false, by first | (simp; done) | (simp; omega), fun _ => ⟨by omega, by omega⟩⟩, hb⟩

set_option maxRecDepth 100000 in
set_option maxHeartbeats 8000000 in
theorem refCheck_of (seq : Nat) (a : Option Addr) (c : Nat) (l : List P.Op) (w : World) (hs : seq < 18446744073709551616) (hl : l.length ≤ 9223372036854775807) (hp : OpsAt w a l) :
    Calls Try.prog 20 #[batchV seq a l.length c] w fun e w' => e = .returned (.int .i64 (P.chk seq l)) ∧ Below w.heap.size w w' := by
  have Hp := Lib.hid hp
  clear hp
  have h0 := (Below.refl w.heap.size w).alloc (Nat.le_refl _) (.cells #[.int .u64 (seq : Int), .slice a l.length c] 43)
  by_cases h16 : 16 < l.length
  · have Hk := Lib.hid (show P.chk seq l = 3 by unfold P.chk; rw [decide_eq_true h16]; rfl)
    have h16i : (16 : Int) < l.length := by omega
    generalize hgn : l.length = n at *
    unfold batchV V64 at *
    generalize hgz : (seq : Int) = z at *
    clear hgn hgz
    go_enter Try.func20, Try.ntmps20
    go_wp2
    go_ret
    exact ⟨by rw [Hk.out]; rfl, h0⟩
  · have h16d : decide (16 < l.length) = false := decide_eq_false h16
    have H3 := Lib.hid (show l.any P.opLong = true → P.chk seq l = 3 by intro h; unfold P.chk; rw [h16d, h]; rfl)
    have Hun := Lib.hid (show l.any P.opLong = false → P.chk seq l = if decide (l.length = 0) || decide (seq = 0) || decide (9223372036854775808 < seq) || decide (9223372036854775808 < seq + l.length - 1) || l.any P.opBad then 1 else 0 by intro h; unfold P.chk; rw [h16d, h]; rfl)
    have hni : (l.length : Int) ≤ 16 := by omega
    have hnp : l.length ≤ 16 := by omega
    clear h16d h16
    generalize hgn : l.length = n at *
    unfold batchV V64 at *
    generalize hgz : (seq : Int) = z at *
    have Hgn := Lib.hid hgn
    have Hgz := Lib.hid hgz
    have Hs := Lib.hid hs
    clear hgn hgz hs
    go_enter Try.func20, Try.ntmps20
    go_wp2
    go_loopw [3] (fun i wr => ∃ k : Nat, k ≤ n ∧ i = .int .i64 k ∧ (l.take k).any P.opLong = false ∧ Bx wr w.heap.size 43 #[.int .u64 z, .slice a n c] ∧ Below w.heap.size w wr) (fun i _ => n - (intOf i).toNat)
    case atStart => exact ⟨0, by omega, rfl, rfl, Bx.fresh w _ _, h0⟩
    case round =>
      clear h0
      obtain ⟨k, hk, rfl, hany, hbx, hb⟩ := hrel
      obtain ⟨y0, y1, _, _⟩ := hbx.two
      have Hany := Lib.hid hany
      clear hany
      by_cases hlt : k < n
      · have hlt' : k < l.length := by have := Hgn.out; omega
        obtain ⟨b, o, rfl, hbb, q0, q1, q2⟩ := Hp.out k hlt'
        have c0 := (hb.cell (p := ⟨b, o + k * 3, none⟩) hbb).trans q0
        have c1 := (hb.cell (p := ⟨b, o + k * 3 + 1, none⟩) hbb).trans q1
        clear q0 q1 q2
        have Hyes := Lib.hid (show P.opLong l[k] = true → l.any P.opLong = true from fun h => List.any_eq_true.2 ⟨_, List.getElem_mem hlt', h⟩)
        have Hno := Lib.hid (show P.opLong l[k] = false → (l.take (k + 1)).any P.opLong = false from fun h => by rw [List.take_succ_eq_append_getElem hlt', List.any_append, Hany.out]; simp [h])
        generalize l[k] = q at *
        obtain ⟨kk, vv, gg⟩ := q
        simp only at c0 c1
        have Hlo := Lib.hid (show P.opLong ⟨kk, vv, gg⟩ = (decide (64 < kk.length) || decide (512 < vv.length)) from rfl)
        by_cases hb1 : 64 < kk.length
        · have hb1i : (64 : Int) < (kk.length : Int) := by omega
          have Hk := Lib.hid (H3.out (Hyes.out (by rw [Hlo.out, decide_eq_true hb1]; rfl)))
          go_wp2
          go_ret
          exact ⟨by rw [Hk.out]; rfl, hb⟩
        · have hb1i : (kk.length : Int) ≤ 64 := by omega
          by_cases hb2 : 512 < vv.length
          · have hb2i : (512 : Int) < (vv.length : Int) := by omega
            have Hk := Lib.hid (H3.out (Hyes.out (by rw [Hlo.out, decide_eq_true hb2, Bool.or_true])))
            go_wp2
            go_ret
            exact ⟨by rw [Hk.out]; rfl, hb⟩
          · have hb2i : (vv.length : Int) ≤ 512 := by omega
            have Hn := Lib.hid (Hno.out (by rw [Hlo.out, decide_eq_false hb1, decide_eq_false hb2]; rfl))
            go_wp2
            go_roundw
            case rel => exact ⟨k + 1, by omega, by go_num, Hn.out, hbx, hb⟩
            case measure => simp [intOf]; omega
      · obtain rfl : k = n := by omega
        have Hal := Lib.hid (show l.any P.opLong = false by have h := Hany.out; have h2 := Hgn.out; rw [← h2, List.take_length] at h; exact h)
        have Hun2 := Lib.hid (Hun.out Hal.out)
        by_cases hn0 : k = 0
        · have Hk := Lib.hid (show P.chk seq l = 1 by rw [Hun2.out, decide_eq_true hn0]; rfl)
          have hn0b : ((k : Int) == 0) = true := beq_iff_eq.2 (by omega)
          clear hn0
          go_wp2
          go_ret
          exact ⟨by rw [Hk.out]; rfl, hb⟩
        · have hn0b : ((k : Int) == 0) = false := beq_eq_false_iff_ne.2 (by omega)
          by_cases hs0 : seq = 0
          · have Hk := Lib.hid (show P.chk seq l = 1 by rw [Hun2.out, decide_eq_false hn0, decide_eq_true hs0]; rfl)
            have hs0b : z < 1 := by have := Hgz.out; omega
            clear hs0
            go_wp2
            go_ret
            exact ⟨by rw [Hk.out]; rfl, hb⟩
          · have hs0b : (1 : Int) ≤ z := by have := Hgz.out; omega
            by_cases hsb : 9223372036854775808 < seq
            · have Hk := Lib.hid (show P.chk seq l = 1 by rw [Hun2.out, decide_eq_false hn0, decide_eq_false hs0, decide_eq_true hsb]; rfl)
              have hsbi : (9223372036854775808 : Int) < z := by have := Hgz.out; omega
              clear hsb
              go_wp2
              go_ret
              exact ⟨by rw [Hk.out]; rfl, hb⟩
            · have hsbi : z ≤ 9223372036854775808 := by have := Hgz.out; omega
              have hwn : IntKind.u64.wrap (k : Int) = (k : Int) := by rw [IntKind.wrap_u64]; omega
              obtain ⟨y, hy⟩ : ∃ y : Int, y = z + (k : Int) := ⟨_, rfl⟩
              have hws : IntKind.u64.wrap (z + (k : Int)) = y := by rw [IntKind.wrap_u64]; omega
              have hyn : y = ((seq + k : Nat) : Int) := by have := Hgz.out; omega
              clear hy
              by_cases hlb : 9223372036854775808 < seq + k - 1
              · have Hk := Lib.hid (show P.chk seq l = 1 by rw [Hun2.out, decide_eq_false hn0, decide_eq_false hs0, decide_eq_false hsb, decide_eq_true hlb]; rfl)
                have hyi : (9223372036854775809 : Int) < y := by omega
                clear hlb hyn hsb
                go_wp2
                go_ret
                exact ⟨by rw [Hk.out]; rfl, hb⟩
              · have hyi : y ≤ (9223372036854775809 : Int) := by omega
                have Hun3 := Lib.hid (show P.chk seq l = if l.any P.opBad then 1 else 0 by rw [Hun2.out, decide_eq_false hn0, decide_eq_false hs0, decide_eq_false hsb, decide_eq_false hlb]; rfl)
                clear hlb hyn hsb hs0 hn0
                have hbx0 := hbx
                have hb0 := hb
                go_wp2
                clear hbx hb y0 y1
                go_loopw [4] (fun i wr => ∃ j : Nat, j ≤ k ∧ i = .int .i64 j ∧ (l.take j).any P.opBad = false ∧ Bx wr w.heap.size 43 #[.int .u64 z, .slice a k c] ∧ Below w.heap.size w wr) (fun i _ => k - (intOf i).toNat)
                case atStart => exact ⟨0, by omega, rfl, rfl, hbx0, hb0⟩
                case round =>
                  clear hbx0 hb0
                  obtain ⟨j, hj, rfl, hanyb, hbx, hb⟩ := hrel
                  obtain ⟨y0, y1, _, _⟩ := hbx.two
                  have Hanyb := Lib.hid hanyb
                  clear hanyb
                  by_cases hltj : j < k
                  · have hlt' : j < l.length := by have := Hgn.out; omega
                    obtain ⟨b, o, rfl, hbb, q0, q1, q2⟩ := Hp.out j hlt'
                    have c0 := (hb.cell (p := ⟨b, o + j * 3, none⟩) hbb).trans q0
                    have c1 := (hb.cell (p := ⟨b, o + j * 3 + 1, none⟩) hbb).trans q1
                    have c2 := (hb.cell (p := ⟨b, o + j * 3 + 2, none⟩) hbb).trans q2
                    clear q0 q1 q2
                    have Hyes := Lib.hid (show P.opBad l[j] = true → P.chk seq l = 1 from fun h => by rw [Hun3.out, if_pos (List.any_eq_true.2 ⟨_, List.getElem_mem hlt', h⟩)])
                    have Hno := Lib.hid (show P.opBad l[j] = false → (l.take (j + 1)).any P.opBad = false from fun h => by rw [List.take_succ_eq_append_getElem hlt', List.any_append, Hanyb.out]; simp [h])
                    generalize l[j] = q at *
                    obtain ⟨kk, vv, gg⟩ := q
                    simp only at c0 c1 c2
                    have Hlo := Lib.hid (show P.opBad ⟨kk, vv, gg⟩ = (decide (kk.length = 0) || (gg && decide (0 < vv.length))) from rfl)
                    by_cases hb1 : kk.length = 0
                    · have hb1i : ((kk.length : Int) == 0) = true := beq_iff_eq.2 (by omega)
                      have Hk := Lib.hid (Hyes.out (by rw [Hlo.out, decide_eq_true hb1]; rfl))
                      clear hb1
                      go_wp2
                      go_ret
                      exact ⟨by rw [Hk.out]; rfl, hb⟩
                    · have hb1i : ((kk.length : Int) == 0) = false := beq_eq_false_iff_ne.2 (by omega)
                      cases gg with
                      | false =>
                        have Hn := Lib.hid (Hno.out (by rw [Hlo.out, decide_eq_false hb1]; rfl))
                        clear hb1
                        go_wp2
                        go_roundw
                        case rel => exact ⟨j + 1, by omega, by go_num, Hn.out, hbx, hb⟩
                        case measure => simp [intOf]; omega
                      | true =>
                        by_cases hb2 : 0 < vv.length
                        · have hb2i : (0 : Int) < (vv.length : Int) := by omega
                          have Hk := Lib.hid (Hyes.out (by rw [Hlo.out, decide_eq_true hb2, Bool.true_and, Bool.or_true]))
                          clear hb1
                          go_wp2
                          go_ret
                          exact ⟨by rw [Hk.out]; rfl, hb⟩
                        · have hb2i : (vv.length : Int) ≤ 0 := by omega
                          have Hn := Lib.hid (Hno.out (by rw [Hlo.out, decide_eq_false hb1, decide_eq_false hb2]; rfl))
                          clear hb1
                          go_wp2
                          go_roundw
                          case rel => exact ⟨j + 1, by omega, by go_num, Hn.out, hbx, hb⟩
                          case measure => simp [intOf]; omega
                  · obtain rfl : j = k := by omega
                    have Hk := Lib.hid (show P.chk seq l = 0 by
                      have h := Hanyb.out
                      have h2 := Hgn.out
                      rw [← h2, List.take_length] at h
                      rw [Hun3.out, h]; rfl)
                    go_wp2
                    go_ret
                    exact ⟨by rw [Hk.out]; rfl, hb⟩
end Go.Proofs.Ytoaecmaphpnolaa
