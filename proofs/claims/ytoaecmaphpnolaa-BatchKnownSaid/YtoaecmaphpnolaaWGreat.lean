/- The walk of the laws' Great. -/
import Derived.Test.YtoaecmaphpnolaaWRefB
namespace Go.Proofs.Ytoaecmaphpnolaa
open Go.RowKit
set_option linter.unusedVariables false

/-- Is a batch more than statements go through? -/
def P.greatB (l : List P.Op) : Bool := decide (60 < l.length ∨ 12000 < P.tot l)
theorem P.tot_at : ∀ (l : List P.Op) (i : Nat) (h : i < l.length), l[i].key.length + l[i].val.length ≤ P.tot l
  | [], i, h => by simp at h
  | o :: l, 0, h => by simp [P.tot]
  | o :: l, i + 1, h => by
    have := P.tot_at l i (by simpa using h)
    simp [P.tot] at this ⊢
    omega
theorem P.greatB_one (l : List P.Op) (i : Nat) (h : i < l.length) (hh : 12000 < l[i].key.length + l[i].val.length) : P.greatB l = true :=
  decide_eq_true (.inr (by have := P.tot_at l i h; omega))
theorem P.greatB_end (l : List P.Op) (h : l.length ≤ 60) : P.greatB l = decide (12000 < P.tot l) := by
  unfold P.greatB
  by_cases h2 : 12000 < P.tot l
  · rw [decide_eq_true h2, decide_eq_true (.inr h2)]
  · rw [decide_eq_false h2, decide_eq_false (by omega)]
theorem P.greatB_no {l : List P.Op} (h : P.greatB l = false) : l.length ≤ 60 ∧ P.tot l ≤ 12000 := by
  have := of_decide_eq_false h
  omega

set_option maxRecDepth 100000 in
set_option maxHeartbeats 4000000 in
theorem great_v (seq : Nat) (a : Option Addr) (c : Nat) (l : List P.Op) (w : World) (hl : l.length ≤ 9223372036854775807) (hp : OpsAt w a l) :
    Calls Try.prog 16 #[batchV seq a l.length c] w fun e w' => e = .returned (.bool (P.greatB l)) ∧ Below w.heap.size w w' := by
  have Hp := Lib.hid hp
  clear hp
  have H60 := Lib.hid (show 60 < l.length → P.greatB l = true from fun h => decide_eq_true (.inl h))
  have Hbig := Lib.hid (show ∀ (i : Nat) (h : i < l.length), 12000 < l[i].key.length + l[i].val.length → P.greatB l = true from fun i h hh => P.greatB_one l i h hh)
  have Hend := Lib.hid (show l.length ≤ 60 → P.greatB l = decide (12000 < P.tot l) from fun h => P.greatB_end l h)
  have h0 := (Below.refl w.heap.size w).alloc (Nat.le_refl _) (.cells #[.int .u64 (seq : Int), .slice a l.length c] 27)
  by_cases h60 : 60 < l.length
  · have h60i : (60 : Int) < (l.length : Int) := by omega
    go_enter Try.func16, Try.ntmps16
    go_wp2
    go_ret
    exact ⟨by rw [H60.out h60]; rfl, h0⟩
  · have h60i : (l.length : Int) ≤ 60 := by omega
    go_enter Try.func16, Try.ntmps16
    go_wp2
    go_loopw [3, 4] (fun n i wr => ∃ k : Nat, k ≤ l.length ∧ i = .int .i64 k ∧ n = .int .i64 (P.tot (l.take k) : Int) ∧ P.tot (l.take k) ≤ 24000 * k ∧ Bx wr w.heap.size 27 #[.int .u64 (seq : Int), .slice a l.length c] ∧ Below w.heap.size w wr) (fun _ i _ => l.length - (intOf i).toNat)
    case atStart => exact ⟨0, by omega, rfl, rfl, by simp [P.tot], Bx.fresh w _ _, h0⟩
    case round =>
      clear h0
      obtain ⟨k, hk, rfl, rfl, hkt, hbx, hb⟩ := hrel
      obtain ⟨y0, y1, _, _⟩ := hbx.two
      by_cases hlt : k < l.length
      · obtain ⟨b, o, rfl, hbb, q0, q1, q2⟩ := Hp.out k hlt
        have c0 := (hb.cell (p := ⟨b, o + k * 3, none⟩) hbb).trans q0
        have c1 := (hb.cell (p := ⟨b, o + k * 3 + 1, none⟩) hbb).trans q1
        clear q0 q1 q2
        have Hnx := Lib.hid (show P.tot (l.take (k + 1)) = P.tot (l.take k) + (l[k].key.length + l[k].val.length) by rw [List.take_succ_eq_append_getElem hlt, P.tot_snoc])
        generalize P.tot (l.take k) = m at *
        have Hb := Lib.hid (Hbig.out k hlt)
        generalize l[k] = q at *
        obtain ⟨kk, vv, gg⟩ := q
        simp only at c0 c1 Hnx Hb
        by_cases hb1 : 12000 < kk.length
        · have hb1i : (12000 : Int) < (kk.length : Int) := by omega
          go_wp2
          go_ret
          exact ⟨by rw [Hb.out (by omega)]; rfl, hb⟩
        · have hb1i : (kk.length : Int) ≤ 12000 := by omega
          by_cases hb2 : 12000 < vv.length
          · have hb2i : (12000 : Int) < (vv.length : Int) := by omega
            go_wp2
            go_ret
            exact ⟨by rw [Hb.out (by omega)]; rfl, hb⟩
          · have hb2i : (vv.length : Int) ≤ 12000 := by omega
            go_wp2
            go_region
            go_wp2
            go_roundw
            case rel => exact ⟨k + 1, by omega, by go_num, by rw [Hnx.out]; go_num, by rw [Hnx.out]; omega, hbx.drew, hb.drew⟩
            case measure => simp [intOf]; omega
      · obtain rfl : k = l.length := by omega
        rw [List.take_length] at *
        have He := Lib.hid (Hend.out (by omega))
        generalize P.tot l = m at *
        by_cases hmb : 12000 < m
        · have hmi : (12000 : Int) < (m : Int) := by omega
          go_wp2
          go_ret
          exact ⟨by rw [He.out, decide_eq_true hmb]; first | (simp; done) | (simp; omega), hb⟩
        · have hmi : (m : Int) ≤ 12000 := by omega
          go_wp2
          go_ret
          exact ⟨by rw [He.out, decide_eq_false hmb]; first | (simp; done) | (simp; omega), hb⟩

end Go.Proofs.Ytoaecmaphpnolaa
