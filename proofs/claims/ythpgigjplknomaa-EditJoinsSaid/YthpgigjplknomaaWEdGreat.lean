/- The walks of the laws' Great and Given, of edits. -/
import Derived.Test.YthpgigjplknomaaWEdSame
import Derived.BigRegion
namespace Go.Proofs.Ythpgigjplknomaa
open Go.RowKit
set_option linter.unusedVariables false

/-- How many bytes the tables' texts have in all. -/
def P.totT (l : List P.Tab) : Nat := (l.map fun t => t.first.length + t.last.length).sum
theorem P.totT_snoc (l : List P.Tab) (t : P.Tab) : P.totT (l ++ [t]) = P.totT l + (t.first.length + t.last.length) := by simp [P.totT]
/-- Is an edit more than statements go through? -/
def P.greatE (A : List P.Tab) (D : List Nat) : Bool := decide (60 < A.length ∨ 60 < D.length ∨ 8000 < P.totT A)
theorem P.totT_at : ∀ (l : List P.Tab) (i : Nat) (h : i < l.length), l[i].first.length + l[i].last.length ≤ P.totT l
  | [], i, h => by simp at h
  | o :: l, 0, h => by simp [P.totT]
  | o :: l, i + 1, h => by
    have := P.totT_at l i (by simpa using h)
    simp [P.totT] at this ⊢
    omega
theorem P.greatE_no {A : List P.Tab} {D : List Nat} (h : P.greatE A D = false) : A.length ≤ 60 ∧ D.length ≤ 60 ∧ P.totT A ≤ 8000 := by
  have := of_decide_eq_false h
  omega

set_option maxRecDepth 100000 in
set_option maxHeartbeats 4000000 in
theorem great_any (A : List P.Tab) (D : List Nat) (a b : Option Addr) (n c m d : Nat) (hn : n = A.length) (hm : m = D.length) (w : World) (hl : A.length ≤ 9223372036854775807) (hk : D.length ≤ 9223372036854775807) (hp : TabsAt w a A) (lo se ne : Nat) :
    Calls Try.prog 19 #[edV a n c b m d lo se ne] w fun e w' => e = .returned (.bool (P.greatE A D)) ∧ Below w.heap.size w w' := by
  have Hp := Lib.hid hp
  have Hn := Lib.hid hn
  have hnb : n ≤ 9223372036854775807 := by omega
  have hmb : m ≤ 9223372036854775807 := by omega
  have H60 := Lib.hid (show 60 < n ∨ 60 < m → P.greatE A D = true from fun h => decide_eq_true (by omega))
  have Hbig := Lib.hid (show ∀ (i : Nat) (h : i < A.length), 8000 < A[i].first.length + A[i].last.length → P.greatE A D = true from fun i h hh => decide_eq_true (.inr (.inr (by have := P.totT_at A i h; omega))))
  have Hend := Lib.hid (show n ≤ 60 → m ≤ 60 → P.greatE A D = decide (8000 < P.totT A) from fun h1 h2 => by
    unfold P.greatE
    rw [decide_eq_decide]
    omega)
  clear hp hn hm hl hk
  generalize P.greatE A D = res at *
  have h0 := (Below.refl w.heap.size w).alloc (Nat.le_refl _) (.cells #[.slice a n c, .slice b m d, V64 lo, V64 se, V64 ne] 29)
  by_cases h60 : 60 < n
  · have h60i : (60 : Int) < (n : Int) := by omega
    go_enter Try.func19, Try.ntmps19
    go_wp2
    go_ret
    exact ⟨ret_bool (H60.out (.inl h60)).symm, h0⟩
  · have h60i : (n : Int) ≤ 60 := by omega
    by_cases h61 : 60 < m
    · have h61i : (60 : Int) < (m : Int) := by omega
      go_enter Try.func19, Try.ntmps19
      go_wp2
      go_ret
      exact ⟨ret_bool (H60.out (.inr h61)).symm, h0⟩
    · have h61i : (m : Int) ≤ 60 := by omega
      have hn60 : n ≤ 60 := by omega
      have hm60 : m ≤ 60 := by omega
      clear h60 h61
      go_enter Try.func19, Try.ntmps19
      go_wp2
      go_loopw [3, 4] (fun z i wr => ∃ k : Nat, k ≤ n ∧ i = .int .i64 k ∧ z = .int .i64 (P.totT (A.take k) : Int) ∧ P.totT (A.take k) ≤ 16000 * k ∧ Bx wr w.heap.size 29 #[.slice a n c, .slice b m d, V64 lo, V64 se, V64 ne] ∧ Below w.heap.size w wr) (fun _ i _ => n - (intOf i).toNat)
      case atStart => exact ⟨0, by omega, rfl, rfl, by simp [P.totT], Bx.fresh w _ _, h0⟩
      case round =>
        clear h0
        obtain ⟨k, hk, rfl, rfl, hkt, hbx, hb⟩ := hrel
        obtain ⟨y0, y1, y2, y3, y4⟩ := hbx.five
        by_cases hlt : k < n
        · have hlt' : k < A.length := by have := Hn.out; omega
          obtain ⟨bb, o, rfl, hbb, c0, c1, c2, c3, c4, c5, c6, c7⟩ := tab_at (RowsAt.up Hp.out hb) k hlt'
          have Hnx := Lib.hid (show P.totT (A.take (k + 1)) = P.totT (A.take k) + (A[k].first.length + A[k].last.length) by rw [List.take_succ_eq_append_getElem hlt', P.totT_snoc])
          have Hb := Lib.hid (Hbig.out k hlt')
          clear c0 c1 c2 c3 c6 c7
          generalize P.totT (A.take k) = q at *
          generalize A[k] = t at *
          obtain ⟨tn, tl, tc, ts, tf, tz, te, tm⟩ := t
          simp only at c4 c5 Hnx Hb
          by_cases hb1 : 8000 < tf.length
          · have hb1i : (8000 : Int) < (tf.length : Int) := by omega
            go_wp2
            go_ret
            exact ⟨ret_bool (Hb.out (by omega)).symm, hb⟩
          · have hb1i : (tf.length : Int) ≤ 8000 := by omega
            by_cases hb2 : 8000 < tz.length
            · have hb2i : (8000 : Int) < (tz.length : Int) := by omega
              go_wp2
              go_ret
              exact ⟨ret_bool (Hb.out (by omega)).symm, hb⟩
            · have hb2i : (tz.length : Int) ≤ 8000 := by omega
              go_wp2
              go_region
              go_wp2
              go_roundw
              case rel => exact ⟨k + 1, by omega, by go_num, by rw [Hnx.out]; go_num, by rw [Hnx.out]; omega, hbx.drew, hb.drew⟩
              case measure => simp [intOf]; omega
        · obtain rfl : k = n := by omega
          have Hk := Lib.hid (show A.take k = A by have := Hn.out; rw [List.take_of_length_le (by omega)])
          rw [Hk.out] at hkt
          rw [Hk.out]
          have He := Lib.hid (Hend.out hn60 hm60)
          generalize P.totT A = q at *
          by_cases hmb : 8000 < q
          · have hmi : (8000 : Int) < (q : Int) := by omega
            go_wp2
            go_ret
            exact ⟨ret_bool (by rw [He.out, decide_eq_true hmb]), hb⟩
          · have hmi : (q : Int) ≤ 8000 := by omega
            go_wp2
            go_ret
            exact ⟨ret_bool (by rw [He.out, decide_eq_false hmb]; first | (simp; done) | (simp; omega)), hb⟩
set_option maxRecDepth 100000 in
set_option maxHeartbeats 1000000 in
theorem given_any (a b : Option Addr) (n c m d : Nat) (lo se ne : Nat) (w : World) :
    Calls Try.prog 16 #[edV a n c b m d lo se ne] w fun e w' => e = .returned (edV a n c b m d lo se ne) ∧ Below w.heap.size w w' := by
  go_enter Try.func16, Try.ntmps16
  go_wp2
  exact bodyPost_ret (v := edV a n c b m d lo se ne) (by simp [results, Try.results16, go_sem]) rfl ⟨rfl, ((Below.refl _ _).alloc (Nat.le_refl _) _).alloc (by simp) _⟩
end Go.Proofs.Ythpgigjplknomaa
