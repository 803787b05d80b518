/- The walk of the document's Same. -/
import Derived.Test.YtoaecmaphpnolaaWRefE
import Derived.Test.YtoaecmaphpnolaaWEqOp
import Derived.Deep.QuietTactic
import Derived.BigQuiet
namespace Go.Proofs.Ytoaecmaphpnolaa
open Go.RowKit
set_option linter.unusedVariables false

attribute [local go_sem high] eq_op guardOp

/-- Two batches? -/
def P.sameB (s1 : Nat) (l1 : List P.Op) (s2 : Nat) (l2 : List P.Op) : Bool := decide (s1 = s2 ∧ l1 = l2)
theorem P.take_same {l1 l2 : List P.Op} {k : Nat} (h1 : k < l1.length) (h2 : k < l2.length) (h : l1.take k = l2.take k) (he : l1[k] = l2[k]) : l1.take (k + 1) = l2.take (k + 1) := by
  rw [List.take_succ_eq_append_getElem h1, List.take_succ_eq_append_getElem h2, h, he]

set_option maxRecDepth 100000 in
set_option maxHeartbeats 4000000 in
theorem same_any (s1 s2 : Nat) (a1 a2 : Option Addr) (c1 c2 : Nat) (l1 l2 : List P.Op) (w : World) (hn : l1.length ≤ 100000) (hp1 : OpsAt w a1 l1) (hp2 : OpsAt w a2 l2) :
    Calls Try.prog 22 #[batchV s1 a1 l1.length c1, batchV s2 a2 l2.length c2] w fun e w' => e = .returned (.bool (P.sameB s1 l1 s2 l2)) ∧ Below w.heap.size w w' := by
  have Hp1 := Lib.hid hp1
  have Hp2 := Lib.hid hp2
  clear hp1 hp2
  have h0 := ((Below.refl w.heap.size w).alloc (Nat.le_refl _) (.cells #[V64 s1, .slice a1 l1.length c1] 43)).alloc (by simp) (.cells #[V64 s2, .slice a2 l2.length c2] 43)
  by_cases hs : s1 = s2
  · subst hs
    by_cases hl : l1.length = l2.length
    · have Hl := Lib.hid hl
      have Hbd := Lib.hid hn
      rw [← hl]
      rw [← hl] at h0
      clear hl hn
      have hbx1 := Bx.fresh w 43 #[V64 s1, .slice a1 l1.length c1]
      have hbx1 := hbx1.up ((Below.refl _ _).alloc (Nat.le_refl _) (.cells #[V64 s1, .slice a2 l1.length c2] 43))
      have hbx2 := Bx.fresh (w.alloc (.cells #[V64 s1, .slice a1 l1.length c1] 43)) 43 #[V64 s1, .slice a2 l1.length c2]
      rw [show (w.alloc (.cells #[V64 s1, .slice a1 l1.length c1] 43)).heap.size = w.heap.size + 1 by simp] at hbx2
      have hn : l1.length ≤ 100000 := Hbd.out
      generalize hln : l1.length = n at *
      have Hln := Lib.hid hln
      clear hln
      go_enter Try.func22, Try.ntmps22
      go_wp2
      go_loopw [5] (fun i wr => ∃ k : Nat, k ≤ n ∧ i = .int .i64 k ∧ l1.take k = l2.take k ∧ Bx wr w.heap.size 43 #[V64 s1, .slice a1 n c1] ∧ Bx wr (w.heap.size + 1) 43 #[V64 s1, .slice a2 n c2] ∧ Below w.heap.size w wr) (fun i _ => n - (intOf i).toNat)
      case atStart => exact ⟨0, by omega, rfl, by simp, hbx1, hbx2, h0⟩
      case round =>
        clear hbx1 hbx2 h0
        obtain ⟨k, hk, rfl, htk, hbx1, hbx2, hb⟩ := hrel
        have Htk := Lib.hid htk
        clear htk
        obtain ⟨y0, y1, _, _⟩ := hbx1.two
        obtain ⟨z0, z1, _, _⟩ := hbx2.two
        by_cases hlt : k < n
        · have k1 : k < l1.length := by have := Hln.out; omega
          have k2 : k < l2.length := by have := Hl.out; have := Hln.out; omega
          obtain ⟨b, o, rfl, hbb, q0, q1, q2⟩ := Hp1.out k k1
          obtain ⟨b', o', rfl, hbb', q0', q1', q2'⟩ := Hp2.out k k2
          have c0 := (hb.cell (p := ⟨b, o + k * 3, none⟩) hbb).trans q0
          have c1 := (hb.cell (p := ⟨b, o + k * 3 + 1, none⟩) hbb).trans q1
          have c2 := (hb.cell (p := ⟨b, o + k * 3 + 2, none⟩) hbb).trans q2
          have d0 := (hb.cell (p := ⟨b', o' + k * 3, none⟩) hbb').trans q0'
          have d1 := (hb.cell (p := ⟨b', o' + k * 3 + 1, none⟩) hbb').trans q1'
          have d2 := (hb.cell (p := ⟨b', o' + k * 3 + 2, none⟩) hbb').trans q2'
          clear q0 q1 q2 q0' q1' q2'
          have Hyes := Lib.hid (show l1[k] = l2[k] → l1.take (k + 1) = l2.take (k + 1) from P.take_same k1 k2 Htk.out)
          have Hno := Lib.hid (show ¬ l1[k] = l2[k] → P.sameB s1 l1 s1 l2 = false from fun h => decide_eq_false (fun hh => h (by have h2 := hh.2; subst h2; rfl)))
          generalize l1[k] = x at *
          generalize l2[k] = y at *
          obtain ⟨kx, vx, gx⟩ := x
          obtain ⟨ky, vy, gy⟩ := y
          simp only at c0 c1 c2 d0 d1 d2
          by_cases hxy : (⟨kx, vx, gx⟩ : P.Op) = ⟨ky, vy, gy⟩
          · have Hn := Lib.hid (Hyes.out hxy)
            have he : P.opEq kx vx gx ky vy gy = true := by rw [P.opEq_iff]; injection hxy with a b c; exact decide_eq_true ⟨a, b, c⟩
            clear hxy
            go_wp2
            go_quiet (fail)
            go_wp2
            go_roundw
            case rel => exact ⟨k + 1, by omega, by go_num, Hn.out, hbx1, hbx2, below_drewN hb _⟩
            case measure => simp [intOf]; omega
          · have Hn := Lib.hid (Hno.out hxy)
            have he : P.opEq kx vx gx ky vy gy = false := by rw [P.opEq_iff]; exact decide_eq_false (fun h => hxy (by rw [h.1, h.2.1, h.2.2]))
            clear hxy
            go_wp2
            go_quiet (fail)
            go_wp2
            go_ret
            exact ⟨by rw [Hn.out]; rfl, below_drewN hb _⟩
        · obtain rfl : k = n := by omega
          have He := Lib.hid (show P.sameB s1 l1 s1 l2 = true from decide_eq_true ⟨rfl, by have h := Htk.out; have := Hl.out; have := Hln.out; rw [List.take_of_length_le (by omega), List.take_of_length_le (by omega)] at h; exact h⟩)
          go_wp2
          go_ret
          exact ⟨by rw [He.out]; rfl, hb⟩
    · have He := Lib.hid (show P.sameB s1 l1 s1 l2 = false from decide_eq_false (fun h => hl (by rw [h.2])))
      have hx1 : ((l1.length : Int) == (l2.length : Int)) = false := beq_eq_false_iff_ne.2 (by omega)
      have hx2 : ((l1.length : Int) != (l2.length : Int)) = true := by rw [bne, hx1]; rfl
      generalize l1.length = n1 at *
      generalize l2.length = n2 at *
      clear hl
      go_enter Try.func22, Try.ntmps22
      go_wp2
      go_ret
      exact ⟨by rw [He.out]; rfl, h0⟩
  · have He := Lib.hid (show P.sameB s1 l1 s2 l2 = false from decide_eq_false (fun h => hs h.1))
    have hx1 : ((s1 : Int) == (s2 : Int)) = false := beq_eq_false_iff_ne.2 (by omega)
    have hx2 : ((s1 : Int) != (s2 : Int)) = true := by rw [bne, hx1]; rfl
    clear hs
    go_enter Try.func22, Try.ntmps22
    go_wp2
    go_ret
    exact ⟨by rw [He.out]; rfl, h0⟩
end Go.Proofs.Ytoaecmaphpnolaa
