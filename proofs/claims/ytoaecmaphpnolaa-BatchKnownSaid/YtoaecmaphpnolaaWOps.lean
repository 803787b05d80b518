/- Operations in memory; the walks of long and bad, and of the library's search. -/
import Derived.Test.YtoaecmaphpnolaaWBuildN
import Derived.Test.YtoaecmaphpnolaaWTextsR
import Derived.Test.YtoaecmaphpnolaaPBatch
namespace Go.Proofs.Ytoaecmaphpnolaa
open Go.RowKit
set_option linter.unusedVariables false

theorem Chain.up {w wx wy : World} (h : Below w.heap.size w wx) (hb : Below wx.heap.size wx wy) : Below w.heap.size w wy := h.trans (hb.mono h.size)

/-- The value of an operation. -/
abbrev opV (o : P.Op) : Value := .agg #[S o.key, S o.val, .bool o.gone]
/-- A slice of operations that reads as a list of them. -/
def OpsAt (w : World) (a : Option Addr) (l : List P.Op) : Prop := ∀ (i : Nat) (h : i < l.length), ∃ b o, a = some ⟨b, o, none⟩ ∧ b < w.heap.size ∧
  w.cell? ⟨b, o + i * 3, none⟩ = some (S l[i].key) ∧ w.cell? ⟨b, o + i * 3 + 1, none⟩ = some (S l[i].val) ∧ w.cell? ⟨b, o + i * 3 + 2, none⟩ = some (.bool l[i].gone)
theorem OpsAt.up {w w' : World} {a : Option Addr} {l : List P.Op} (h : OpsAt w a l) (hb : Below w.heap.size w w') : OpsAt w' a l := by
  intro i hi
  obtain ⟨b, o, rfl, hlt, h0, h1, h2⟩ := h i hi
  exact ⟨b, o, rfl, Nat.lt_of_lt_of_le hlt hb.size, (hb.cell (p := ⟨b, o + i * 3, none⟩) hlt).trans h0, (hb.cell (p := ⟨b, o + i * 3 + 1, none⟩) hlt).trans h1, (hb.cell (p := ⟨b, o + i * 3 + 2, none⟩) hlt).trans h2⟩

set_option maxRecDepth 100000 in
set_option maxHeartbeats 1000000 in
theorem long_any (k v : List UInt8) (g : Bool) (w : World) :
    Calls Try.prog 28 #[.agg #[S k, S v, .bool g]] w fun e w' => e = .returned (.bool (P.opLong ⟨k, v, g⟩)) ∧ Below w.heap.size w w' := by
  have H := Lib.hid (show P.opLong ⟨k, v, g⟩ = (decide (64 < k.length) || decide (512 < v.length)) from rfl)
  by_cases h1 : 64 < k.length
  · have hd : decide (64 < k.length) = true := decide_eq_true h1
    go_enter Try.func28, Try.ntmps28
    go_wp2
    go_ret
    exact ⟨by rw [H.out, hd]; simp, (Below.refl _ _).alloc (Nat.le_refl _) _⟩
  · have hd : decide (64 < k.length) = false := decide_eq_false h1
    have h1i : (k.length : Int) ≤ 64 := by omega
    by_cases h2 : 512 < v.length
    · have hd2 : decide (512 < v.length) = true := decide_eq_true h2
      have h2i : (512 : Int) < v.length := by omega
      go_enter Try.func28, Try.ntmps28
      go_wp2
      go_ret
      exact ⟨by rw [H.out, hd, hd2]; first | (simp; done) | (simp; omega), (Below.refl _ _).alloc (Nat.le_refl _) _⟩
    · have hd2 : decide (512 < v.length) = false := decide_eq_false h2
      have h2i : (v.length : Int) ≤ 512 := by omega
      go_enter Try.func28, Try.ntmps28
      go_wp2
      go_ret
      exact ⟨by rw [H.out, hd, hd2]; first | (simp; done) | (simp; omega), (Below.refl _ _).alloc (Nat.le_refl _) _⟩
set_option maxRecDepth 100000 in
set_option maxHeartbeats 1000000 in
theorem bad_any (k v : List UInt8) (g : Bool) (w : World) :
    Calls Try.prog 29 #[.agg #[S k, S v, .bool g]] w fun e w' => e = .returned (.bool (P.opBad ⟨k, v, g⟩)) ∧ Below w.heap.size w w' := by
  have H := Lib.hid (show P.opBad ⟨k, v, g⟩ = (decide (k.length = 0) || (g && decide (0 < v.length))) from rfl)
  by_cases h1 : k = []
  · subst h1
    go_enter Try.func29, Try.ntmps29
    go_wp2
    go_ret
    exact ⟨by rw [H.out]; rfl, (Below.refl _ _).alloc (Nat.le_refl _) _⟩
  · have hk : (k == []) = false := beq_eq_false_iff_ne.2 h1
    have hk0 : decide (k.length = 0) = false := decide_eq_false (fun h => h1 (List.length_eq_zero_iff.1 h))
    cases g with
    | false =>
      go_enter Try.func29, Try.ntmps29
      go_wp2
      go_ret
      exact ⟨by rw [H.out, hk0]; rfl, (Below.refl _ _).alloc (Nat.le_refl _) _⟩
    | true =>
      go_enter Try.func29, Try.ntmps29
      go_wp2
      go_ret
      exact ⟨by rw [H.out, hk0]; cases v <;> simp, (Below.refl _ _).alloc (Nat.le_refl _) _⟩

set_option maxRecDepth 100000 in
set_option maxHeartbeats 2000000 in
theorem index_long (a : Option Addr) (c : Nat) (l : List P.Op) (w : World) (hl : l.length ≤ 9223372036854775807) (hp : OpsAt w a l) :
    Calls Try.prog 39 #[.slice a l.length c, .func (.func 28) #[] #[]] w fun e w' => ∃ z : Int, e = .returned (.int .i64 z) ∧ decide (0 ≤ z) = l.any P.opLong ∧ Below w.heap.size w w' := by
  have Hp := Lib.hid hp
  clear hp
  go_enter Try.func39, Try.ntmps39
  go_wp2
  go_loopw [8] (fun i wr => ∃ k : Nat, k ≤ l.length ∧ i = .int .i64 k ∧ (l.take k).any P.opLong = false ∧ Below w.heap.size w wr) (fun i _ => l.length - (intOf i).toNat)
  case atStart => exact ⟨0, by omega, rfl, rfl, Below.refl _ _⟩
  case round =>
    obtain ⟨k, hk, rfl, hany, hb⟩ := hrel
    have Hany := Lib.hid hany
    clear hany
    by_cases hlt : k < l.length
    · obtain ⟨b, o, rfl, hbb, h0, h1, h2⟩ := Hp.out k hlt
      have c0 := (hb.cell (p := ⟨b, o + k * 3, none⟩) hbb).trans h0
      have c1 := (hb.cell (p := ⟨b, o + k * 3 + 1, none⟩) hbb).trans h1
      have c2 := (hb.cell (p := ⟨b, o + k * 3 + 2, none⟩) hbb).trans h2
      clear h0 h1 h2
      have Hyes := Lib.hid (show P.opLong l[k] = true → l.any P.opLong = true from fun h => List.any_eq_true.2 ⟨_, List.getElem_mem hlt, h⟩)
      have Hno := Lib.hid (show P.opLong l[k] = false → (l.take (k + 1)).any P.opLong = false from fun h => by rw [List.take_succ_eq_append_getElem hlt, List.any_append, Hany.out]; simp [h])
      have HF := Lib.hid (fun w => long_any l[k].key l[k].val l[k].gone w)
      generalize l[k] = q at *
      obtain ⟨kk, vv, gg⟩ := q
      simp only at c0 c1 c2 HF
      cases hpr : P.opLong ⟨kk, vv, gg⟩ with
      | true =>
        have Hy := Lib.hid (Hyes.out hpr)
        rw [hpr] at HF
        clear hpr Hno Hyes
        go_wp2_with (go_at_call 28; (with_reducible refine (HF.out _).mono ?_); rintro e w1 ⟨rfl, hb1⟩)
        go_ret
        exact ⟨k, rfl, by rw [Hy.out]; simp, Chain.up hb hb1⟩
      | false =>
        have Hn := Lib.hid (Hno.out hpr)
        rw [hpr] at HF
        clear hpr Hno Hyes
        go_wp2_with (go_at_call 28; (with_reducible refine (HF.out _).mono ?_); rintro e w1 ⟨rfl, hb1⟩)
        go_roundw
        case rel => exact ⟨k + 1, by omega, by go_num, Hn.out, Chain.up hb hb1⟩
        case measure => simp [intOf]; omega
    · obtain rfl : k = l.length := by omega
      have Ha := Lib.hid (show l.any P.opLong = false by have h := Hany.out; rwa [List.take_length] at h)
      go_wp2
      go_ret
      exact ⟨-1, rfl, by rw [Ha.out]; rfl, hb⟩
set_option maxRecDepth 100000 in
set_option maxHeartbeats 2000000 in
theorem contains_long (a : Option Addr) (c : Nat) (l : List P.Op) (w : World) (hl : l.length ≤ 9223372036854775807) (hp : OpsAt w a l) :
    Calls Try.prog 27 #[.slice a l.length c, .func (.func 28) #[] #[]] w fun e w' => e = .returned (.bool (l.any P.opLong)) ∧ Below w.heap.size w w' := by
  have HI := Lib.hid (index_long a c l w hl hp)
  clear hp
  go_enter Try.func27, Try.ntmps27
  go_wp2_with (go_at_call 39; (with_reducible refine HI.out.mono ?_); rintro e w1 ⟨z, rfl, hz, hb1⟩)
  go_ret
  exact ⟨by rw [← hz]; rfl, hb1⟩

set_option maxRecDepth 100000 in
set_option maxHeartbeats 2000000 in
theorem index_bad (a : Option Addr) (c : Nat) (l : List P.Op) (w : World) (hl : l.length ≤ 9223372036854775807) (hp : OpsAt w a l) :
    Calls Try.prog 39 #[.slice a l.length c, .func (.func 29) #[] #[]] w fun e w' => ∃ z : Int, e = .returned (.int .i64 z) ∧ decide (0 ≤ z) = l.any P.opBad ∧ Below w.heap.size w w' := by
  have Hp := Lib.hid hp
  clear hp
  go_enter Try.func39, Try.ntmps39
  go_wp2
  go_loopw [8] (fun i wr => ∃ k : Nat, k ≤ l.length ∧ i = .int .i64 k ∧ (l.take k).any P.opBad = false ∧ Below w.heap.size w wr) (fun i _ => l.length - (intOf i).toNat)
  case atStart => exact ⟨0, by omega, rfl, rfl, Below.refl _ _⟩
  case round =>
    obtain ⟨k, hk, rfl, hany, hb⟩ := hrel
    have Hany := Lib.hid hany
    clear hany
    by_cases hlt : k < l.length
    · obtain ⟨b, o, rfl, hbb, h0, h1, h2⟩ := Hp.out k hlt
      have c0 := (hb.cell (p := ⟨b, o + k * 3, none⟩) hbb).trans h0
      have c1 := (hb.cell (p := ⟨b, o + k * 3 + 1, none⟩) hbb).trans h1
      have c2 := (hb.cell (p := ⟨b, o + k * 3 + 2, none⟩) hbb).trans h2
      clear h0 h1 h2
      have Hyes := Lib.hid (show P.opBad l[k] = true → l.any P.opBad = true from fun h => List.any_eq_true.2 ⟨_, List.getElem_mem hlt, h⟩)
      have Hno := Lib.hid (show P.opBad l[k] = false → (l.take (k + 1)).any P.opBad = false from fun h => by rw [List.take_succ_eq_append_getElem hlt, List.any_append, Hany.out]; simp [h])
      have HF := Lib.hid (fun w => bad_any l[k].key l[k].val l[k].gone w)
      generalize l[k] = q at *
      obtain ⟨kk, vv, gg⟩ := q
      simp only at c0 c1 c2 HF
      cases hpr : P.opBad ⟨kk, vv, gg⟩ with
      | true =>
        have Hy := Lib.hid (Hyes.out hpr)
        rw [hpr] at HF
        clear hpr Hno Hyes
        go_wp2_with (go_at_call 29; (with_reducible refine (HF.out _).mono ?_); rintro e w1 ⟨rfl, hb1⟩)
        go_ret
        exact ⟨k, rfl, by rw [Hy.out]; simp, Chain.up hb hb1⟩
      | false =>
        have Hn := Lib.hid (Hno.out hpr)
        rw [hpr] at HF
        clear hpr Hno Hyes
        go_wp2_with (go_at_call 29; (with_reducible refine (HF.out _).mono ?_); rintro e w1 ⟨rfl, hb1⟩)
        go_roundw
        case rel => exact ⟨k + 1, by omega, by go_num, Hn.out, Chain.up hb hb1⟩
        case measure => simp [intOf]; omega
    · obtain rfl : k = l.length := by omega
      have Ha := Lib.hid (show l.any P.opBad = false by have h := Hany.out; rwa [List.take_length] at h)
      go_wp2
      go_ret
      exact ⟨-1, rfl, by rw [Ha.out]; rfl, hb⟩
set_option maxRecDepth 100000 in
set_option maxHeartbeats 2000000 in
theorem contains_bad (a : Option Addr) (c : Nat) (l : List P.Op) (w : World) (hl : l.length ≤ 9223372036854775807) (hp : OpsAt w a l) :
    Calls Try.prog 27 #[.slice a l.length c, .func (.func 29) #[] #[]] w fun e w' => e = .returned (.bool (l.any P.opBad)) ∧ Below w.heap.size w w' := by
  have HI := Lib.hid (index_bad a c l w hl hp)
  clear hp
  go_enter Try.func27, Try.ntmps27
  go_wp2_with (go_at_call 39; (with_reducible refine HI.out.mono ?_); rintro e w1 ⟨z, rfl, hz, hb1⟩)
  go_ret
  exact ⟨by rw [← hz]; rfl, hb1⟩
end Go.Proofs.Ytoaecmaphpnolaa
