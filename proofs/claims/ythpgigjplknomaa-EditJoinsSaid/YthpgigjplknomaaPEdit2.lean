/- Plain law: edits read step by step. -/
import Derived.Test.YthpgigjplknomaaPEdit
namespace Go.Proofs.Ythpgigjplknomaa.P

theorem rdTabs_snoc : ∀ (n : Nat) (s r r' : List UInt8) (l : List Tab) (t : Tab), rdTabs n s = some (l, r) → rdTab r = some (t, r') → rdTabs (n + 1) s = some (l ++ [t], r')
  | 0, s, r, r', l, t, h, ht => by
    simp only [rdTabs, Option.some.injEq, Prod.mk.injEq] at h
    obtain ⟨rfl, rfl⟩ := h
    simp only [rdTabs, ht, Option.bind_eq_bind, Option.bind_some]
    rfl
  | n + 1, s, r, r', l, t, h, ht => by
    simp only [rdTabs, Option.bind_eq_bind, Option.bind_eq_some_iff, Prod.exists] at h
    obtain ⟨t1, s1, h1, l', s2, h2, h3⟩ := h
    simp only [Option.some.injEq, Prod.mk.injEq] at h3
    obtain ⟨rfl, rfl⟩ := h3
    have ih := rdTabs_snoc n _ _ _ _ _ h2 ht
    show (do let (t, s1) ← rdTab s; let (l, s2) ← rdTabs (n + 1) s1; some (t :: l, s2)) = _
    simp only [h1, ih, Option.bind_eq_bind, Option.bind_some, List.cons_append]
theorem rdTabs_stop : ∀ (k n : Nat) (s r : List UInt8) (l : List Tab), k < n → rdTabs k s = some (l, r) → rdTab r = none → rdTabs n s = none
  | 0, n + 1, s, r, l, _, h, ht => by
    simp only [rdTabs, Option.some.injEq, Prod.mk.injEq] at h
    obtain ⟨rfl, rfl⟩ := h
    simp only [rdTabs, ht, Option.bind_eq_bind, Option.bind_none]
  | k + 1, n + 1, s, r, l, hk, h, ht => by
    simp only [rdTabs, Option.bind_eq_bind, Option.bind_eq_some_iff, Prod.exists] at h
    obtain ⟨t1, s1, h1, l', s2, h2, h3⟩ := h
    simp only [Option.some.injEq, Prod.mk.injEq] at h3
    obtain ⟨rfl, rfl⟩ := h3
    have ih := rdTabs_stop k n _ _ _ (by omega) h2 ht
    simp only [rdTabs, h1, ih, Option.bind_eq_bind, Option.bind_some, Option.bind_none]
theorem rdNums_snoc : ∀ (n : Nat) (s r r' : List UInt8) (l : List Nat) (t : Nat), rdNums n s = some (l, r) → rd r = some (t, r') → rdNums (n + 1) s = some (l ++ [t], r')
  | 0, s, r, r', l, t, h, ht => by
    simp only [rdNums, Option.some.injEq, Prod.mk.injEq] at h
    obtain ⟨rfl, rfl⟩ := h
    simp only [rdNums, ht, Option.bind_eq_bind, Option.bind_some]
    rfl
  | n + 1, s, r, r', l, t, h, ht => by
    simp only [rdNums, Option.bind_eq_bind, Option.bind_eq_some_iff, Prod.exists] at h
    obtain ⟨t1, s1, h1, l', s2, h2, h3⟩ := h
    simp only [Option.some.injEq, Prod.mk.injEq] at h3
    obtain ⟨rfl, rfl⟩ := h3
    have ih := rdNums_snoc n _ _ _ _ _ h2 ht
    show (do let (t, s1) ← rd s; let (l, s2) ← rdNums (n + 1) s1; some (t :: l, s2)) = _
    simp only [h1, ih, Option.bind_eq_bind, Option.bind_some, List.cons_append]
theorem rdNums_stop : ∀ (k n : Nat) (s r : List UInt8) (l : List Nat), k < n → rdNums k s = some (l, r) → rd r = none → rdNums n s = none
  | 0, n + 1, s, r, l, _, h, ht => by
    simp only [rdNums, Option.some.injEq, Prod.mk.injEq] at h
    obtain ⟨rfl, rfl⟩ := h
    simp only [rdNums, ht, Option.bind_eq_bind, Option.bind_none]
  | k + 1, n + 1, s, r, l, hk, h, ht => by
    simp only [rdNums, Option.bind_eq_bind, Option.bind_eq_some_iff, Prod.exists] at h
    obtain ⟨t1, s1, h1, l', s2, h2, h3⟩ := h
    simp only [Option.some.injEq, Prod.mk.injEq] at h3
    obtain ⟨rfl, rfl⟩ := h3
    have ih := rdNums_stop k n _ _ _ (by omega) h2 ht
    simp only [rdNums, h1, ih, Option.bind_eq_bind, Option.bind_some, Option.bind_none]
theorem rd_len {s r : List UInt8} {n : Nat} (h : rd s = some (n, r)) : r.length + 1 ≤ s.length := by
  have h1 := (rd_some h).1
  rw [h1, List.length_append, row_length]
  omega
theorem rdTab_len {s r : List UInt8} {t : Tab} (h : rdTab s = some (t, r)) : r.length + 8 ≤ s.length := by
  have h1 := (rdTab_some h).1
  rw [tabRow_is] at h1
  rw [h1]
  simp only [List.length_append, row_length]
  omega
theorem rdTabs_len {n : Nat} {s r : List UInt8} {l : List Tab} (h : rdTabs n s = some (l, r)) : r.length + 8 * l.length ≤ s.length := by
  induction n generalizing s r l with
  | zero =>
    simp only [rdTabs, Option.some.injEq, Prod.mk.injEq] at h
    obtain ⟨rfl, rfl⟩ := h
    simp
  | succ n ih =>
    simp only [rdTabs, Option.bind_eq_bind, Option.bind_eq_some_iff, Prod.exists] at h
    obtain ⟨t, s1, h1, l', s2, h2, h3⟩ := h
    simp only [Option.some.injEq, Prod.mk.injEq] at h3
    obtain ⟨rfl, rfl⟩ := h3
    have a := rdTab_len h1
    have b := ih h2
    rw [List.length_cons]
    omega
theorem rdNums_len {n : Nat} {s r : List UInt8} {l : List Nat} (h : rdNums n s = some (l, r)) : r.length + l.length ≤ s.length := by
  induction n generalizing s r l with
  | zero =>
    simp only [rdNums, Option.some.injEq, Prod.mk.injEq] at h
    obtain ⟨rfl, rfl⟩ := h
    simp
  | succ n ih =>
    simp only [rdNums, Option.bind_eq_bind, Option.bind_eq_some_iff, Prod.exists] at h
    obtain ⟨t, s1, h1, l', s2, h2, h3⟩ := h
    simp only [Option.some.injEq, Prod.mk.injEq] at h3
    obtain ⟨rfl, rfl⟩ := h3
    have a := rd_len h1
    have b := ih h2
    rw [List.length_cons]
    omega

/-! ### A reader's steps -/
/-- What a reader gives, and what is left of it. -/
def rdS (most : Nat) (s : List UInt8) (bad : Bool) : Nat × (List UInt8 × Bool) := if bad = false ∧ rOk s = true ∧ rNum s ≤ most then (rNum s, (s.drop (rSize s), false)) else (0, (s, true))
def rdX (s : List UInt8) (bad : Bool) : List UInt8 × (List UInt8 × Bool) := if bad = false ∧ tOk s 64 = true then (tText s 64, (s.drop (tSize s 64), false)) else ([], (s, true))
theorem rdS_len (most : Nat) (s : List UInt8) (bad : Bool) : (rdS most s bad).2.1.length ≤ s.length := by
  unfold rdS
  split
  · simp
  · exact Nat.le_refl _
theorem rdX_len (s : List UInt8) (bad : Bool) : (rdX s bad).2.1.length ≤ s.length := by
  unfold rdX
  split
  · simp
  · exact Nat.le_refl _
theorem rdS_le (most : Nat) (s : List UInt8) (bad : Bool) : (rdS most s bad).1 ≤ most := by
  unfold rdS
  split
  · next h => exact h.2.2
  · exact Nat.zero_le _
theorem rdS_sticky (most : Nat) (s : List UInt8) : rdS most s true = (0, (s, true)) := by unfold rdS; rw [if_neg (by simp)]
theorem rdX_sticky (s : List UInt8) : rdX s true = ([], (s, true)) := by unfold rdX; rw [if_neg (by simp)]
theorem rdS_u {s s' : List UInt8} {n : Nat} {b b' : Bool} (h : (n, s', b') = rdS 18446744073709551615 s b) : (b' = false → b = false ∧ rd s = some (n, s')) ∧ (b' = true → b = false → rd s = none) := by
  unfold rdS at h
  unfold rd
  split at h
  · next h1 =>
    simp only [Prod.mk.injEq] at h
    obtain ⟨rfl, rfl, rfl⟩ := h
    rw [if_pos h1.2.1]
    exact ⟨fun _ => ⟨h1.1, rfl⟩, (fun h => by cases h)⟩
  · next h1 =>
    simp only [Prod.mk.injEq] at h
    obtain ⟨rfl, rfl, rfl⟩ := h
    refine ⟨(fun h => by cases h), fun _ hb => ?_⟩
    rw [if_neg (fun hr => h1 ⟨hb, hr, by have := (row_read _ hr).2.2.2; omega⟩)]
theorem rdS_i {s s' : List UInt8} {n : Nat} {b b' : Bool} (h : (n, s', b') = rdS 9223372036854775807 s b) : (b' = false → b = false ∧ rdI s = some (n, s')) ∧ (b' = true → b = false → rdI s = none) := by
  unfold rdS at h
  unfold rdI
  split at h
  · next h1 =>
    simp only [Prod.mk.injEq] at h
    obtain ⟨rfl, rfl, rfl⟩ := h
    rw [if_pos h1.2]
    exact ⟨fun _ => ⟨h1.1, rfl⟩, (fun h => by cases h)⟩
  · next h1 =>
    simp only [Prod.mk.injEq] at h
    obtain ⟨rfl, rfl, rfl⟩ := h
    refine ⟨(fun h => by cases h), fun _ hb => ?_⟩
    rw [if_neg (fun hr => h1 ⟨hb, hr⟩)]
theorem rdX_t {s s' a : List UInt8} {b b' : Bool} (h : (a, s', b') = rdX s b) : (b' = false → b = false ∧ rdT s = some (a, s')) ∧ (b' = true → b = false → rdT s = none) := by
  unfold rdX at h
  unfold rdT
  split at h
  · next h1 =>
    simp only [Prod.mk.injEq] at h
    obtain ⟨rfl, rfl, rfl⟩ := h
    rw [if_pos h1.2]
    exact ⟨fun _ => ⟨h1.1, rfl⟩, (fun h => by cases h)⟩
  · next h1 =>
    simp only [Prod.mk.injEq] at h
    obtain ⟨rfl, rfl, rfl⟩ := h
    refine ⟨(fun h => by cases h), fun _ hb => ?_⟩
    rw [if_neg (fun hr => h1 ⟨hb, hr⟩)]
/-- A table, read in eight steps. -/
theorem tab_steps {s0 s1 s2 s3 s4 s5 s6 s7 s8 : List UInt8} {b1 b2 b3 b4 b5 b6 b7 b8 : Bool} {n lv ct sz le mo : Nat} {a b : List UInt8}
    (h1 : (n, s1, b1) = rdS 18446744073709551615 s0 false) (h2 : (lv, s2, b2) = rdS 9223372036854775807 s1 b1) (h3 : (ct, s3, b3) = rdS 9223372036854775807 s2 b2) (h4 : (sz, s4, b4) = rdS 9223372036854775807 s3 b3)
    (h5 : (le, s5, b5) = rdS 18446744073709551615 s4 b4) (h6 : (mo, s6, b6) = rdS 18446744073709551615 s5 b5) (h7 : (a, s7, b7) = rdX s6 b6) (h8 : (b, s8, b8) = rdX s7 b7) :
    (b8 = false → rdTab s0 = some (⟨n, lv, ct, sz, a, b, le, mo⟩, s8)) ∧ (b8 = true → rdTab s0 = none) := by
  constructor
  · intro hb
    obtain ⟨c7, e8⟩ := (rdX_t h8).1 hb
    obtain ⟨c6, e7⟩ := (rdX_t h7).1 c7
    obtain ⟨c5, e6⟩ := (rdS_u h6).1 c6
    obtain ⟨c4, e5⟩ := (rdS_u h5).1 c5
    obtain ⟨c3, e4⟩ := (rdS_i h4).1 c4
    obtain ⟨c2, e3⟩ := (rdS_i h3).1 c3
    obtain ⟨c1, e2⟩ := (rdS_i h2).1 c2
    obtain ⟨c0, e1⟩ := (rdS_u h1).1 c1
    unfold rdTab
    simp only [e1, e2, e3, e4, e5, e6, e7, e8, Option.bind_eq_bind, Option.bind_some]
  · intro hb
    unfold rdTab
    cases b1 with
    | true => simp only [(rdS_u h1).2 rfl rfl, Option.bind_eq_bind, Option.bind_none]
    | false =>
      have e1 := ((rdS_u h1).1 rfl).2
      cases b2 with
      | true => simp only [e1, (rdS_i h2).2 rfl rfl, Option.bind_eq_bind, Option.bind_none, Option.bind_some]
      | false =>
        have e2 := ((rdS_i h2).1 rfl).2
        cases b3 with
        | true => simp only [e1, e2, (rdS_i h3).2 rfl rfl, Option.bind_eq_bind, Option.bind_none, Option.bind_some]
        | false =>
          have e3 := ((rdS_i h3).1 rfl).2
          cases b4 with
          | true => simp only [e1, e2, e3, (rdS_i h4).2 rfl rfl, Option.bind_eq_bind, Option.bind_none, Option.bind_some]
          | false =>
            have e4 := ((rdS_i h4).1 rfl).2
            cases b5 with
            | true => simp only [e1, e2, e3, e4, (rdS_u h5).2 rfl rfl, Option.bind_eq_bind, Option.bind_none, Option.bind_some]
            | false =>
              have e5 := ((rdS_u h5).1 rfl).2
              cases b6 with
              | true => simp only [e1, e2, e3, e4, e5, (rdS_u h6).2 rfl rfl, Option.bind_eq_bind, Option.bind_none, Option.bind_some]
              | false =>
                have e6 := ((rdS_u h6).1 rfl).2
                cases b7 with
                | true => simp only [e1, e2, e3, e4, e5, e6, (rdX_t h7).2 rfl rfl, Option.bind_eq_bind, Option.bind_none, Option.bind_some]
                | false =>
                  have e7 := ((rdX_t h7).1 rfl).2
                  subst hb
                  simp only [e1, e2, e3, e4, e5, e6, e7, (rdX_t h8).2 rfl rfl, Option.bind_eq_bind, Option.bind_none, Option.bind_some]
/-! ### An edit, read in parts -/
theorem decE_none {s : List UInt8} (h : rdEd s = none) : decE s = none := by
  unfold decE
  rw [h]
  split <;> rfl
theorem ed_no1 {s : List UInt8} (h : rd s = none) : decE s = none := decE_none (by unfold rdEd; simp only [h, Option.bind_eq_bind, Option.bind_none])
theorem ed_no2 {s s1 : List UInt8} {n : Nat} (h : rd s = some (n, s1)) (h2 : rdTabs n s1 = none) : decE s = none := decE_none (by unfold rdEd; simp only [h, h2, Option.bind_eq_bind, Option.bind_none, Option.bind_some])
theorem ed_no3 {s s1 s2 : List UInt8} {n : Nat} {l : List Tab} (h : rd s = some (n, s1)) (h2 : rdTabs n s1 = some (l, s2)) (h3 : rd s2 = none) : decE s = none := decE_none (by unfold rdEd; simp only [h, h2, h3, Option.bind_eq_bind, Option.bind_none, Option.bind_some])
theorem ed_no4 {s s1 s2 s3 : List UInt8} {n m : Nat} {l : List Tab} (h : rd s = some (n, s1)) (h2 : rdTabs n s1 = some (l, s2)) (h3 : rd s2 = some (m, s3)) (h4 : rdNums m s3 = none) : decE s = none := decE_none (by unfold rdEd; simp only [h, h2, h3, h4, Option.bind_eq_bind, Option.bind_none, Option.bind_some])
/-- What stands behind the numbers. -/
theorem ed_tail {s s1 s2 s3 s4 s5 s6 s7 : List UInt8} {n m x y z : Nat} {l : List Tab} {d : List Nat} {b5 b6 b7 : Bool} (hl : s.length ≤ 524288) (h : rd s = some (n, s1)) (h2 : rdTabs n s1 = some (l, s2)) (h3 : rd s2 = some (m, s3)) (h4 : rdNums m s3 = some (d, s4))
    (h5 : (x, s5, b5) = rdS 18446744073709551615 s4 false) (h6 : (y, s6, b6) = rdS 18446744073709551615 s5 b5) (h7 : (z, s7, b7) = rdS 18446744073709551615 s6 b6) :
    decE s = if b7 = false ∧ s7 = [] ∧ mayB ⟨l, d, x, y, z⟩ = true then some ⟨l, d, x, y, z⟩ else none := by
  unfold decE
  rw [if_pos hl]
  have hr : rdEd s = (do let (a, s5) ← rd s4; let (b, s6) ← rd s5; let (c, s7) ← rd s6; some (⟨l, d, a, b, c⟩, s7)) := by
    unfold rdEd
    simp only [h, h2, h3, h4, Option.bind_eq_bind, Option.bind_some]
  rw [hr]
  cases b5 with
  | true =>
    have e := (rdS_u h5).2 rfl rfl
    rw [rdS_sticky] at h6
    simp only [Prod.mk.injEq] at h6
    obtain ⟨rfl, rfl, rfl⟩ := h6
    rw [rdS_sticky] at h7
    simp only [Prod.mk.injEq] at h7
    obtain ⟨rfl, rfl, rfl⟩ := h7
    simp only [e, Option.bind_eq_bind, Option.bind_none]
    rw [if_neg (by simp)]
  | false =>
    have e5 := ((rdS_u h5).1 rfl).2
    cases b6 with
    | true =>
      have e := (rdS_u h6).2 rfl rfl
      rw [rdS_sticky] at h7
      simp only [Prod.mk.injEq] at h7
      obtain ⟨rfl, rfl, rfl⟩ := h7
      simp only [e5, e, Option.bind_eq_bind, Option.bind_none, Option.bind_some]
      rw [if_neg (by simp)]
    | false =>
      have e6 := ((rdS_u h6).1 rfl).2
      cases b7 with
      | true =>
        have e := (rdS_u h7).2 rfl rfl
        simp only [e5, e6, e, Option.bind_eq_bind, Option.bind_none, Option.bind_some]
        rw [if_neg (by simp)]
      | false =>
        have e7 := ((rdS_u h7).1 rfl).2
        simp only [e5, e6, e7, Option.bind_eq_bind, Option.bind_some]
        cases s7 with
        | nil => simp
        | cons c q => simp
end Go.Proofs.Ythpgigjplknomaa.P
