/- Plain law of layer 29: reading with a flag that stays, as the program does it. -/
import Derived.Test.YtnflbgindcejjaaDoorPScript
namespace Go.Proofs.YtnflbgindcejjaaDoor.P
set_option linter.unusedVariables false
set_option linter.unusedSimpArgs false

/-- A text, and whether the reading of it is bad. -/
abbrev Qs := List UInt8 × Bool
def qN (q : Qs) : Nat × Qs := (rNum q.1, if q.2 = false ∧ rOk q.1 = true then (q.1.drop (rSize q.1), false) else (q.1, true))
def qP (n : Nat) (q : Qs) : List UInt8 × Qs := if q.2 = false ∧ n ≤ q.1.length then (q.1.take n, (q.1.drop n, false)) else ([], (q.1, true))
def qC (q : Qs) : Nat × Qs := if q.2 = false ∧ 1 ≤ q.1.length then (at_ q.1 0, (q.1.drop 1, false)) else (0, (q.1, true))
def qS (q : Qs) : Nat × Qs := ((qN q).1 % 2147483648, ((qN q).2.1, (qN q).2.2 || decide (2147483647 < (qN q).1)))
def qT (q : Qs) : List UInt8 × Qs := (tText q.1 65536, if q.2 = false ∧ tOk q.1 65536 = true then (q.1.drop (tSize q.1 65536), false) else (q.1, true))
def qKeep : Nat → Qs → List Int × Qs
  | 0, q => ([], q)
  | k + 1, q => (((qS q).1 : Int) :: (qKeep k (qS q).2).1, (qKeep k (qS q).2).2)
def qSpot (q : Qs) : (Int × Nat) × Qs := ((((qS q).1 : Int), bigNum (qP 4 (qS q).2).1 4), (qP 4 (qS q).2).2)
def qSpoil : Nat → Qs → List (Int × Nat) × Qs
  | 0, q => ([], q)
  | k + 1, q => ((qSpot q).1 :: (qSpoil k (qSpot q).2).1, (qSpoil k (qSpot q).2).2)
def qCrash (q : Qs) : Cr × Qs :=
  let n := qS q
  let k := qC n.2
  let l := qKeep k.1 k.2
  let c := qC l.2
  let m := qSpoil c.1 c.2
  (⟨(n.1 : Int), l.1, m.1⟩, m.2)
def qAct (q : Qs) : Ac × Qs :=
  let k := qC q
  if k.2.2 = true ∨ ¬ (1 ≤ k.1 ∧ k.1 ≤ 7) then (noAc, (k.2.1, true))
  else if k.1 = 1 then (⟨1, 0, (qT k.2).1, [], noCr⟩, (qT k.2).2)
  else if k.1 = 2 then (⟨2, (qN k.2).1, [], [], noCr⟩, (qN k.2).2)
  else if k.1 = 5 then (⟨5, 0, [], (qP (qC k.2).1 (qC k.2).2).1, noCr⟩, (qP (qC k.2).1 (qC k.2).2).2)
  else if k.1 = 6 then (⟨6, (qN k.2).1, [], [], (qCrash (qN k.2).2).1⟩, (qCrash (qN k.2).2).2)
  else if k.1 = 7 then (⟨7, 0, [], [], (qCrash k.2).1⟩, (qCrash k.2).2)
  else (⟨k.1, 0, [], [], noCr⟩, k.2)
/-- One more of a row is read at its end. -/
theorem qKeep_snoc : ∀ (k : Nat) (q : Qs), qKeep (k + 1) q = ((qKeep k q).1 ++ [((qS (qKeep k q).2).1 : Int)], (qS (qKeep k q).2).2)
  | 0, q => rfl
  | k + 1, q => by
    have := qKeep_snoc k (qS q).2
    show (((qS q).1 : Int) :: (qKeep (k + 1) (qS q).2).1, (qKeep (k + 1) (qS q).2).2) = _
    rw [this]
    rfl
theorem qSpoil_snoc : ∀ (k : Nat) (q : Qs), qSpoil (k + 1) q = ((qSpoil k q).1 ++ [(qSpot (qSpoil k q).2).1], (qSpot (qSpoil k q).2).2)
  | 0, q => rfl
  | k + 1, q => by
    have := qSpoil_snoc k (qSpot q).2
    show ((qSpot q).1 :: (qSpoil (k + 1) (qSpot q).2).1, (qSpoil (k + 1) (qSpot q).2).2) = _
    rw [this]
    rfl
theorem qKeep_len : ∀ (k : Nat) (q : Qs), (qKeep k q).1.length = k
  | 0, q => rfl
  | k + 1, q => by show ((qKeep k (qS q).2).1.length + 1) = _; rw [qKeep_len k]
theorem qSpoil_len : ∀ (k : Nat) (q : Qs), (qSpoil k q).1.length = k
  | 0, q => rfl
  | k + 1, q => by show ((qSpoil k (qSpot q).2).1.length + 1) = _; rw [qSpoil_len k]

/-! ### Bad stays bad; no text grows -/
theorem qN_bad (s : List UInt8) : (qN (s, true)).2 = (s, true) := by simp [qN]
theorem qP_bad (n : Nat) (s : List UInt8) : qP n (s, true) = ([], (s, true)) := by simp [qP]
theorem qC_bad (s : List UInt8) : qC (s, true) = (0, (s, true)) := by simp [qC]
theorem qS_bad (s : List UInt8) : (qS (s, true)).2 = (s, true) := by simp [qS, qN_bad]
theorem qSpot_bad (s : List UInt8) : (qSpot (s, true)).2 = (s, true) := by simp [qSpot, qS_bad, qP_bad]
theorem qKeep_bad : ∀ (k : Nat) (s : List UInt8), (qKeep k (s, true)).2 = (s, true)
  | 0, s => rfl
  | k + 1, s => by show (qKeep k (qS (s, true)).2).2 = _; rw [qS_bad, qKeep_bad k]
theorem qSpoil_bad : ∀ (k : Nat) (s : List UInt8), (qSpoil k (s, true)).2 = (s, true)
  | 0, s => rfl
  | k + 1, s => by show (qSpoil k (qSpot (s, true)).2).2 = _; rw [qSpot_bad, qSpoil_bad k]
theorem qCrash_bad (s : List UInt8) : (qCrash (s, true)).2 = (s, true) := by
  unfold qCrash
  simp only [qS_bad, qC_bad]
  show (qSpoil (qC (qKeep 0 (s, true)).2).1 (qC (qKeep 0 (s, true)).2).2).2 = _
  rw [qKeep_bad, qC_bad, qSpoil_bad]
theorem qN_le (q : Qs) : (qN q).2.1.length ≤ q.1.length := by unfold qN; split <;> simp
theorem qP_le (n : Nat) (q : Qs) : (qP n q).2.1.length ≤ q.1.length := by unfold qP; split <;> simp
theorem qC_le (q : Qs) : (qC q).2.1.length ≤ q.1.length := by unfold qC; split <;> simp
theorem qS_le (q : Qs) : (qS q).2.1.length ≤ q.1.length := qN_le q
theorem qT_le (q : Qs) : (qT q).2.1.length ≤ q.1.length := by unfold qT; split <;> simp
theorem qSpot_le (q : Qs) : (qSpot q).2.1.length ≤ q.1.length := Nat.le_trans (qP_le _ _) (qS_le q)
theorem qKeep_le : ∀ (k : Nat) (q : Qs), (qKeep k q).2.1.length ≤ q.1.length
  | 0, q => Nat.le_refl _
  | k + 1, q => Nat.le_trans (qKeep_le k (qS q).2) (qS_le q)
theorem qSpoil_le : ∀ (k : Nat) (q : Qs), (qSpoil k q).2.1.length ≤ q.1.length
  | 0, q => Nat.le_refl _
  | k + 1, q => Nat.le_trans (qSpoil_le k (qSpot q).2) (qSpot_le q)
theorem qCrash_le (q : Qs) : (qCrash q).2.1.length ≤ q.1.length :=
  Nat.le_trans (qSpoil_le _ _) (Nat.le_trans (qC_le _) (Nat.le_trans (qKeep_le _ _) (Nat.le_trans (qC_le _) (qS_le q))))
theorem qAct_le (q : Qs) : (qAct q).2.1.length ≤ q.1.length := by
  have hk := qC_le q
  unfold qAct
  simp only
  split
  · exact hk
  split
  · exact Nat.le_trans (qT_le _) hk
  split
  · exact Nat.le_trans (qN_le _) hk
  split
  · exact Nat.le_trans (qP_le _ _) (Nat.le_trans (qC_le _) hk)
  split
  · exact Nat.le_trans (qCrash_le _) (Nat.le_trans (qN_le _) hk)
  split
  · exact Nat.le_trans (qCrash_le _) hk
  · exact hk

/-! ### Not bad: what the document reads -/
/-- What a reading with a flag says. -/
def said {α : Type} (r : α × Qs) : Option (α × List UInt8) := if r.2.2 = true then none else some (r.1, r.2.1)
theorem said_none {α : Type} {r : α × Qs} : said r = none ↔ r.2.2 = true := by
  unfold said
  split <;> simp [*]
theorem said_some {α : Type} {r : α × Qs} {x : α} {t : List UInt8} (h : said r = some (x, t)) : r = (x, (t, false)) := by
  unfold said at h
  split at h
  · cases h
  · next hb =>
    obtain ⟨a, s, b⟩ := r
    simp only [Option.some.injEq, Prod.mk.injEq] at h
    obtain ⟨rfl, rfl⟩ := h
    simp only [Bool.not_eq_true] at hb
    rw [hb]
theorem said_bad {α : Type} {r : α × Qs} {s : List UInt8} (h : r.2 = (s, true)) : said r = none := said_none.2 (by rw [h])
theorem rdN_said (s : List UInt8) : rdN s = said (qN (s, false)) := by
  unfold rdN said qN
  by_cases h : rOk s = true
  · simp [h]
  · simp [h]
theorem rdP_said (n : Nat) (s : List UInt8) : rdP n s = said (qP n (s, false)) := by
  unfold rdP said qP
  by_cases h : n ≤ s.length
  · simp [h]
  · simp [h]
theorem rdC_said (s : List UInt8) : rdC s = said (qC (s, false)) := by
  cases s with
  | nil => rfl
  | cons c s => simp [rdC, said, qC, at_]
theorem rdS_said (s : List UInt8) : rdS s = said (qS (s, false)) := by
  unfold rdS said qS qN
  by_cases h : rOk s = true
  · by_cases h2 : rNum s ≤ 2147483647
    · have h3 : ¬ 2147483647 < rNum s := by omega
      have h4 : rNum s % 2147483648 = rNum s := Nat.mod_eq_of_lt (by omega)
      simp [h, h2, h3, h4]
    · have h3 : 2147483647 < rNum s := by omega
      simp [h, h2, h3]
  · simp [h]
theorem rdT_said (s : List UInt8) : (if tOk s 65536 = true then some (tText s 65536, s.drop (tSize s 65536)) else none) = said (qT (s, false)) := by
  unfold said qT
  by_cases h : tOk s 65536 = true
  · simp [h]
  · simp [h]
theorem rdKeep_said : ∀ (k : Nat) (s : List UInt8), rdKeep k s = said (qKeep k (s, false))
  | 0, s => rfl
  | k + 1, s => by
    unfold rdKeep
    rw [rdS_said]
    cases h : said (qS (s, false)) with
    | none =>
      have hb := said_none.1 h
      refine (said_none.2 ?_).symm
      show (qKeep k (qS (s, false)).2).2.2 = true
      rw [show (qS (s, false)).2 = ((qS (s, false)).2.1, true) from Prod.ext rfl hb, qKeep_bad]
    | some p =>
      obtain ⟨n, t⟩ := p
      have hr := said_some h
      simp only
      rw [rdKeep_said k t]
      have e : qKeep (k + 1) (s, false) = (((n : Nat) : Int) :: (qKeep k (t, false)).1, (qKeep k (t, false)).2) := by
        show (((qS (s, false)).1 : Int) :: (qKeep k (qS (s, false)).2).1, (qKeep k (qS (s, false)).2).2) = _
        rw [hr]
      rw [e]
      unfold said
      by_cases hb : (qKeep k (t, false)).2.2 = true
      · simp [hb]
      · simp [hb]
theorem bigNum_four {l : List UInt8} (h : l.length = 4) : bigNum l 4 = val l := by
  unfold bigNum bigOk
  rw [if_pos (by simp [h]), show (4 : Int).toNat = 4 from rfl, List.take_of_length_le (by omega)]
theorem rdSpot_said (s : List UInt8) : rdSpot s = said (qSpot (s, false)) := by
  unfold rdSpot
  rw [rdS_said]
  cases h : said (qS (s, false)) with
  | none =>
    have hb := said_none.1 h
    refine (said_none.2 ?_).symm
    show (qP 4 (qS (s, false)).2).2.2 = true
    rw [show (qS (s, false)).2 = ((qS (s, false)).2.1, true) from Prod.ext rfl hb, qP_bad]
  | some p =>
    obtain ⟨n, t⟩ := p
    have hr := said_some h
    simp only
    have e : qSpot (s, false) = ((((n : Nat) : Int), bigNum (qP 4 (t, false)).1 4), (qP 4 (t, false)).2) := by
      unfold qSpot
      rw [hr]
    rw [e, rdP_said]
    cases h2 : said (qP 4 (t, false)) with
    | none =>
      have hb := said_none.1 h2
      refine (said_none.2 ?_).symm
      exact hb
    | some p =>
      obtain ⟨m, u⟩ := p
      have hp := said_some h2
      have hl : m.length = 4 := (rdP_is (by rw [rdP_said]; exact h2)).2
      rw [hp]
      simp only
      rw [bigNum_four hl]
      rfl
theorem rdSpoil_said : ∀ (k : Nat) (s : List UInt8), rdSpoil k s = said (qSpoil k (s, false))
  | 0, s => rfl
  | k + 1, s => by
    unfold rdSpoil
    rw [rdSpot_said]
    cases h : said (qSpot (s, false)) with
    | none =>
      have hb := said_none.1 h
      refine (said_none.2 ?_).symm
      show (qSpoil k (qSpot (s, false)).2).2.2 = true
      rw [show (qSpot (s, false)).2 = ((qSpot (s, false)).2.1, true) from Prod.ext rfl hb, qSpoil_bad]
    | some p =>
      obtain ⟨x, t⟩ := p
      have hr := said_some h
      simp only
      rw [rdSpoil_said k t]
      have e : qSpoil (k + 1) (s, false) = (x :: (qSpoil k (t, false)).1, (qSpoil k (t, false)).2) := by
        show ((qSpot (s, false)).1 :: (qSpoil k (qSpot (s, false)).2).1, (qSpoil k (qSpot (s, false)).2).2) = _
        rw [hr]
      rw [e]
      unfold said
      by_cases hb : (qSpoil k (t, false)).2.2 = true
      · simp [hb]
      · simp [hb]
theorem rdCrash_said (s : List UInt8) : rdCrash s = said (qCrash (s, false)) := by
  unfold rdCrash
  rw [rdS_said]
  cases h1 : said (qS (s, false)) with
  | none =>
    have hb := said_none.1 h1
    refine (said_none.2 ?_).symm
    unfold qCrash
    simp only
    rw [show (qS (s, false)).2 = ((qS (s, false)).2.1, true) from Prod.ext rfl hb, qC_bad]
    simp only
    rw [qKeep_bad, qC_bad, qSpoil_bad]
  | some p =>
    obtain ⟨n, s1⟩ := p
    have e1 := said_some h1
    simp only
    rw [rdC_said]
    cases h2 : said (qC (s1, false)) with
    | none =>
      have hb := said_none.1 h2
      refine (said_none.2 ?_).symm
      unfold qCrash
      simp only
      rw [e1]
      simp only
      rw [show (qC (s1, false)).2 = ((qC (s1, false)).2.1, true) from Prod.ext rfl hb, qKeep_bad, qC_bad, qSpoil_bad]
    | some p =>
      obtain ⟨k, s2⟩ := p
      have e2 := said_some h2
      simp only
      rw [rdKeep_said]
      cases h3 : said (qKeep k (s2, false)) with
      | none =>
        have hb := said_none.1 h3
        refine (said_none.2 ?_).symm
        unfold qCrash
        simp only
        rw [e1]
        simp only
        rw [e2]
        simp only
        rw [show (qKeep k (s2, false)).2 = ((qKeep k (s2, false)).2.1, true) from Prod.ext rfl hb, qC_bad, qSpoil_bad]
      | some p =>
        obtain ⟨l, s3⟩ := p
        have e3 := said_some h3
        simp only
        rw [rdC_said]
        cases h4 : said (qC (s3, false)) with
        | none =>
          have hb := said_none.1 h4
          refine (said_none.2 ?_).symm
          unfold qCrash
          simp only
          rw [e1]
          simp only
          rw [e2]
          simp only
          rw [e3]
          simp only
          rw [show (qC (s3, false)).2 = ((qC (s3, false)).2.1, true) from Prod.ext rfl hb, qSpoil_bad]
        | some p =>
          obtain ⟨c, s4⟩ := p
          have e4 := said_some h4
          simp only
          rw [rdSpoil_said]
          have e : qCrash (s, false) = (⟨(n : Int), l, (qSpoil c (s4, false)).1⟩, (qSpoil c (s4, false)).2) := by
            unfold qCrash
            simp only
            rw [e1]
            simp only
            rw [e2]
            simp only
            rw [e3]
            simp only
            rw [e4]
          rw [e]
          unfold said
          by_cases hb : (qSpoil c (s4, false)).2.2 = true
          · simp [hb]
          · simp [hb]
theorem rdAct_said (s : List UInt8) : rdAct s = said (qAct (s, false)) := by
  unfold rdAct
  rw [rdC_said]
  cases h1 : said (qC (s, false)) with
  | none =>
    have hb := said_none.1 h1
    refine (said_none.2 ?_).symm
    unfold qAct
    simp only
    rw [if_pos (.inl hb)]
  | some p =>
    obtain ⟨k, t⟩ := p
    have e1 := said_some h1
    have hq : qAct (s, false) = (if ¬ (1 ≤ k ∧ k ≤ 7) then (noAc, (t, true))
      else if k = 1 then (⟨1, 0, (qT (t, false)).1, [], noCr⟩, (qT (t, false)).2)
      else if k = 2 then (⟨2, (qN (t, false)).1, [], [], noCr⟩, (qN (t, false)).2)
      else if k = 5 then (⟨5, 0, [], (qP (qC (t, false)).1 (qC (t, false)).2).1, noCr⟩, (qP (qC (t, false)).1 (qC (t, false)).2).2)
      else if k = 6 then (⟨6, (qN (t, false)).1, [], [], (qCrash (qN (t, false)).2).1⟩, (qCrash (qN (t, false)).2).2)
      else if k = 7 then (⟨7, 0, [], [], (qCrash (t, false)).1⟩, (qCrash (t, false)).2)
      else (⟨k, 0, [], [], noCr⟩, (t, false)) : Ac × Qs) := by
      unfold qAct
      simp only
      rw [e1]
      simp only [Bool.false_eq_true, false_or]
    rw [hq]
    simp only
    by_cases k1 : k = 1
    · subst k1
      have hT := rdT_said t
      simp only [if_true, if_neg (show ¬ ¬ (1 ≤ 1 ∧ 1 ≤ 7) by omega)]
      unfold said at hT ⊢
      simp only
      by_cases ho : tOk t 65536 = true
      · simp only [qT, ho, if_true, and_self, Bool.false_eq_true, if_false]
      · simp [qT, ho]
    rw [if_neg k1]
    by_cases k2 : k = 2
    · subst k2
      simp only [if_true, if_neg (show ¬ ¬ (1 ≤ 2 ∧ 2 ≤ 7) by omega), if_neg (show ¬ (2 = 1) by omega)]
      rw [rdN_said]
      unfold said
      by_cases hb : (qN (t, false)).2.2 = true
      · simp [hb]
      · simp [hb]
    rw [if_neg k2]
    by_cases k34 : k = 3 ∨ k = 4
    · rw [if_pos k34, if_neg (by omega), if_neg k1, if_neg k2, if_neg (by omega), if_neg (by omega), if_neg (by omega)]
      rfl
    rw [if_neg k34]
    by_cases k5 : k = 5
    · subst k5
      simp only [if_true, if_neg (show ¬ ¬ (1 ≤ 5 ∧ 5 ≤ 7) by omega), if_neg (show ¬ (5 = 1) by omega), if_neg (show ¬ (5 = 2) by omega)]
      rw [rdC_said]
      cases h2 : said (qC (t, false)) with
      | none =>
        have hb := said_none.1 h2
        refine (said_none.2 ?_).symm
        simp only
        rw [show (qC (t, false)).2 = ((qC (t, false)).2.1, true) from Prod.ext rfl hb, qP_bad]
      | some p =>
        obtain ⟨n, u⟩ := p
        rw [said_some h2]
        simp only
        rw [rdP_said]
        unfold said
        by_cases hb : (qP n (u, false)).2.2 = true
        · simp [hb]
        · simp [hb]
    rw [if_neg k5]
    by_cases k6 : k = 6
    · subst k6
      simp only [if_true, if_neg (show ¬ ¬ (1 ≤ 6 ∧ 6 ≤ 7) by omega), if_neg (show ¬ (6 = 1) by omega), if_neg (show ¬ (6 = 2) by omega), if_neg (show ¬ (6 = 5) by omega)]
      rw [rdN_said]
      cases h2 : said (qN (t, false)) with
      | none =>
        have hb := said_none.1 h2
        refine (said_none.2 ?_).symm
        simp only
        rw [show (qN (t, false)).2 = ((qN (t, false)).2.1, true) from Prod.ext rfl hb, qCrash_bad]
      | some p =>
        obtain ⟨n, u⟩ := p
        rw [said_some h2]
        simp only
        rw [rdCrash_said]
        unfold said
        by_cases hb : (qCrash (u, false)).2.2 = true
        · simp [hb]
        · simp [hb]
    rw [if_neg k6]
    by_cases k7 : k = 7
    · subst k7
      simp only [if_true, if_neg (show ¬ ¬ (1 ≤ 7 ∧ 7 ≤ 7) by omega), if_neg (show ¬ (7 = 1) by omega), if_neg (show ¬ (7 = 2) by omega), if_neg (show ¬ (7 = 5) by omega), if_neg (show ¬ (7 = 6) by omega)]
      rw [rdCrash_said]
      unfold said
      by_cases hb : (qCrash (t, false)).2.2 = true
      · simp [hb]
      · simp [hb]
    rw [if_neg k7, if_pos (by omega)]
    rfl
end Go.Proofs.YtnflbgindcejjaaDoor.P
