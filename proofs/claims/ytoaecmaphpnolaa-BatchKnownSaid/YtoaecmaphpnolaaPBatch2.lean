/- Plain law: batches as the document reads them: any mark but 1 is a put, held against what is written. -/
import Derived.Test.YtoaecmaphpnolaaPBatch
namespace Go.Proofs.Ytoaecmaphpnolaa.P

/-- The operation that a text begins with, whatever its mark is. -/
def readOpL (s : List UInt8) : Option (Op × Nat) :=
  if s.length = 0 then none
  else if tOk (s.drop 1) 64 = true then
    if at_ s 0 = 1 then some (⟨tText (s.drop 1) 64, [], true⟩, 1 + tSize (s.drop 1) 64)
    else if tOk (s.drop (1 + tSize (s.drop 1) 64)) 512 = true then
      some (⟨tText (s.drop 1) 64, tText (s.drop (1 + tSize (s.drop 1) 64)) 512, false⟩, 1 + tSize (s.drop 1) 64 + tSize (s.drop (1 + tSize (s.drop 1) 64)) 512)
    else none
  else none
theorem readOpL_of {s : List UInt8} {q : Op × Nat} (h : readOp s = some q) : readOpL s = some q := by
  unfold readOp at h
  unfold readOpL
  split at h
  · cases h
  · next h0 =>
    rw [if_neg h0]
    split at h
    · next h1 =>
      rw [if_pos h1.1]
      exact h
    · cases h
theorem readOpL_size {s : List UInt8} {o : Op} {n : Nat} (h : readOpL s = some (o, n)) : 1 ≤ n ∧ n ≤ s.length := by
  unfold readOpL at h
  split at h
  · cases h
  · next h0 =>
    split at h
    · next h1 =>
      have t2 := (tOk_row h1).2.1
      rw [List.length_drop] at t2
      split at h
      · simp only [Option.some.injEq, Prod.mk.injEq] at h
        obtain ⟨rfl, rfl⟩ := h
        exact ⟨by omega, by omega⟩
      · split at h
        · next h3 =>
          have u2 := (tOk_row h3).2.1
          rw [List.length_drop] at u2
          simp only [Option.some.injEq, Prod.mk.injEq] at h
          obtain ⟨rfl, rfl⟩ := h
          exact ⟨by omega, by omega⟩
        · cases h
    · cases h
/-- So many of them: what was read, and the place behind. -/
def readOpsL : Nat → List UInt8 → Nat → List Op → Option (List Op × Nat)
  | 0, _, m, l => some (l, m)
  | n + 1, s, m, l => match readOpL (s.drop m) with
    | none => none
    | some (o, k) => readOpsL n s (m + k) (l ++ [o])
theorem readOpsL_of : ∀ (n : Nat) (s : List UInt8) (m : Nat) (l : List Op) (r : List Op) (k : Nat), readOps n (s.drop m) = some (r, k) → readOpsL n s m l = some (l ++ r, m + k)
  | 0, s, m, l, r, k, h => by
    simp only [readOps, Option.some.injEq, Prod.mk.injEq] at h
    obtain ⟨rfl, rfl⟩ := h
    simp [readOpsL]
  | n + 1, s, m, l, r, k, h => by
    unfold readOps at h
    cases ho : readOp (s.drop m) with
    | none => rw [ho] at h; cases h
    | some q =>
      obtain ⟨o, j⟩ := q
      rw [ho] at h
      simp only at h
      cases hr : readOps n ((s.drop m).drop j) with
      | none => rw [hr] at h; cases h
      | some q =>
        obtain ⟨l', m'⟩ := q
        rw [hr] at h
        simp only [Option.some.injEq, Prod.mk.injEq] at h
        obtain ⟨rfl, rfl⟩ := h
        rw [List.drop_drop] at hr
        have ih := readOpsL_of n s (m + j) (l ++ [o]) l' m' hr
        unfold readOpsL
        rw [readOpL_of ho]
        simp only [ih]
        simp [Nat.add_assoc]
/-- What the document reads. -/
def decL (s : List UInt8) : Option (Nat × List Op) :=
  if rOk s = true ∧ rOk (s.drop (rSize s)) = true ∧ rNum (s.drop (rSize s)) ≤ 16 then
    match readOpsL (rNum (s.drop (rSize s))) s (rSize s + rSize (s.drop (rSize s))) [] with
    | none => none
    | some (l, _) => if chk (rNum s) l = 0 ∧ enc (rNum s) l = s then some (rNum s, l) else none
  else none
theorem decL_eq (s : List UInt8) : decL s = dec s := by
  cases hd : dec s with
  | none =>
    unfold decL
    split
    · split
      · rfl
      · split
        · next h =>
          have := dec_enc _ _ h.1
          rw [h.2, hd] at this
          cases this
        · rfl
    · rfl
  | some q =>
    obtain ⟨seq, l⟩ := q
    have hs := dec_some hd
    unfold dec at hd
    unfold decL
    split at hd
    · next h0 =>
      rw [if_pos h0]
      cases hr : readOps (rNum (s.drop (rSize s))) (s.drop (rSize s + rSize (s.drop (rSize s)))) with
      | none => rw [hr] at hd; cases hd
      | some q =>
        obtain ⟨l', m⟩ := q
        rw [hr] at hd
        simp only at hd
        rw [readOpsL_of _ s _ [] _ _ hr]
        simp only
        split at hd
        · next h4 =>
          simp only [Option.some.injEq, Prod.mk.injEq] at hd
          obtain ⟨rfl, rfl⟩ := hd
          rw [List.nil_append, if_pos ⟨h4.2, hs.2⟩]
        · cases hd
    · cases hd
end Go.Proofs.Ytoaecmaphpnolaa.P
