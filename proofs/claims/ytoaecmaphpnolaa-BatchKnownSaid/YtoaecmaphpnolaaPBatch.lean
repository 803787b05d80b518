/- Plain law: batches: which may be, their bytes, and what is read of bytes. No program here. -/
import Derived.Test.YtoaecmaphpnolaaPText
namespace Go.Proofs.Ytoaecmaphpnolaa.P

structure Op where
  key : List UInt8
  val : List UInt8
  gone : Bool
deriving DecidableEq
/-- An operation's bytes. -/
def opRow (o : Op) : List UInt8 := if o.gone then 1 :: texts [o.key] else 0 :: texts [o.key, o.val]
def opRows (l : List Op) : List UInt8 := (l.map opRow).flatten
theorem opRows_cons (o : Op) (l : List Op) : opRows (o :: l) = opRow o ++ opRows l := by simp [opRows]
theorem opRows_snoc (o : Op) (l : List Op) : opRows (l ++ [o]) = opRows l ++ opRow o := by simp [opRows]
/-- A batch's bytes. -/
def enc (seq : Nat) (l : List Op) : List UInt8 := vars [seq, l.length] ++ opRows l
def opLong (o : Op) : Bool := decide (64 < o.key.length) || decide (512 < o.val.length)
def opBad (o : Op) : Bool := decide (o.key.length = 0) || (o.gone && decide (0 < o.val.length))
/-- May a batch be? The error's number. -/
def chk (seq : Nat) (l : List Op) : Nat :=
  if decide (16 < l.length) || l.any opLong then 3
  else if decide (l.length = 0) || decide (seq = 0) || decide (9223372036854775808 < seq) || decide (9223372036854775808 < seq + l.length - 1) || l.any opBad then 1
  else 0
theorem chk_ok {seq : Nat} {l : List Op} (h : chk seq l = 0) : 1 ≤ l.length ∧ l.length ≤ 16 ∧ 1 ≤ seq ∧ seq + l.length ≤ 9223372036854775809 ∧ ∀ o ∈ l, 1 ≤ o.key.length ∧ o.key.length ≤ 64 ∧ o.val.length ≤ 512 ∧ (o.gone = true → o.val = []) := by
  unfold chk at h
  split at h
  · cases h
  · next h1 =>
    split at h
    · cases h
    · next h2 =>
      simp only [Bool.or_eq_true, decide_eq_true_eq, List.any_eq_true, not_or, not_exists] at h1 h2
      refine ⟨by omega, by omega, by omega, by omega, fun o ho => ?_⟩
      have a := h1.2 o
      have b := h2.2 o
      simp only [ho, true_and, opLong, opBad, Bool.or_eq_true, Bool.and_eq_true, decide_eq_true_eq] at a b
      refine ⟨by omega, by omega, by omega, fun hg => ?_⟩
      have : ¬ 0 < o.val.length := fun hv => b (.inr ⟨hg, hv⟩)
      exact List.length_eq_zero_iff.1 (by omega)
theorem texts_one (s : List UInt8) : texts [s] = row s.length ++ s := by simp [texts]
theorem texts_two (s t : List UInt8) : texts [s, t] = row s.length ++ (s ++ (row t.length ++ t)) := by simp [texts]

/-- The operation that a text begins with, and how many bytes it has. -/
def readOp (s : List UInt8) : Option (Op × Nat) :=
  if s.length = 0 then none
  else if tOk (s.drop 1) 64 = true ∧ (at_ s 0 = 0 ∨ at_ s 0 = 1) then
    if at_ s 0 = 1 then some (⟨tText (s.drop 1) 64, [], true⟩, 1 + tSize (s.drop 1) 64)
    else if tOk (s.drop (1 + tSize (s.drop 1) 64)) 512 = true then
      some (⟨tText (s.drop 1) 64, tText (s.drop (1 + tSize (s.drop 1) 64)) 512, false⟩, 1 + tSize (s.drop 1) 64 + tSize (s.drop (1 + tSize (s.drop 1) 64)) 512)
    else none
  else none
/-- What is read of a text is a row's beginning. -/
theorem tOk_row {s : List UInt8} {k : Int} (h : tOk s k = true) : (tText s k).length ≤ k ∧ tSize s k ≤ s.length ∧ row (tText s k).length ++ tText s k = s.take (tSize s k) := by
  have h0 := h
  unfold tOk at h
  simp only [Bool.and_eq_true, decide_eq_true_eq] at h
  obtain ⟨hr, h1, h2, h3⟩ := h
  obtain ⟨r1, r2, r3, r4⟩ := row_read s hr
  have e1 : tText s k = (s.drop (rSize s)).take (rNum s) := by unfold tText; rw [h0, if_pos rfl]
  have e2 : tSize s k = rSize s + rNum s := by unfold tSize; rw [h0, if_pos rfl]
  have e3 : (tText s k).length = rNum s := by rw [e1, List.length_take, List.length_drop]; omega
  rw [e3, e2]
  refine ⟨by omega, by omega, ?_⟩
  rw [e1, r3, List.take_add]
theorem readOp_some {s : List UInt8} {o : Op} {n : Nat} (h : readOp s = some (o, n)) : 1 ≤ n ∧ n ≤ s.length ∧ opRow o = s.take n := by
  unfold readOp at h
  split at h
  · cases h
  · next h0 =>
    split at h
    · next h1 =>
      obtain ⟨t1, t2, t3⟩ := tOk_row h1.1
      rw [List.length_drop] at t2
      have hc : ∀ (c : UInt8), at_ s 0 = c.toNat → ∀ m, s.take (1 + m) = c :: (s.drop 1).take m := by
        intro c hc m
        rw [Nat.add_comm 1 m, take_head s m (by omega), hc, byt_eq]
      split at h
      · next h2 =>
        simp only [Option.some.injEq, Prod.mk.injEq] at h
        obtain ⟨rfl, rfl⟩ := h
        refine ⟨by omega, by omega, ?_⟩
        show 1 :: texts [tText (s.drop 1) 64] = _
        rw [texts_one, t3, hc 1 h2]
      · next h2 =>
        split at h
        · next h3 =>
          obtain ⟨u1, u2, u3⟩ := tOk_row h3
          rw [List.length_drop] at u2
          simp only [Option.some.injEq, Prod.mk.injEq] at h
          obtain ⟨rfl, rfl⟩ := h
          refine ⟨by omega, by omega, ?_⟩
          show 0 :: texts [tText (s.drop 1) 64, tText (s.drop (1 + tSize (s.drop 1) 64)) 512] = _
          rw [texts_two, ← List.append_assoc, t3, u3, Nat.add_assoc, hc 0 (by have := h1.2; show at_ s 0 = 0; omega), List.take_add, List.drop_drop]
        · cases h
    · cases h
theorem opRow_read (o : Op) (hk : o.key.length ≤ 64) (hv : o.val.length ≤ 512) (hg : o.gone = true → o.val = []) (x : List UInt8) : readOp (opRow o ++ x) = some (o, (opRow o).length) := by
  obtain ⟨k, v, g⟩ := o
  simp only at hk hv hg
  have tr : ∀ (s x : List UInt8) (m : Int), s.length ≤ 512 → (s.length : Int) ≤ m → tOk (row s.length ++ (s ++ x)) m = true ∧ tText (row s.length ++ (s ++ x)) m = s ∧ tSize (row s.length ++ (s ++ x)) m = (row s.length).length + s.length := by
    intro s x m hs hm
    obtain ⟨h1, h2, h3⟩ := read_row s.length (by omega) (s ++ x)
    have hok : tOk (row s.length ++ (s ++ x)) m = true := by
      unfold tOk
      rw [h1, h2, h3, Bool.true_and]
      exact decide_eq_true ⟨by omega, hm, by simp only [List.length_append]; omega⟩
    refine ⟨hok, ?_, ?_⟩
    · unfold tText
      rw [hok, if_pos rfl, h2, h3, List.drop_left, List.take_left]
    · unfold tSize
      rw [hok, if_pos rfl, h2, h3]
  cases g with
  | true =>
    obtain rfl := hg rfl
    have e : opRow ⟨k, [], true⟩ ++ x = 1 :: (row k.length ++ (k ++ x)) := by
      show 1 :: texts [k] ++ x = _
      rw [texts_one]; simp
    have hl : (opRow ⟨k, [], true⟩).length = 1 + ((row k.length).length + k.length) := by
      show (1 :: texts [k]).length = _
      rw [texts_one]; simp; omega
    obtain ⟨a1, a2, a3⟩ := tr k x 64 (by omega) (by omega)
    rw [e, hl]
    unfold readOp
    rw [if_neg (by simp)]
    simp only [List.drop_succ_cons, List.drop_zero]
    rw [if_pos ⟨a1, .inr rfl⟩, if_pos (show at_ (1 :: (row k.length ++ (k ++ x))) 0 = 1 from rfl), a2, a3]
  | false =>
    have e : opRow ⟨k, v, false⟩ ++ x = 0 :: (row k.length ++ (k ++ (row v.length ++ (v ++ x)))) := by
      show 0 :: texts [k, v] ++ x = _
      rw [texts_two]; simp
    have hl : (opRow ⟨k, v, false⟩).length = 1 + ((row k.length).length + k.length) + ((row v.length).length + v.length) := by
      show (0 :: texts [k, v]).length = _
      rw [texts_two]; simp; omega
    obtain ⟨a1, a2, a3⟩ := tr k (row v.length ++ (v ++ x)) 64 (by omega) (by omega)
    obtain ⟨b1, b2, b3⟩ := tr v x 512 (by omega) (by omega)
    rw [e, hl]
    unfold readOp
    rw [if_neg (by simp)]
    have hd : ((0 : UInt8) :: (row k.length ++ (k ++ (row v.length ++ (v ++ x))))).drop (1 + ((row k.length).length + k.length)) = row v.length ++ (v ++ x) := by
      rw [show 1 + ((row k.length).length + k.length) = (row k.length ++ k).length + 1 from (by rw [List.length_append]; omega), List.drop_succ_cons, ← List.append_assoc, List.drop_left]
    simp only [List.drop_succ_cons, List.drop_zero]
    rw [if_pos ⟨a1, .inl rfl⟩, if_neg (by show ¬ (0 : Nat) = 1; omega), a2, a3, hd, if_pos b1, b2, b3]

/-- So many operations that a text begins with, and how many bytes they have. -/
def readOps : Nat → List UInt8 → Option (List Op × Nat)
  | 0, _ => some ([], 0)
  | n + 1, s => match readOp s with
    | none => none
    | some (o, k) => match readOps n (s.drop k) with
      | none => none
      | some (l, m) => some (o :: l, k + m)
theorem readOps_some : ∀ (n : Nat) (s : List UInt8) (l : List Op) (m : Nat), readOps n s = some (l, m) → l.length = n ∧ m ≤ s.length ∧ opRows l = s.take m
  | 0, s, l, m, h => by
    simp only [readOps, Option.some.injEq, Prod.mk.injEq] at h
    obtain ⟨rfl, rfl⟩ := h
    simp [opRows]
  | n + 1, s, l, m, h => by
    unfold readOps at h
    cases ho : readOp s with
    | none => rw [ho] at h; cases h
    | some q =>
      obtain ⟨o, k⟩ := q
      rw [ho] at h
      simp only at h
      cases hr : readOps n (s.drop k) with
      | none => rw [hr] at h; cases h
      | some q =>
        obtain ⟨l', m'⟩ := q
        rw [hr] at h
        simp only [Option.some.injEq, Prod.mk.injEq] at h
        obtain ⟨rfl, rfl⟩ := h
        obtain ⟨h1, h2, h3⟩ := readOp_some ho
        obtain ⟨i1, i2, i3⟩ := readOps_some n _ l' m' hr
        rw [List.length_drop] at i2
        refine ⟨by simp [i1], by omega, ?_⟩
        rw [opRows_cons, h3, i3, List.take_add]
theorem readOps_rows : ∀ (l : List Op) (x : List UInt8), (∀ o ∈ l, o.key.length ≤ 64 ∧ o.val.length ≤ 512 ∧ (o.gone = true → o.val = [])) → readOps l.length (opRows l ++ x) = some (l, (opRows l).length)
  | [], x, h => by simp [readOps, opRows]
  | o :: l, x, h => by
    obtain ⟨h1, h2, h3⟩ := h o (List.mem_cons_self ..)
    have ih := readOps_rows l x (fun q hq => h q (List.mem_cons_of_mem _ hq))
    rw [opRows_cons, List.append_assoc]
    rw [List.length_cons]
    simp only [readOps, opRow_read o h1 h2 h3, List.drop_left, ih]
    simp

/-! ### What is read of any bytes -/
/-- The batch of some bytes. -/
def dec (s : List UInt8) : Option (Nat × List Op) :=
  if rOk s = true ∧ rOk (s.drop (rSize s)) = true ∧ rNum (s.drop (rSize s)) ≤ 16 then
    match readOps (rNum (s.drop (rSize s))) (s.drop (rSize s + rSize (s.drop (rSize s)))) with
    | none => none
    | some (l, m) => if rSize s + rSize (s.drop (rSize s)) + m = s.length ∧ chk (rNum s) l = 0 then some (rNum s, l) else none
  else none
theorem enc_is (seq : Nat) (l : List Op) : enc seq l = row seq ++ (row l.length ++ opRows l) := by simp [enc, vars]
theorem dec_some {s : List UInt8} {seq : Nat} {l : List Op} (h : dec s = some (seq, l)) : chk seq l = 0 ∧ enc seq l = s := by
  unfold dec at h
  split at h
  · next h0 =>
    obtain ⟨h1, h2, h3⟩ := h0
    cases hr : readOps (rNum (s.drop (rSize s))) (s.drop (rSize s + rSize (s.drop (rSize s)))) with
    | none => rw [hr] at h; cases h
    | some q =>
      obtain ⟨l', m⟩ := q
      rw [hr] at h
      simp only at h
      split at h
      · next h4 =>
        simp only [Option.some.injEq, Prod.mk.injEq] at h
        obtain ⟨rfl, rfl⟩ := h
        refine ⟨h4.2, ?_⟩
        obtain ⟨i1, i2, i3⟩ := readOps_some _ _ _ _ hr
        obtain ⟨a1, a2, a3, _⟩ := row_read s h1
        obtain ⟨b1, b2, b3, _⟩ := row_read _ h2
        rw [List.length_drop] at b2 i2
        rw [enc_is, i1, a3, b3, i3, ← List.append_assoc, ← List.take_add, ← List.take_add, h4.1, List.take_length]
      · cases h
  · cases h
theorem dec_enc (seq : Nat) (l : List Op) (h : chk seq l = 0) : dec (enc seq l) = some (seq, l) := by
  obtain ⟨h1, h2, h3, h4, h5⟩ := chk_ok h
  obtain ⟨a1, a2, a3⟩ := read_row seq (by omega) (row l.length ++ opRows l)
  obtain ⟨b1, b2, b3⟩ := read_row l.length (by omega) (opRows l)
  have hr := readOps_rows l [] (fun o ho => ⟨(h5 o ho).2.1, (h5 o ho).2.2.1, (h5 o ho).2.2.2⟩)
  rw [List.append_nil] at hr
  rw [← enc_is] at a1 a2 a3
  have d1 : (enc seq l).drop (row seq).length = row l.length ++ opRows l := by rw [enc_is, List.drop_left]
  have d2 : (enc seq l).drop ((row seq).length + (row l.length).length) = opRows l := by rw [← List.drop_drop, d1, List.drop_left]
  unfold dec
  rw [a3, d1, b1, b2, b3, d2, hr, a2, if_pos ⟨a1, rfl, h2⟩]
  simp only
  rw [if_pos ⟨by rw [enc_is]; simp; omega, h⟩]
end Go.Proofs.Ytoaecmaphpnolaa.P
