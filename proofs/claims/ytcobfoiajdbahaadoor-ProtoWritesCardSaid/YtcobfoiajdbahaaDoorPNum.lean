/- Plain law: numbers as bytes, rows, reading. No program here. -/
import Derived.Lib.BitFns
import Derived.Test.YtcobfoiajdbahaaDoorPByt
namespace Go.Proofs.YtcobfoiajdbahaaDoor.P

/-- The last k bytes of a number, the greatest first. -/
def be : Nat → Nat → List UInt8
  | 0, _ => []
  | k + 1, n => be k (n / 256) ++ [byt n]
theorem be_length : ∀ (k n : Nat), (be k n).length = k
  | 0, _ => rfl
  | k + 1, n => by simp [be, be_length k]
theorem be_at : ∀ (k n j : Nat) (h : j < (be k n).length), (be k n)[j] = byt (n / 256 ^ (k - 1 - j))
  | 0, _, j, h => by simp [be] at h
  | k + 1, n, j, h => by
    have hl := be_length k (n / 256)
    have hj : j < k + 1 := by rw [be_length] at h; exact h
    by_cases hk : j < k
    · have : (be (k + 1) n)[j] = (be k (n / 256))[j]'(by omega) := by
        simp only [be]
        rw [List.getElem_append_left]
      rw [this, be_at k (n / 256) j (by omega), Nat.div_div_eq_div_mul, ← Nat.pow_succ', show (k - 1 - j).succ = k + 1 - 1 - j by omega]
    · obtain rfl : j = k := by omega
      have : (be (j + 1) n)[j] = byt n := by
        simp only [be]
        rw [List.getElem_append_right (by omega)]
        simp
      rw [this]
      simp
theorem be_take (k n j : Nat) (h : j < k) : (be k n).take (j + 1) = (be k n).take j ++ [byt (n / 256 ^ (k - 1 - j))] := by
  rw [List.take_succ_eq_append_getElem (by rw [be_length]; exact h), be_at]

/-- The number that bytes are. -/
def val (l : List UInt8) : Nat := l.foldl (fun a c => 256 * a + c.toNat) 0
theorem val_snoc (l : List UInt8) (c : UInt8) : val (l ++ [c]) = 256 * val l + c.toNat := by simp [val]
theorem snocInd {p : List UInt8 → Prop} (h0 : p []) (h1 : ∀ l c, p l → p (l ++ [c])) (l : List UInt8) : p l := by
  have h : ∀ r : List UInt8, p r.reverse := by
    intro r
    induction r with
    | nil => exact h0
    | cons c r ih => rw [List.reverse_cons]; exact h1 _ _ ih
  have := h l.reverse
  rwa [List.reverse_reverse] at this
theorem val_lt (l : List UInt8) : val l < 256 ^ l.length := by
  induction l using snocInd with
  | h0 => simp [val]
  | h1 l c ih =>
    rw [val_snoc, List.length_append, List.length_singleton, Nat.pow_succ]
    have := c.toNat_lt
    omega
theorem be_val (l : List UInt8) : be l.length (val l) = l := by
  induction l using snocInd with
  | h0 => rfl
  | h1 l c ih =>
    have hc := c.toNat_lt
    rw [val_snoc, List.length_append, List.length_singleton]
    simp only [be]
    rw [show (256 * val l + c.toNat) / 256 = val l by omega, ih]
    congr 2
    apply toNat_inj
    rw [byt_toNat]
    omega
theorem val_be : ∀ (k n : Nat), val (be k n) = n % 256 ^ k
  | 0, n => by simp [be, val, Nat.mod_one]
  | k + 1, n => by
    simp only [be]
    rw [val_snoc, val_be k (n / 256), byt_toNat, Nat.pow_succ, Nat.mul_comm (256 ^ k) 256, Nat.mod_mul]
    omega

/-- The digits that a number needs. -/
def digs : Nat → Nat → Nat
  | 0, _ => 0
  | f + 1, n => if n = 0 then 0 else digs f (n / 256) + 1
/-- The bytes that a number (of at most 64 bits) needs. -/
def dig (n : Nat) : Nat := digs 8 n
theorem digs_le : ∀ (f n : Nat), digs f n ≤ f
  | 0, _ => Nat.le_refl _
  | f + 1, n => by
    simp only [digs]
    split
    · omega
    · have := digs_le f (n / 256); omega
theorem dig_le (n : Nat) : dig n ≤ 8 := digs_le 8 n
theorem digs_iff : ∀ (f n k : Nat), n < 256 ^ f → (digs f n ≤ k ↔ n < 256 ^ k)
  | 0, n, k, h => by
    have : n = 0 := by simpa using h
    subst this
    simp [digs, Nat.pow_pos]
  | f + 1, n, k, h => by
    simp only [digs]
    split
    · next h0 => subst h0; simp [Nat.pow_pos]
    · next h0 =>
      rcases k with _ | k
      · simp; omega
      · have h1 : n / 256 < 256 ^ f := by rw [Nat.pow_succ] at h; omega
        have := digs_iff f (n / 256) k h1
        rw [Nat.add_le_add_iff_right, this, Nat.pow_succ]
        omega
theorem dig_iff (n k : Nat) (h : n < 18446744073709551616) : dig n ≤ k ↔ n < 256 ^ k := digs_iff 8 n k (by omega)
theorem digs_step (f n : Nat) : digs (f + 1) n = if n = 0 then 0 else digs f (n / 256) + 1 := rfl
theorem digs_len : ∀ (f n : Nat), n < 256 ^ f → f ≤ 8 → (Lib.bitLen n + 7) / 8 = digs f n
  | 0, n, h, _ => by
    have : n = 0 := by simpa using h
    subst this
    decide
  | f + 1, n, h, hf => by
    have h1 : n / 256 < 256 ^ f := by rw [Nat.pow_succ] at h; omega
    have h64 : n < 18446744073709551616 := Nat.lt_of_lt_of_le h (Nat.le_trans (Nat.pow_le_pow_right (by omega) hf) (by decide))
    rw [digs_step]
    split
    · next h0 => subst h0; decide
    · next h0 =>
      by_cases hs : n < 256
      · have h8 := Lib.bitLen_le n 8 (by omega) (by omega)
        have hp := Lib.bitLen_half n h0 (by omega)
        rw [show n / 256 = 0 by omega]
        have : digs f 0 = 0 := by cases f <;> simp [digs]
        rw [this]
        omega
      · rw [Lib.bitLen_shift8 n (by omega) h64, ← digs_len f (n / 256) h1 (by omega)]
        omega
theorem dig_len (n : Nat) (h : n < 18446744073709551616) : (Lib.bitLen n + 7) / 8 = dig n := digs_len 8 n (by omega) (by omega)
theorem dig_pos (n : Nat) (h : 0 < n) : 1 ≤ dig n := by
  unfold dig; rw [digs_step, if_neg (by omega)]; omega

/-- How many bytes stand behind a row's first one. -/
def behind (n : Nat) : Nat := if n < 248 then 0 else dig n
theorem behind_le (n : Nat) : behind n ≤ 8 := by unfold behind; split; omega; exact dig_le n
theorem behind_pos (n : Nat) : 0 < behind n ↔ 248 ≤ n := by
  unfold behind
  split
  · omega
  · have := dig_pos n (by omega); omega
/-- A number's row. -/
def row (n : Nat) : List UInt8 := if n < 248 then [byt n] else byt (247 + dig n) :: be (dig n) n
/-- Numbers' rows. -/
def vars (ns : List Nat) : List UInt8 := (ns.map row).flatten
theorem row_length (n : Nat) : (row n).length = 1 + behind n := by
  unfold row behind
  split
  · rfl
  · simp [be_length]; omega

/-- The number of a width that a text begins with. -/
def bigOk (s : List UInt8) (k : Int) : Bool := decide (1 ≤ k ∧ k ≤ 8 ∧ k ≤ s.length)
def bigNum (s : List UInt8) (k : Int) : Nat := if bigOk s k then val (s.take k.toNat) else 0
/-- What is read of a text. -/
def rOk (s : List UInt8) : Bool :=
  if s.length = 0 then false else if at_ s 0 < 248 then true
  else decide (at_ s 0 - 247 ≤ s.length - 1 ∧ behind (val ((s.drop 1).take (at_ s 0 - 247))) = at_ s 0 - 247)
def rNum (s : List UInt8) : Nat := if rOk s then (if at_ s 0 < 248 then at_ s 0 else val ((s.drop 1).take (at_ s 0 - 247))) else 0
def rSize (s : List UInt8) : Nat := if rOk s then (if at_ s 0 < 248 then 1 else at_ s 0 - 246) else 0
theorem val_lt8 (l : List UInt8) (h : l.length ≤ 8) : val l < 18446744073709551616 :=
  Nat.lt_of_lt_of_le (val_lt l) (Nat.le_trans (Nat.pow_le_pow_right (by omega) h) (by decide))
theorem val_dig (l : List UInt8) (h : l.length ≤ 8) : dig (val l) ≤ l.length := (dig_iff _ _ (val_lt8 l h)).2 (val_lt l)
theorem take_head (s : List UInt8) (k : Nat) (h : 0 < s.length) : s.take (k + 1) = byt (at_ s 0) :: (s.drop 1).take k := by
  rcases s with _ | ⟨c, s⟩
  · simp at h
  · show c :: s.take k = byt c.toNat :: s.take k
    rw [byt_eq]
/-- The document's test is the program's. -/
theorem row_test (s : List UInt8) (h1 : 248 ≤ at_ s 0) (h2 : at_ s 0 - 246 ≤ s.length) :
    row (val ((s.drop 1).take (at_ s 0 - 247))) = s.take (at_ s 0 - 246) ↔ behind (val ((s.drop 1).take (at_ s 0 - 247))) = at_ s 0 - 247 := by
  have hlt := at_lt s 0
  have hl : ((s.drop 1).take (at_ s 0 - 247)).length = at_ s 0 - 247 := by simp; omega
  constructor
  · intro h
    have := congrArg List.length h
    rw [row_length, List.length_take, Nat.min_eq_left h2] at this
    omega
  · intro h
    have hb := be_val ((s.drop 1).take (at_ s 0 - 247))
    rw [hl] at hb
    have h3 := behind_pos (val ((s.drop 1).take (at_ s 0 - 247)))
    have h4 : dig (val ((s.drop 1).take (at_ s 0 - 247))) = at_ s 0 - 247 := by
      unfold behind at h
      split at h
      · omega
      · exact h
    unfold row
    rw [if_neg (by omega), h4, hb]
    rw [show at_ s 0 - 246 = (at_ s 0 - 247) + 1 by omega, take_head s _ (by omega), show 247 + (at_ s 0 - 247) = at_ s 0 by omega]
/-- A row is read. -/
theorem read_row (n : Nat) (h : n < 18446744073709551616) (x : List UInt8) : rOk (row n ++ x) = true ∧ rNum (row n ++ x) = n ∧ rSize (row n ++ x) = (row n).length := by
  by_cases hn : n < 248
  · have hr : row n = [byt n] := by unfold row; rw [if_pos hn]
    have h0 : at_ (row n ++ x) 0 = n := by rw [hr]; show (byt n).toNat = n; rw [byt_toNat]; omega
    have hk : rOk (row n ++ x) = true := by unfold rOk; rw [h0, if_neg (by simp [hr]), if_pos hn]
    refine ⟨hk, ?_, ?_⟩
    · unfold rNum; rw [hk, h0, if_pos rfl, if_pos hn]
    · unfold rSize; rw [hk, h0, if_pos rfl, if_pos hn, hr]; rfl
  · have hr : row n = byt (247 + dig n) :: be (dig n) n := by unfold row; rw [if_neg hn]
    have h1 := dig_pos n (by omega)
    have h2 := dig_le n
    have h0 : at_ (row n ++ x) 0 = 247 + dig n := by rw [hr]; show (byt (247 + dig n)).toNat = _; rw [byt_toNat]; omega
    have hv : val (((row n ++ x).drop 1).take (247 + dig n - 247)) = n := by
      rw [hr, Nat.add_sub_cancel_left]
      simp only [List.cons_append, List.drop_succ_cons, List.drop_zero]
      rw [List.take_append_of_le_length (by rw [be_length]; exact Nat.le_refl _), List.take_of_length_le (by rw [be_length]; exact Nat.le_refl _), val_be]
      exact Nat.mod_eq_of_lt ((dig_iff n _ h).1 (Nat.le_refl _))
    have hlen : (row n ++ x).length = 1 + dig n + x.length := by rw [List.length_append, row_length]; unfold behind; rw [if_neg hn]
    have hk : rOk (row n ++ x) = true := by
      unfold rOk
      rw [h0, hv, if_neg (by omega), if_neg (by omega)]
      unfold behind
      rw [if_neg hn, hlen]
      exact decide_eq_true ⟨by omega, by omega⟩
    refine ⟨hk, ?_, ?_⟩
    · unfold rNum; rw [hk, h0, if_pos rfl, if_neg (by omega), hv]
    · unfold rSize; rw [hk, h0, if_pos rfl, if_neg (by omega), row_length]; unfold behind; rw [if_neg hn]; omega
/-- What is read, put again, is what was read. -/
theorem row_read (s : List UInt8) (h : rOk s = true) : 1 ≤ rSize s ∧ rSize s ≤ s.length ∧ row (rNum s) = s.take (rSize s) ∧ rNum s < 18446744073709551616 := by
  have hlt := at_lt s 0
  have hs : s.length ≠ 0 := by intro e; unfold rOk at h; rw [if_pos e] at h; cases h
  by_cases h8 : at_ s 0 < 248
  · have e1 : rNum s = at_ s 0 := by unfold rNum; rw [h, if_pos rfl, if_pos h8]
    have e2 : rSize s = 1 := by unfold rSize; rw [h, if_pos rfl, if_pos h8]
    rw [e1, e2]
    refine ⟨by omega, by omega, ?_, by omega⟩
    unfold row
    rw [if_pos h8]
    rcases s with _ | ⟨c, s⟩
    · simp at hs
    · show [byt c.toNat] = _
      rw [byt_eq]; rfl
  · have e1 : rNum s = val ((s.drop 1).take (at_ s 0 - 247)) := by unfold rNum; rw [h, if_pos rfl, if_neg h8]
    have e2 : rSize s = at_ s 0 - 246 := by unfold rSize; rw [h, if_pos rfl, if_neg h8]
    have h' := h
    unfold rOk at h'
    rw [if_neg hs, if_neg h8] at h'
    have h3 := of_decide_eq_true h'
    rw [e1, e2]
    exact ⟨by omega, by omega, (row_test s (by omega) (by omega)).2 h3.2, val_lt8 _ (by simp; omega)⟩
end Go.Proofs.YtcobfoiajdbahaaDoor.P
