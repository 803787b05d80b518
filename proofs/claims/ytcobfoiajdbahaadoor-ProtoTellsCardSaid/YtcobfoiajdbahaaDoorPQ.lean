/- Plain law: the document's reading of a call, an Op each; what is left is no longer. -/
import Derived.Below
import Derived.Lib.BitFns
namespace Go.Proofs.YtcobfoiajdbahaaDoor.P
def byt (n : Nat) : UInt8 := UInt8.ofNat n
theorem byt_toNat (n : Nat) : (byt n).toNat = n % 256 := by simp [byt]
def at_ (s : List UInt8) (i : Nat) : Nat := (s.getD i 0).toNat
theorem at_lt (s : List UInt8) (i : Nat) : at_ s i < 256 := by
  have := (s.getD i 0).toNat_lt
  unfold at_; omega
theorem at_get (s : List UInt8) (i : Nat) (h : i < s.length) : s[i].toNat = at_ s i := by
  unfold at_
  simp [List.getD_eq_getElem?_getD, h]
theorem byt_eq (c : UInt8) : byt c.toNat = c := by simp [byt]
theorem toNat_inj {a b : UInt8} (h : a.toNat = b.toNat) : a = b := UInt8.toNat_inj.1 h
end Go.Proofs.YtcobfoiajdbahaaDoor.P
namespace Go.Proofs.YtcobfoiajdbahaaDoor.P
/-- The last k bytes of a number, the greatest first. -/
def be : Nat → Nat → List UInt8
  | 0, _ => []
  | k + 1, n => be k (n / 256) ++ [byt n]
theorem be_length : ∀ (k n : Nat), (be k n).length = k
  | 0, _ => rfl
  | k + 1, n => by simp [be, be_length k]
theorem be_at : ∀ (k n j : Nat) (h : j < (be k n).length), (be k n)[j] = byt (n / 256 ^ (k - 1 - j))
  | 0, _, j, h => by simp [be] at h
  | k + 1, n, j, h => by
    have hl := be_length k (n / 256)
    have hj : j < k + 1 := by rw [be_length] at h; exact h
    by_cases hk : j < k
    · have : (be (k + 1) n)[j] = (be k (n / 256))[j]'(by omega) := by
        simp only [be]
        rw [List.getElem_append_left]
      rw [this, be_at k (n / 256) j (by omega), Nat.div_div_eq_div_mul, ← Nat.pow_succ', show (k - 1 - j).succ = k + 1 - 1 - j by omega]
    · obtain rfl : j = k := by omega
      have : (be (j + 1) n)[j] = byt n := by
        simp only [be]
        rw [List.getElem_append_right (by omega)]
        simp
      rw [this]
      simp
theorem be_take (k n j : Nat) (h : j < k) : (be k n).take (j + 1) = (be k n).take j ++ [byt (n / 256 ^ (k - 1 - j))] := by
  rw [List.take_succ_eq_append_getElem (by rw [be_length]; exact h), be_at]
/-- The number that bytes are. -/
def val (l : List UInt8) : Nat := l.foldl (fun a c => 256 * a + c.toNat) 0
theorem val_snoc (l : List UInt8) (c : UInt8) : val (l ++ [c]) = 256 * val l + c.toNat := by simp [val]
theorem snocInd {p : List UInt8 → Prop} (h0 : p []) (h1 : ∀ l c, p l → p (l ++ [c])) (l : List UInt8) : p l := by
  have h : ∀ r : List UInt8, p r.reverse := by
    intro r
    induction r with
    | nil => exact h0
    | cons c r ih => rw [List.reverse_cons]; exact h1 _ _ ih
  have := h l.reverse
  rwa [List.reverse_reverse] at this
theorem val_lt (l : List UInt8) : val l < 256 ^ l.length := by
  induction l using snocInd with
  | h0 => simp [val]
  | h1 l c ih =>
    rw [val_snoc, List.length_append, List.length_singleton, Nat.pow_succ]
    have := c.toNat_lt
    omega
theorem be_val (l : List UInt8) : be l.length (val l) = l := by
  induction l using snocInd with
  | h0 => rfl
  | h1 l c ih =>
    have hc := c.toNat_lt
    rw [val_snoc, List.length_append, List.length_singleton]
    simp only [be]
    rw [show (256 * val l + c.toNat) / 256 = val l by omega, ih]
    congr 2
    apply toNat_inj
    rw [byt_toNat]
    omega
theorem val_be : ∀ (k n : Nat), val (be k n) = n % 256 ^ k
  | 0, n => by simp [be, val, Nat.mod_one]
  | k + 1, n => by
    simp only [be]
    rw [val_snoc, val_be k (n / 256), byt_toNat, Nat.pow_succ, Nat.mul_comm (256 ^ k) 256, Nat.mod_mul]
    omega
/-- The digits that a number needs. -/
def digs : Nat → Nat → Nat
  | 0, _ => 0
  | f + 1, n => if n = 0 then 0 else digs f (n / 256) + 1
/-- The bytes that a number (of at most 64 bits) needs. -/
def dig (n : Nat) : Nat := digs 8 n
theorem digs_le : ∀ (f n : Nat), digs f n ≤ f
  | 0, _ => Nat.le_refl _
  | f + 1, n => by
    simp only [digs]
    split
    · omega
    · have := digs_le f (n / 256); omega
theorem dig_le (n : Nat) : dig n ≤ 8 := digs_le 8 n
theorem digs_iff : ∀ (f n k : Nat), n < 256 ^ f → (digs f n ≤ k ↔ n < 256 ^ k)
  | 0, n, k, h => by
    have : n = 0 := by simpa using h
    subst this
    simp [digs, Nat.pow_pos]
  | f + 1, n, k, h => by
    simp only [digs]
    split
    · next h0 => subst h0; simp [Nat.pow_pos]
    · next h0 =>
      rcases k with _ | k
      · simp; omega
      · have h1 : n / 256 < 256 ^ f := by rw [Nat.pow_succ] at h; omega
        have := digs_iff f (n / 256) k h1
        rw [Nat.add_le_add_iff_right, this, Nat.pow_succ]
        omega
theorem dig_iff (n k : Nat) (h : n < 18446744073709551616) : dig n ≤ k ↔ n < 256 ^ k := digs_iff 8 n k (by omega)
theorem digs_step (f n : Nat) : digs (f + 1) n = if n = 0 then 0 else digs f (n / 256) + 1 := rfl
theorem digs_len : ∀ (f n : Nat), n < 256 ^ f → f ≤ 8 → (Lib.bitLen n + 7) / 8 = digs f n
  | 0, n, h, _ => by
    have : n = 0 := by simpa using h
    subst this
    decide
  | f + 1, n, h, hf => by
    have h1 : n / 256 < 256 ^ f := by rw [Nat.pow_succ] at h; omega
    have h64 : n < 18446744073709551616 := Nat.lt_of_lt_of_le h (Nat.le_trans (Nat.pow_le_pow_right (by omega) hf) (by decide))
    rw [digs_step]
    split
    · next h0 => subst h0; decide
    · next h0 =>
      by_cases hs : n < 256
      · have h8 := Lib.bitLen_le n 8 (by omega) (by omega)
        have hp := Lib.bitLen_half n h0 (by omega)
        rw [show n / 256 = 0 by omega]
        have : digs f 0 = 0 := by cases f <;> simp [digs]
        rw [this]
        omega
      · rw [Lib.bitLen_shift8 n (by omega) h64, ← digs_len f (n / 256) h1 (by omega)]
        omega
theorem dig_len (n : Nat) (h : n < 18446744073709551616) : (Lib.bitLen n + 7) / 8 = dig n := digs_len 8 n (by omega) (by omega)
theorem dig_pos (n : Nat) (h : 0 < n) : 1 ≤ dig n := by
  unfold dig; rw [digs_step, if_neg (by omega)]; omega
/-- How many bytes stand behind a row's first one. -/
def behind (n : Nat) : Nat := if n < 248 then 0 else dig n
theorem behind_le (n : Nat) : behind n ≤ 8 := by unfold behind; split; omega; exact dig_le n
theorem behind_pos (n : Nat) : 0 < behind n ↔ 248 ≤ n := by
  unfold behind
  split
  · omega
  · have := dig_pos n (by omega); omega
/-- A number's row. -/
def row (n : Nat) : List UInt8 := if n < 248 then [byt n] else byt (247 + dig n) :: be (dig n) n
/-- Numbers' rows. -/
def vars (ns : List Nat) : List UInt8 := (ns.map row).flatten
theorem row_length (n : Nat) : (row n).length = 1 + behind n := by
  unfold row behind
  split
  · rfl
  · simp [be_length]; omega
/-- The number of a width that a text begins with. -/
def bigOk (s : List UInt8) (k : Int) : Bool := decide (1 ≤ k ∧ k ≤ 8 ∧ k ≤ s.length)
def bigNum (s : List UInt8) (k : Int) : Nat := if bigOk s k then val (s.take k.toNat) else 0
/-- What is read of a text. -/
def rOk (s : List UInt8) : Bool :=
  if s.length = 0 then false else if at_ s 0 < 248 then true
  else decide (at_ s 0 - 247 ≤ s.length - 1 ∧ behind (val ((s.drop 1).take (at_ s 0 - 247))) = at_ s 0 - 247)
def rNum (s : List UInt8) : Nat := if rOk s then (if at_ s 0 < 248 then at_ s 0 else val ((s.drop 1).take (at_ s 0 - 247))) else 0
def rSize (s : List UInt8) : Nat := if rOk s then (if at_ s 0 < 248 then 1 else at_ s 0 - 246) else 0
theorem val_lt8 (l : List UInt8) (h : l.length ≤ 8) : val l < 18446744073709551616 :=
  Nat.lt_of_lt_of_le (val_lt l) (Nat.le_trans (Nat.pow_le_pow_right (by omega) h) (by decide))
theorem take_head (s : List UInt8) (k : Nat) (h : 0 < s.length) : s.take (k + 1) = byt (at_ s 0) :: (s.drop 1).take k := by
  rcases s with _ | ⟨c, s⟩
  · simp at h
  · show c :: s.take k = byt c.toNat :: s.take k
    rw [byt_eq]
/-- The document's test is the program's. -/
theorem row_test (s : List UInt8) (h1 : 248 ≤ at_ s 0) (h2 : at_ s 0 - 246 ≤ s.length) :
    row (val ((s.drop 1).take (at_ s 0 - 247))) = s.take (at_ s 0 - 246) ↔ behind (val ((s.drop 1).take (at_ s 0 - 247))) = at_ s 0 - 247 := by
  have hlt := at_lt s 0
  have hl : ((s.drop 1).take (at_ s 0 - 247)).length = at_ s 0 - 247 := by simp; omega
  constructor
  · intro h
    have := congrArg List.length h
    rw [row_length, List.length_take, Nat.min_eq_left h2] at this
    omega
  · intro h
    have hb := be_val ((s.drop 1).take (at_ s 0 - 247))
    rw [hl] at hb
    have h3 := behind_pos (val ((s.drop 1).take (at_ s 0 - 247)))
    have h4 : dig (val ((s.drop 1).take (at_ s 0 - 247))) = at_ s 0 - 247 := by
      unfold behind at h
      split at h
      · omega
      · exact h
    unfold row
    rw [if_neg (by omega), h4, hb]
    rw [show at_ s 0 - 246 = (at_ s 0 - 247) + 1 by omega, take_head s _ (by omega), show 247 + (at_ s 0 - 247) = at_ s 0 by omega]
/-- A row is read. -/
theorem read_row (n : Nat) (h : n < 18446744073709551616) (x : List UInt8) : rOk (row n ++ x) = true ∧ rNum (row n ++ x) = n ∧ rSize (row n ++ x) = (row n).length := by
  by_cases hn : n < 248
  · have hr : row n = [byt n] := by unfold row; rw [if_pos hn]
    have h0 : at_ (row n ++ x) 0 = n := by rw [hr]; show (byt n).toNat = n; rw [byt_toNat]; omega
    have hk : rOk (row n ++ x) = true := by unfold rOk; rw [h0, if_neg (by simp [hr]), if_pos hn]
    refine ⟨hk, ?_, ?_⟩
    · unfold rNum; rw [hk, h0, if_pos rfl, if_pos hn]
    · unfold rSize; rw [hk, h0, if_pos rfl, if_pos hn, hr]; rfl
  · have hr : row n = byt (247 + dig n) :: be (dig n) n := by unfold row; rw [if_neg hn]
    have h1 := dig_pos n (by omega)
    have h2 := dig_le n
    have h0 : at_ (row n ++ x) 0 = 247 + dig n := by rw [hr]; show (byt (247 + dig n)).toNat = _; rw [byt_toNat]; omega
    have hv : val (((row n ++ x).drop 1).take (247 + dig n - 247)) = n := by
      rw [hr, Nat.add_sub_cancel_left]
      simp only [List.cons_append, List.drop_succ_cons, List.drop_zero]
      rw [List.take_append_of_le_length (by rw [be_length]; exact Nat.le_refl _), List.take_of_length_le (by rw [be_length]; exact Nat.le_refl _), val_be]
      exact Nat.mod_eq_of_lt ((dig_iff n _ h).1 (Nat.le_refl _))
    have hlen : (row n ++ x).length = 1 + dig n + x.length := by rw [List.length_append, row_length]; unfold behind; rw [if_neg hn]
    have hk : rOk (row n ++ x) = true := by
      unfold rOk
      rw [h0, hv, if_neg (by omega), if_neg (by omega)]
      unfold behind
      rw [if_neg hn, hlen]
      exact decide_eq_true ⟨by omega, by omega⟩
    refine ⟨hk, ?_, ?_⟩
    · unfold rNum; rw [hk, h0, if_pos rfl, if_neg (by omega), hv]
    · unfold rSize; rw [hk, h0, if_pos rfl, if_neg (by omega), row_length]; unfold behind; rw [if_neg hn]; omega
/-- What is read, put again, is what was read. -/
theorem row_read (s : List UInt8) (h : rOk s = true) : 1 ≤ rSize s ∧ rSize s ≤ s.length ∧ row (rNum s) = s.take (rSize s) ∧ rNum s < 18446744073709551616 := by
  have hlt := at_lt s 0
  have hs : s.length ≠ 0 := by intro e; unfold rOk at h; rw [if_pos e] at h; cases h
  by_cases h8 : at_ s 0 < 248
  · have e1 : rNum s = at_ s 0 := by unfold rNum; rw [h, if_pos rfl, if_pos h8]
    have e2 : rSize s = 1 := by unfold rSize; rw [h, if_pos rfl, if_pos h8]
    rw [e1, e2]
    refine ⟨by omega, by omega, ?_, by omega⟩
    unfold row
    rw [if_pos h8]
    rcases s with _ | ⟨c, s⟩
    · simp at hs
    · show [byt c.toNat] = _
      rw [byt_eq]; rfl
  · have e1 : rNum s = val ((s.drop 1).take (at_ s 0 - 247)) := by unfold rNum; rw [h, if_pos rfl, if_neg h8]
    have e2 : rSize s = at_ s 0 - 246 := by unfold rSize; rw [h, if_pos rfl, if_neg h8]
    have h' := h
    unfold rOk at h'
    rw [if_neg hs, if_neg h8] at h'
    have h3 := of_decide_eq_true h'
    rw [e1, e2]
    exact ⟨by omega, by omega, (row_test s (by omega) (by omega)).2 h3.2, val_lt8 _ (by simp; omega)⟩
end Go.Proofs.YtcobfoiajdbahaaDoor.P
namespace Go.Proofs.YtcobfoiajdbahaaDoor.P
/-- What is read of a text that begins with a text's row. -/
def tOk (s : List UInt8) (k : Int) : Bool := rOk s && decide (0 ≤ k ∧ (rNum s : Int) ≤ k ∧ rSize s + rNum s ≤ s.length)
def tText (s : List UInt8) (k : Int) : List UInt8 := if tOk s k then (s.drop (rSize s)).take (rNum s) else []
def tSize (s : List UInt8) (k : Int) : Nat := if tOk s k then rSize s + rNum s else 0
/-- A number of a width: the error's number, and the bytes. -/
def bigE (n : Nat) (k : Int) : Nat := if 1 ≤ k ∧ k ≤ 8 then (if dig n ≤ k.toNat then 0 else 3) else 1
def bigS (n : Nat) (k : Int) : List UInt8 := if bigE n k = 0 then be k.toNat n else []
theorem bigE_bad (n : Nat) (k : Int) (h : ¬ (1 ≤ k ∧ k ≤ 8)) : bigE n k = 1 ∧ bigS n k = [] := by
  have : bigE n k = 1 := by unfold bigE; rw [if_neg h]
  exact ⟨this, by unfold bigS; rw [this]; rfl⟩
theorem bigE_long (n m : Nat) (h1 : 1 ≤ m) (h8 : m ≤ 8) (h : m < dig n) : bigE n m = 3 ∧ bigS n m = [] := by
  have : bigE n m = 3 := by unfold bigE; rw [if_pos ⟨by omega, by omega⟩, if_neg (by omega)]
  exact ⟨this, by unfold bigS; rw [this]; rfl⟩
theorem bigE_ok (n m : Nat) (h1 : 1 ≤ m) (h8 : m ≤ 8) (h : dig n ≤ m) : bigE n m = 0 ∧ bigS n m = be m n := by
  have : bigE n m = 0 := by unfold bigE; rw [if_pos ⟨by omega, by omega⟩, if_pos (by omega)]
  exact ⟨this, by unfold bigS; rw [this]; rfl⟩
/-- Texts' rows. -/
def texts (ss : List (List UInt8)) : List UInt8 := (ss.map fun s => row s.length ++ s).flatten
theorem texts_snoc (ss : List (List UInt8)) (s : List UInt8) : texts (ss ++ [s]) = texts ss ++ (row s.length ++ s) := by simp [texts]
theorem texts_cons (s : List UInt8) (ss : List (List UInt8)) : texts (s :: ss) = row s.length ++ (s ++ texts ss) := by simp [texts]
/-- How many bytes texts have. -/
def total (ss : List (List UInt8)) : Nat := (ss.map List.length).sum
theorem total_cons (s : List UInt8) (ss : List (List UInt8)) : total (s :: ss) = s.length + total ss := by simp [total]
theorem texts_len : ∀ ss : List (List UInt8), (texts ss).length ≤ total ss + 9 * ss.length
  | [] => by simp [texts]
  | s :: ss => by
    have h := texts_len ss
    have h1 : (row s.length).length ≤ 9 := by rw [row_length]; have := behind_le s.length; omega
    rw [texts_cons, total_cons, List.length_append, List.length_append, List.length_cons]
    omega
theorem total_take : ∀ (ss : List (List UInt8)) (k : Nat), total (ss.take k) ≤ total ss
  | [], k => by simp
  | s :: ss, 0 => by simp [total]
  | s :: ss, k + 1 => by
    have := total_take ss k
    rw [List.take_succ_cons, total_cons, total_cons]
    omega
theorem mem_total : ∀ (ss : List (List UInt8)) (s : List UInt8), s ∈ ss → s.length ≤ total ss
  | t :: ss, s, h => by
    rw [total_cons]
    rcases List.mem_cons.1 h with rfl | h
    · omega
    · have := mem_total ss s h; omega
end Go.Proofs.YtcobfoiajdbahaaDoor.P
namespace Go.Proofs.YtcobfoiajdbahaaDoor.P
set_option linter.unusedVariables false
set_option linter.unusedSimpArgs false
structure Ad where
  fam : Nat
  hi : Nat
  lo : Nat
deriving DecidableEq
structure Px where
  a : Ad
  bits : Int
deriving DecidableEq
structure Ca where
  op : Nat
  client : Nat
  number : Nat
  p : Px
  a : Ad
  owner : List UInt8
  to : List UInt8
  d : Nat
  fr : Nat
  n : Int
deriving DecidableEq
def noA : Ad := ⟨0, 0, 0⟩
def noX : Px := ⟨noA, 0⟩
def noC : Ca := ⟨0, 0, 0, noX, noA, [], [], 0, 0, 0⟩
def tyA (a : Ad) : Prop := a.fam < 256 ∧ a.hi < 18446744073709551616 ∧ a.lo < 18446744073709551616
def tyX (p : Px) : Prop := tyA p.a ∧ -9223372036854775808 ≤ p.bits ∧ p.bits ≤ 9223372036854775807
def tyC (c : Ca) : Prop := c.op < 256 ∧ c.client < 256 ∧ c.number < 18446744073709551616 ∧ tyX c.p ∧ tyA c.a ∧ c.d < 18446744073709551616 ∧ c.fr < 18446744073709551616 ∧ -9223372036854775808 ≤ c.n ∧ c.n ≤ 9223372036854775807
/-! ### What may be -/
def adOk (a : Ad) : Bool := decide (a.fam = 6) || (decide (a.fam = 4) && (decide (a.hi = 0) && decide (a.lo < 4294967296)))
def wid (fam : Nat) : Nat := if fam = 4 then 32 else 128
def adNum (a : Ad) : Nat := a.hi * 18446744073709551616 + a.lo
def pxOk (p : Px) : Bool := adOk p.a && (decide (0 ≤ p.bits ∧ p.bits ≤ (wid p.a.fam : Int)) && decide (adNum p.a % 2 ^ (wid p.a.fam - p.bits.toNat) = 0))
def nameOk (s : List UInt8) : Bool := decide (1 ≤ s.length ∧ s.length ≤ 32)
/-- Which fields an Op uses. -/
def usesL : List Nat := [0, 1, 1, 1, 1, 22, 21, 22, 6, 14, 2, 67, 98, 65, 65, 0]
def uses (op : Nat) : Nat := usesL.getD op 0
def use (op i : Nat) : Bool := (uses op / 2 ^ i) % 2 == 1
def knownB (op : Nat) : Bool := decide (1 ≤ op ∧ op ≤ 15)
/-- Is a field of a call right, where it is used; is it zero, where it is not? -/
def fOk (c : Ca) : Nat → Bool
  | 0 => pxOk c.p
  | 1 => adOk c.a
  | 2 => nameOk c.owner
  | 3 => nameOk c.to
  | 4 => decide (1 ≤ c.d)
  | 5 => true
  | 6 => decide (1 ≤ c.n ∧ c.n ≤ 16)
  | _ => true
def fZero (c : Ca) : Nat → Bool
  | 0 => decide (c.p = noX)
  | 1 => decide (c.a = noA)
  | 2 => decide (c.owner = [])
  | 3 => decide (c.to = [])
  | 4 => decide (c.d = 0)
  | 5 => decide (c.fr = 0)
  | 6 => decide (c.n = 0)
  | _ => true
def fRight (c : Ca) (i : Nat) : Bool := if use c.op i then fOk c i else fZero c i
def rightC (c : Ca) : Bool := knownB c.op && ((List.range 7).all (fRight c) && (decide (c.op ≠ 11) || decide (c.a.fam = c.p.a.fam)))
/-! ### Bytes -/
def byI (n : Int) : UInt8 := byt (n % 256).toNat
def adB (a : Ad) : List UInt8 := if adOk a then (if a.fam = 4 then be 4 a.lo else be 8 a.hi ++ be 8 a.lo) else []
def adX (a : Ad) : List UInt8 := byt a.fam :: adB a
def pxX (p : Px) : List UInt8 := adX p.a ++ [byI p.bits]
def txB (s : List UInt8) : List UInt8 := row s.length ++ s
def headB (op client number : Nat) : List UInt8 := byt op :: byt client :: be 8 number
def fB (c : Ca) : Nat → List UInt8
  | 0 => pxX c.p
  | 1 => adX c.a
  | 2 => txB c.owner
  | 3 => txB c.to
  | 4 => row c.d
  | 5 => row c.fr
  | 6 => [byI c.n]
  | _ => []
/-- The bytes of the fields from the i-th on, of k of them. -/
def fsB (c : Ca) : Nat → Nat → List UInt8
  | _, 0 => []
  | i, k + 1 => (if use c.op i then fB c i else []) ++ fsB c (i + 1) k
def bytesC (c : Ca) : List UInt8 := headB c.op c.client c.number ++ fsB c 0 7
theorem fsB_snoc (c : Ca) : ∀ (k i : Nat), fsB c i (k + 1) = fsB c i k ++ (if use c.op (i + k) then fB c (i + k) else [])
  | 0, i => by simp [fsB]
  | k + 1, i => by
    have h := fsB_snoc c k (i + 1)
    rw [show i + 1 + k = i + (k + 1) by omega] at h
    show (if use c.op i then fB c i else []) ++ fsB c (i + 1) (k + 1) = _
    rw [h, ← List.append_assoc]
    rfl
/-! ### Reading with a flag -/
abbrev Qs := List UInt8 × Bool
def qN (q : Qs) : Nat × Qs := (rNum q.1, if q.2 = false ∧ rOk q.1 = true then (q.1.drop (rSize q.1), false) else (q.1, true))
def qP (n : Nat) (q : Qs) : List UInt8 × Qs := if q.2 = false ∧ n ≤ q.1.length then (q.1.take n, (q.1.drop n, false)) else ([], (q.1, true))
def qB (lo hi : Nat) (q : Qs) : Nat × Qs := if q.2 = false ∧ 1 ≤ q.1.length then (if lo ≤ at_ q.1 0 ∧ at_ q.1 0 ≤ hi then (at_ q.1 0, (q.1.drop 1, false)) else (0, (q.1.drop 1, true))) else (0, (q.1, true))
def qO (q : Qs) : List UInt8 × Qs := (tText q.1 32, if q.2 = false ∧ tOk q.1 32 = true ∧ tText q.1 32 ≠ [] then (q.1.drop (tSize q.1 32), false) else (q.1, true))
def fromB (fam : Nat) (s : List UInt8) : Ad × Bool := if fam = 4 ∧ s.length = 4 then (⟨4, 0, val s⟩, true) else if fam = 6 ∧ s.length = 16 then (⟨6, val (s.take 8), val (s.drop 8)⟩, true) else (noA, false)
def qA (q : Qs) : Ad × Qs :=
  let f := qB 4 6 q
  let s := qP (if f.1 = 6 then 16 else 4) f.2
  ((fromB f.1 s.1).1, (s.2.1, s.2.2 || !(fromB f.1 s.1).2))
def qX (q : Qs) : Px × Qs :=
  let a := qA q
  let b := qB 0 255 a.2
  (⟨a.1, (b.1 : Int)⟩, (b.2.1, b.2.2 || !pxOk ⟨a.1, (b.1 : Int)⟩))
def qH (q : Qs) : (Nat × Nat × Nat) × Qs :=
  let o := qB 0 255 q
  let c := qB 0 255 o.2
  let s := qP 8 c.2
  ((o.1, c.1, bigNum s.1 8), s.2)
/-- One field is read into a call. -/
def qF (c : Ca) (q : Qs) : Nat → Ca × Qs
  | 0 => ({ c with p := (qX q).1 }, (qX q).2)
  | 1 => ({ c with a := (qA q).1 }, (qA q).2)
  | 2 => ({ c with owner := (qO q).1 }, (qO q).2)
  | 3 => ({ c with to := (qO q).1 }, (qO q).2)
  | 4 => ({ c with d := (qN q).1 }, (qN q).2)
  | 5 => ({ c with fr := (qN q).1 }, (qN q).2)
  | 6 => ({ c with n := ((qB 1 16 q).1 : Int) }, (qB 1 16 q).2)
  | _ => (c, q)
def qStep (op : Nat) (r : Ca × Qs) (i : Nat) : Ca × Qs := if use op i then qF r.1 r.2 i else r
/-- The first k fields. -/
def qFs (op : Nat) (r : Ca × Qs) (k : Nat) : Ca × Qs := (List.range k).foldl (qStep op) r
theorem qFs_succ (op : Nat) (r : Ca × Qs) (k : Nat) : qFs op r (k + 1) = qStep op (qFs op r k) k := by
  unfold qFs
  rw [List.range_succ, List.foldl_append]
  rfl
def headC (h : Nat × Nat × Nat) : Ca := ⟨h.1, h.2.1, h.2.2, noX, noA, [], [], 0, 0, 0⟩
def readQ (s : List UInt8) : Ca × Qs := qFs (qH (s, false)).1.1 (headC (qH (s, false)).1, (qH (s, false)).2) 7
def readOk (s : List UInt8) : Bool := (!(qH (s, false)).2.2 && knownB (qH (s, false)).1.1) && (!(readQ s).2.2 && (decide ((readQ s).2.1 = []) && rightC (readQ s).1))
def readC (s : List UInt8) : Ca := if readOk s then (readQ s).1 else noC
/-! ### What is written is read; what is read is what was written -/
theorem qN_row (n : Nat) (h : n < 18446744073709551616) (x : List UInt8) : qN (row n ++ x, false) = (n, (x, false)) := by
  obtain ⟨h1, h2, h3⟩ := read_row n h x
  unfold qN
  simp only [h1, h2, h3, List.drop_left, and_self, if_true]
theorem qN_is {q : Qs} (h : (qN q).2.2 = false) : q.2 = false ∧ q.1 = row (qN q).1 ++ (qN q).2.1 ∧ (qN q).1 < 18446744073709551616 := by
  unfold qN at *
  by_cases hc : q.2 = false ∧ rOk q.1 = true
  · obtain ⟨h1, h2, h3, h4⟩ := row_read q.1 hc.2
    simp only [if_pos hc]
    exact ⟨hc.1, by rw [h3, List.take_append_drop], h4⟩
  · rw [if_neg hc] at h; cases h
theorem qP_app (l x : List UInt8) (n : Nat) (hn : l.length = n) : qP n (l ++ x, false) = (l, (x, false)) := by
  subst hn
  unfold qP
  rw [if_pos ⟨rfl, by simp⟩]
  simp
theorem qP_is {n : Nat} {q : Qs} (h : (qP n q).2.2 = false) : q.2 = false ∧ q.1 = (qP n q).1 ++ (qP n q).2.1 ∧ (qP n q).1.length = n := by
  unfold qP at *
  by_cases hc : q.2 = false ∧ n ≤ q.1.length
  · rw [if_pos hc]
    exact ⟨hc.1, by simp, by simp; omega⟩
  · rw [if_neg hc] at h; cases h
theorem qB_app (lo hi n : Nat) (h1 : lo ≤ n) (h2 : n ≤ hi) (h3 : n < 256) (x : List UInt8) : qB lo hi (byt n :: x, false) = (n, (x, false)) := by
  have h : at_ (byt n :: x) 0 = n := by show (byt n).toNat = n; rw [byt_toNat]; omega
  unfold qB
  rw [if_pos ⟨rfl, by simp⟩]
  simp only [h]
  rw [if_pos ⟨h1, h2⟩]
  rfl
theorem qB_is {lo hi : Nat} {q : Qs} (h : (qB lo hi q).2.2 = false) : q.2 = false ∧ q.1 = byt (qB lo hi q).1 :: (qB lo hi q).2.1 ∧ lo ≤ (qB lo hi q).1 ∧ (qB lo hi q).1 ≤ hi ∧ (qB lo hi q).1 < 256 := by
  unfold qB at *
  by_cases hc : q.2 = false ∧ 1 ≤ q.1.length
  · rw [if_pos hc] at h ⊢
    by_cases hd : lo ≤ at_ q.1 0 ∧ at_ q.1 0 ≤ hi
    · rw [if_pos hd]
      refine ⟨hc.1, ?_, hd.1, hd.2, at_lt _ _⟩
      obtain ⟨s, b⟩ := q
      cases s with
      | nil => simp at hc
      | cons c t =>
        show c :: t = byt c.toNat :: t
        rw [byt_eq]
    · rw [if_neg hd] at h; cases h
  · rw [if_neg hc] at h; cases h
theorem tx_read (s x : List UInt8) (h : s.length ≤ 32) : tOk (txB s ++ x) 32 = true ∧ tText (txB s ++ x) 32 = s ∧ tSize (txB s ++ x) 32 = (txB s).length := by
  obtain ⟨h1, h2, h3⟩ := read_row s.length (by omega) (s ++ x)
  have e : txB s ++ x = row s.length ++ (s ++ x) := by simp [txB]
  have ho : tOk (txB s ++ x) 32 = true := by
    rw [e]
    unfold tOk
    rw [h1, h2, h3]
    simp only [Bool.true_and, decide_eq_true_eq, List.length_append]
    omega
  refine ⟨ho, ?_, ?_⟩
  · unfold tText
    rw [if_pos ho, e, h2, h3, List.drop_left, List.take_left]
  · unfold tSize
    rw [if_pos ho, e, h2, h3]
    simp [txB]
theorem qO_app (s x : List UInt8) (h : nameOk s = true) : qO (txB s ++ x, false) = (s, (x, false)) := by
  unfold nameOk at h
  simp only [decide_eq_true_eq] at h
  obtain ⟨h1, h2, h3⟩ := tx_read s x h.2
  unfold qO
  simp only [h1, h2, h3, List.drop_left]
  rw [if_pos (by simp only [true_and]; intro e; rw [e] at h; simp at h)]
theorem qO_is {q : Qs} (h : (qO q).2.2 = false) : q.2 = false ∧ q.1 = txB (qO q).1 ++ (qO q).2.1 ∧ nameOk (qO q).1 = true := by
  unfold qO at *
  by_cases hc : q.2 = false ∧ tOk q.1 32 = true ∧ tText q.1 32 ≠ []
  · simp only [if_pos hc]
    obtain ⟨hb, ho, hne⟩ := hc
    have ho' := ho
    unfold tOk at ho'
    simp only [Bool.and_eq_true, decide_eq_true_eq] at ho'
    obtain ⟨r1, -, r2, r3⟩ := ho'
    obtain ⟨h1, h2, h3, h4⟩ := row_read q.1 r1
    have hl : (tText q.1 32).length = rNum q.1 := by unfold tText; rw [if_pos ho, List.length_take, List.length_drop]; omega
    refine ⟨hb, ?_, ?_⟩
    · unfold txB
      rw [hl, h3]
      unfold tText tSize
      rw [if_pos ho, if_pos ho]
      conv => lhs; rw [← List.take_append_drop (rSize q.1) q.1, ← List.take_append_drop (rNum q.1) (q.1.drop (rSize q.1))]
      rw [List.drop_drop, List.append_assoc]
    · unfold nameOk
      rw [hl]
      have : 0 < (tText q.1 32).length := List.length_pos_iff.2 hne
      simp only [decide_eq_true_eq]
      omega
  · simp only [if_neg hc] at h; cases h
theorem adOk_cases {a : Ad} (h : adOk a = true) : (a.fam = 6) ∨ (a.fam = 4 ∧ a.hi = 0 ∧ a.lo < 4294967296) := by
  unfold adOk at h
  simpa only [Bool.or_eq_true, Bool.and_eq_true, decide_eq_true_eq] using h
theorem adB_four {a : Ad} (h : adOk a = true) (hf : a.fam = 4) : adB a = be 4 a.lo := by unfold adB; rw [if_pos h, if_pos hf]
theorem adB_six {a : Ad} (h : adOk a = true) (hf : a.fam = 6) : adB a = be 8 a.hi ++ be 8 a.lo := by unfold adB; rw [if_pos h, if_neg (by omega)]
theorem fromB_adB {a : Ad} (h : adOk a = true) (ht : tyA a) : fromB a.fam (adB a) = (a, true) := by
  obtain ⟨fam, hi, lo⟩ := a
  obtain ⟨h1, h2, h3⟩ := ht
  simp only at h1 h2 h3
  rcases adOk_cases h with hf | ⟨hf, hh, hl⟩
  · rw [adB_six h hf]
    simp only at hf
    subst hf
    unfold fromB
    rw [if_neg (by simp), if_pos ⟨rfl, by simp [be_length]⟩]
    rw [show (be 8 hi ++ be 8 lo).take 8 = be 8 hi by rw [List.take_append_of_le_length (by simp [be_length]), List.take_of_length_le (by simp [be_length])], show (be 8 hi ++ be 8 lo).drop 8 = be 8 lo by rw [List.drop_append_of_le_length (by simp [be_length]), List.drop_of_length_le (by simp [be_length])]; rfl, val_be, val_be, Nat.mod_eq_of_lt (by omega), Nat.mod_eq_of_lt (by omega)]
  · rw [adB_four h hf]
    simp only at hf hh hl
    subst hf hh
    unfold fromB
    rw [if_pos ⟨rfl, by simp [be_length]⟩, val_be, Nat.mod_eq_of_lt (by omega)]
theorem fromB_is {fam : Nat} {s : List UInt8} (h : (fromB fam s).2 = true) : (fromB fam s).1.fam = fam ∧ adOk (fromB fam s).1 = true ∧ tyA (fromB fam s).1 ∧ adB (fromB fam s).1 = s := by
  unfold fromB at *
  by_cases h4 : fam = 4 ∧ s.length = 4
  · rw [if_pos h4]
    have hv : val s < 4294967296 := by have := val_lt s; rw [h4.2] at this; exact this
    have ho : adOk ⟨4, 0, val s⟩ = true := by unfold adOk; simp [hv]
    refine ⟨h4.1.symm, ho, ⟨by simp, by simp, by simp only; omega⟩, ?_⟩
    rw [adB_four ho rfl]
    have := be_val s
    rw [h4.2] at this
    exact this
  · rw [if_neg h4] at h ⊢
    by_cases h6 : fam = 6 ∧ s.length = 16
    · rw [if_pos h6]
      have e1 : (s.take 8).length = 8 := by rw [List.length_take]; omega
      have e2 : (s.drop 8).length = 8 := by rw [List.length_drop]; omega
      have ho : adOk ⟨6, val (s.take 8), val (s.drop 8)⟩ = true := rfl
      refine ⟨h6.1.symm, ho, ⟨by simp, val_lt8 _ (by omega), val_lt8 _ (by omega)⟩, ?_⟩
      rw [adB_six ho rfl]
      have b1 := be_val (s.take 8)
      have b2 := be_val (s.drop 8)
      rw [e1] at b1
      rw [e2] at b2
      simp only
      rw [b1, b2, List.take_append_drop]
    · rw [if_neg h6] at h; cases h
theorem adB_len {a : Ad} (h : adOk a = true) : (adB a).length = if a.fam = 6 then 16 else 4 := by
  rcases adOk_cases h with hf | ⟨hf, hh, hl⟩
  · rw [adB_six h hf, if_pos hf]; simp [be_length]
  · rw [adB_four h hf, if_neg (by omega)]; simp [be_length]
theorem qA_app (a : Ad) (x : List UInt8) (h : adOk a = true) (ht : tyA a) : qA (adX a ++ x, false) = (a, (x, false)) := by
  have hf : 4 ≤ a.fam ∧ a.fam ≤ 6 := by rcases adOk_cases h with hf | ⟨hf, _⟩ <;> omega
  have e1 : qB 4 6 (adX a ++ x, false) = (a.fam, (adB a ++ x, false)) := qB_app 4 6 a.fam hf.1 hf.2 (by omega) (adB a ++ x)
  have e2 := qP_app (adB a) x _ (adB_len h)
  unfold qA
  simp only [e1, e2, fromB_adB h ht]
  rfl
theorem qA_is {q : Qs} (h : (qA q).2.2 = false) : q.2 = false ∧ q.1 = adX (qA q).1 ++ (qA q).2.1 ∧ adOk (qA q).1 = true ∧ tyA (qA q).1 := by
  unfold qA at *
  simp only [Bool.or_eq_false_iff, Bool.not_eq_false'] at h ⊢
  obtain ⟨h1, h2⟩ := h
  obtain ⟨p1, p2, p3⟩ := qP_is h1
  obtain ⟨b1, b2, b3⟩ := qB_is p1
  obtain ⟨f1, f2, f3, f4⟩ := fromB_is h2
  refine ⟨b1, ?_, f2, f3⟩
  rw [adX, f1, f4, b2, List.cons_append, ← p2]
theorem byI_nat (n : Nat) (h : n < 256) : byI (n : Int) = byt n := by
  unfold byI
  congr 1
  omega
theorem qX_app (p : Px) (x : List UInt8) (h : pxOk p = true) (ht : tyX p) : qX (pxX p ++ x, false) = (p, (x, false)) := by
  have ho := h
  unfold pxOk at ho
  simp only [Bool.and_eq_true, decide_eq_true_eq] at ho
  obtain ⟨ha, ⟨hb0, hb1⟩, _⟩ := ho
  have hb2 : p.bits ≤ 128 := by unfold wid at hb1; split at hb1 <;> omega
  obtain ⟨b, hb⟩ : ∃ b : Nat, p.bits = (b : Int) := ⟨p.bits.toNat, by omega⟩
  have e1 := qA_app p.a (byI p.bits :: x) ha ht.1
  have e2 : qB 0 255 (byI p.bits :: x, false) = (b, (x, false)) := by rw [hb, byI_nat b (by omega)]; exact qB_app 0 255 b (by omega) (by omega) (by omega) x
  unfold qX
  rw [show pxX p ++ x = adX p.a ++ byI p.bits :: x by simp [pxX]]
  simp only [e1, e2]
  rw [← hb, h]
  rfl
theorem qX_is {q : Qs} (h : (qX q).2.2 = false) : q.2 = false ∧ q.1 = pxX (qX q).1 ++ (qX q).2.1 ∧ pxOk (qX q).1 = true ∧ tyX (qX q).1 := by
  unfold qX at *
  simp only [Bool.or_eq_false_iff, Bool.not_eq_false'] at h ⊢
  obtain ⟨h1, h2⟩ := h
  obtain ⟨b1, b2, b3, b4, b5⟩ := qB_is h1
  obtain ⟨a1, a2, a3, a4⟩ := qA_is b1
  refine ⟨a1, ?_, h2, a4, by simp only; omega, by simp only; omega⟩
  rw [pxX, byI_nat _ b5, a2, b2]
  simp
theorem bigNum_be (n : Nat) (h : n < 18446744073709551616) : bigNum (be 8 n) 8 = n := by
  unfold bigNum bigOk
  rw [if_pos (by simp [be_length])]
  rw [show (8 : Int).toNat = 8 from rfl, List.take_of_length_le (by simp [be_length]), val_be, Nat.mod_eq_of_lt (by omega)]
theorem be_bigNum {s : List UInt8} (h : s.length = 8) : be 8 (bigNum s 8) = s ∧ bigNum s 8 < 18446744073709551616 := by
  unfold bigNum bigOk
  rw [if_pos (by simp [h]), show (8 : Int).toNat = 8 from rfl, List.take_of_length_le (by omega)]
  have := be_val s
  rw [h] at this
  exact ⟨this, val_lt8 s (by omega)⟩
theorem qH_app (op cl nu : Nat) (h1 : op < 256) (h2 : cl < 256) (h3 : nu < 18446744073709551616) (x : List UInt8) : qH (headB op cl nu ++ x, false) = ((op, cl, nu), (x, false)) := by
  have e1 : qB 0 255 (headB op cl nu ++ x, false) = (op, (byt cl :: (be 8 nu ++ x), false)) := qB_app 0 255 op (by omega) (by omega) h1 _
  have e2 : qB 0 255 (byt cl :: (be 8 nu ++ x), false) = (cl, (be 8 nu ++ x, false)) := qB_app 0 255 cl (by omega) (by omega) h2 _
  have e3 := qP_app (be 8 nu) x 8 (be_length 8 nu)
  unfold qH
  simp only [e1, e2, e3, bigNum_be nu h3]
theorem qH_is {q : Qs} (h : (qH q).2.2 = false) : q.2 = false ∧ q.1 = headB (qH q).1.1 (qH q).1.2.1 (qH q).1.2.2 ++ (qH q).2.1 ∧ (qH q).1.1 < 256 ∧ (qH q).1.2.1 < 256 ∧ (qH q).1.2.2 < 18446744073709551616 := by
  unfold qH at *
  simp only at h ⊢
  obtain ⟨p1, p2, p3⟩ := qP_is h
  obtain ⟨c1, c2, c3, c4, c5⟩ := qB_is p1
  obtain ⟨b1, b2, b3, b4, b5⟩ := qB_is c1
  obtain ⟨e1, e2⟩ := be_bigNum p3
  refine ⟨b1, ?_, b5, c5, e2⟩
  rw [b2, c2]
  unfold headB
  rw [e1]
  simp only [List.cons_append, ← p2]
end Go.Proofs.YtcobfoiajdbahaaDoor.P
namespace Go.Proofs.YtcobfoiajdbahaaDoor.P
set_option linter.unusedVariables false
set_option linter.unusedSimpArgs false
theorem qN_bad (s : List UInt8) : (qN (s, true)).2 = (s, true) := by simp [qN]
theorem qP_bad (n : Nat) (s : List UInt8) : qP n (s, true) = ([], (s, true)) := by simp [qP]
theorem qN_le (q : Qs) : (qN q).2.1.length ≤ q.1.length := by unfold qN; split <;> simp
theorem qP_le (n : Nat) (q : Qs) : (qP n q).2.1.length ≤ q.1.length := by unfold qP; split <;> simp
theorem qB_le (lo hi : Nat) (q : Qs) : (qB lo hi q).2.1.length ≤ q.1.length := by unfold qB; split <;> (try split) <;> simp
theorem qO_le (q : Qs) : (qO q).2.1.length ≤ q.1.length := by unfold qO; split <;> simp
theorem qA_le (q : Qs) : (qA q).2.1.length ≤ q.1.length := Nat.le_trans (qP_le _ _) (qB_le _ _ _)
theorem qX_le (q : Qs) : (qX q).2.1.length ≤ q.1.length := Nat.le_trans (qB_le _ _ _) (qA_le q)
theorem qH_le (q : Qs) : (qH q).2.1.length ≤ q.1.length := Nat.le_trans (qP_le _ _) (Nat.le_trans (qB_le _ _ _) (qB_le _ _ _))
theorem fromB_ty (fam : Nat) (s : List UInt8) : tyA (fromB fam s).1 := by
  cases h : (fromB fam s).2 with
  | true => exact (fromB_is h).2.2.1
  | false =>
    have : (fromB fam s).1 = noA := by
      unfold fromB at *
      split at h
      · cases h
      split at h
      · cases h
      · rename_i h1 h2
        rw [if_neg h1, if_neg h2]
    rw [this]
    exact ⟨by decide, by decide, by decide⟩
theorem qA_ty (q : Qs) : tyA (qA q).1 := fromB_ty _ _
theorem qB_lt (lo hi : Nat) (q : Qs) : (qB lo hi q).1 < 256 := by
  unfold qB
  split
  · split
    · exact at_lt _ _
    · exact Nat.zero_lt_succ _
  · exact Nat.zero_lt_succ _
theorem qX_ty (q : Qs) : tyX (qX q).1 := ⟨qA_ty q, by have := qB_lt 0 255 (qA q).2; show _ ≤ ((qB 0 255 (qA q).2).1 : Int); omega, by have := qB_lt 0 255 (qA q).2; show ((qB 0 255 (qA q).2).1 : Int) ≤ _; omega⟩
theorem rNum_lt (s : List UInt8) : rNum s < 18446744073709551616 := by
  cases h : rOk s with
  | true => exact (row_read s h).2.2.2
  | false => unfold rNum; rw [h]; simp
theorem qN_ty (q : Qs) : (qN q).1 < 18446744073709551616 := rNum_lt q.1
theorem bigNum_lt (s : List UInt8) : bigNum s 8 < 18446744073709551616 := by
  unfold bigNum
  split
  · exact val_lt8 _ (by rw [List.length_take]; show min 8 _ ≤ 8; omega)
  · decide
/-- A lease is read. -/
def qL (q : Qs) : (List UInt8 × Nat) × Qs := (((qO q).1, (qN (qO q).2).1), (qN (qO q).2).2)
theorem qL_le (q : Qs) : (qL q).2.1.length ≤ q.1.length := Nat.le_trans (qN_le _) (qO_le q)
/-- A field of a call, put into another. -/
def setF (c d : Ca) : Nat → Ca
  | 0 => { c with p := d.p }
  | 1 => { c with a := d.a }
  | 2 => { c with owner := d.owner }
  | 3 => { c with to := d.to }
  | 4 => { c with d := d.d }
  | 5 => { c with fr := d.fr }
  | 6 => { c with n := d.n }
  | _ => c
/-- One field is read as it was written. -/
theorem qF_app (c d : Ca) (x : List UInt8) (i : Nat) (hi : i < 7) (h : fOk d i = true) (ht : tyC d) : qF c (fB d i ++ x, false) i = (setF c d i, (x, false)) := by
  obtain ⟨t1, t2, t3, t4, t5, t6, t7, t8, t9⟩ := ht
  match i, hi with
  | 0, _ => unfold qF fB setF; simp only; rw [qX_app d.p x h t4]
  | 1, _ => unfold qF fB setF; simp only; rw [qA_app d.a x h t5]
  | 2, _ => unfold qF fB setF; simp only; rw [qO_app d.owner x h]
  | 3, _ => unfold qF fB setF; simp only; rw [qO_app d.to x h]
  | 4, _ => unfold qF fB setF; simp only; rw [qN_row d.d t6 x]
  | 5, _ => unfold qF fB setF; simp only; rw [qN_row d.fr t7 x]
  | 6, _ =>
    have hn : 1 ≤ d.n ∧ d.n ≤ 16 := by simpa [fOk] using h
    obtain ⟨m, hm⟩ : ∃ m : Nat, d.n = (m : Int) := ⟨d.n.toNat, by omega⟩
    have e : qB 1 16 (byI d.n :: x, false) = (m, (x, false)) := by rw [hm, byI_nat m (by omega)]; exact qB_app 1 16 m (by omega) (by omega) (by omega) x
    unfold qF fB setF
    simp only [List.cons_append, List.nil_append]
    rw [e, hm]
theorem qF_op (c : Ca) (q : Qs) (i : Nat) : (qF c q i).1.op = c.op ∧ (qF c q i).1.client = c.client ∧ (qF c q i).1.number = c.number := by
  match i with
  | 0 => exact ⟨rfl, rfl, rfl⟩
  | 1 => exact ⟨rfl, rfl, rfl⟩
  | 2 => exact ⟨rfl, rfl, rfl⟩
  | 3 => exact ⟨rfl, rfl, rfl⟩
  | 4 => exact ⟨rfl, rfl, rfl⟩
  | 5 => exact ⟨rfl, rfl, rfl⟩
  | 6 => exact ⟨rfl, rfl, rfl⟩
  | n + 7 => exact ⟨rfl, rfl, rfl⟩
/-- The fields from the i-th on, k of them, one behind the other. -/
def qGo (op : Nat) : Ca × Qs → Nat → Nat → Ca × Qs
  | r, _, 0 => r
  | r, i, k + 1 => qGo op (qStep op r i) (i + 1) k
theorem qGo_snoc (op : Nat) : ∀ (k i : Nat) (r : Ca × Qs), qGo op r i (k + 1) = qStep op (qGo op r i k) (i + k)
  | 0, i, r => rfl
  | k + 1, i, r => by
    have h := qGo_snoc op k (i + 1) (qStep op r i)
    rw [show i + 1 + k = i + (k + 1) by omega] at h
    exact h
theorem qFs_go (op : Nat) (r : Ca × Qs) : ∀ k, qFs op r k = qGo op r 0 k
  | 0 => rfl
  | k + 1 => by rw [qFs_succ, qGo_snoc, qFs_go op r k, Nat.zero_add]
def setFs (op : Nat) (c d : Ca) : Nat → Nat → Ca
  | _, 0 => c
  | i, k + 1 => setFs op (if use op i then setF c d i else c) d (i + 1) k
theorem qGo_app (d : Ca) (ht : tyC d) : ∀ (k i : Nat) (c : Ca) (x : List UInt8), i + k ≤ 7 → (∀ j, i ≤ j → j < i + k → use d.op j = true → fOk d j = true) → qGo d.op (c, (fsB d i k ++ x, false)) i k = (setFs d.op c d i k, (x, false))
  | 0, i, c, x, _, _ => by simp [qGo, fsB, setFs]
  | k + 1, i, c, x, hk, hf => by
    show qGo d.op (qStep d.op (c, (((if use d.op i then fB d i else []) ++ fsB d (i + 1) k) ++ x, false)) i) (i + 1) k = (setFs d.op (if use d.op i then setF c d i else c) d (i + 1) k, (x, false))
    unfold qStep
    cases hu : use d.op i with
    | true =>
      simp only [if_true, List.append_assoc]
      rw [qF_app c d (fsB d (i + 1) k ++ x) i (by omega) (hf i (Nat.le_refl _) (by omega) hu) ht]
      exact qGo_app d ht k (i + 1) _ x (by omega) (fun j h1 h2 h3 => hf j (by omega) (by omega) h3)
    | false =>
      simp only [Bool.false_eq_true, if_false, List.nil_append]
      exact qGo_app d ht k (i + 1) _ x (by omega) (fun j h1 h2 h3 => hf j (by omega) (by omega) h3)
theorem qGo_op {op : Nat} : ∀ (k i : Nat) (r : Ca × Qs), (qGo op r i k).1.op = r.1.op ∧ (qGo op r i k).1.client = r.1.client ∧ (qGo op r i k).1.number = r.1.number
  | 0, _, _ => ⟨rfl, rfl, rfl⟩
  | k + 1, i, r => by
    have h := qGo_op (op := op) k (i + 1) (qStep op r i)
    have h2 : (qStep op r i).1.op = r.1.op ∧ (qStep op r i).1.client = r.1.client ∧ (qStep op r i).1.number = r.1.number := by
      unfold qStep
      split
      · exact qF_op _ _ _
      · exact ⟨rfl, rfl, rfl⟩
    exact ⟨h.1.trans h2.1, h.2.1.trans h2.2.1, h.2.2.trans h2.2.2⟩
/-- The types keep through. -/
theorem knownB_iff {op : Nat} : knownB op = true ↔ 1 ≤ op ∧ op ≤ 15 := by simp [knownB]
theorem right_all {c : Ca} (h : rightC c = true) : (1 ≤ c.op ∧ c.op ≤ 15) ∧ (∀ i, i < 7 → fRight c i = true) := by
  unfold rightC at h
  simp only [Bool.and_eq_true, List.all_eq_true, List.mem_range] at h
  exact ⟨knownB_iff.1 h.1, h.2.1⟩
/-- A right call is made up of what it uses alone. -/
theorem setFs_right {d : Ca} (h : rightC d = true) : setFs d.op (headC (d.op, d.client, d.number)) d 0 7 = d := by
  obtain ⟨_, hf⟩ := right_all h
  obtain ⟨op, client, number, p, a, owner, to, dd, fr, n⟩ := d
  have g : ∀ i, i < 7 → use op i = false → fZero ⟨op, client, number, p, a, owner, to, dd, fr, n⟩ i = true := fun i hi hu => by
    have := hf i hi
    unfold fRight at this
    simp only at this
    rw [hu] at this
    simpa using this
  have g0 := g 0 (by omega)
  have g1 := g 1 (by omega)
  have g2 := g 2 (by omega)
  have g3 := g 3 (by omega)
  have g4 := g 4 (by omega)
  have g5 := g 5 (by omega)
  have g6 := g 6 (by omega)
  simp only [fZero, decide_eq_true_eq] at g0 g1 g2 g3 g4 g5 g6
  have k0 : (if use op 0 = true then p else noX) = p := by cases hu : use op 0 <;> simp; exact (g0 hu).symm
  have k1 : (if use op 1 = true then a else noA) = a := by cases hu : use op 1 <;> simp; exact (g1 hu).symm
  have k2 : (if use op 2 = true then owner else []) = owner := by cases hu : use op 2 <;> simp; exact (g2 hu)
  have k3 : (if use op 3 = true then to else []) = to := by cases hu : use op 3 <;> simp; exact (g3 hu)
  have k4 : (if use op 4 = true then dd else 0) = dd := by cases hu : use op 4 <;> simp; exact (g4 hu).symm
  have k5 : (if use op 5 = true then fr else 0) = fr := by cases hu : use op 5 <;> simp; exact (g5 hu).symm
  have k6 : (if use op 6 = true then n else 0) = n := by cases hu : use op 6 <;> simp; exact (g6 hu).symm
  have key : setFs op (headC (op, client, number)) ⟨op, client, number, p, a, owner, to, dd, fr, n⟩ 0 7 = ⟨op, client, number, if use op 0 = true then p else noX, if use op 1 = true then a else noA, if use op 2 = true then owner else [], if use op 3 = true then to else [], if use op 4 = true then dd else 0, if use op 5 = true then fr else 0, if use op 6 = true then n else 0⟩ := by
    simp only [setFs, headC]
    cases use op 0 <;> cases use op 1 <;> cases use op 2 <;> cases use op 3 <;> cases use op 4 <;> cases use op 5 <;> cases use op 6 <;> rfl
  show setFs op _ _ 0 7 = _
  rw [key, k0, k1, k2, k3, k4, k5, k6]
theorem readQ_app {d : Ca} (h : rightC d = true) (ht : tyC d) (x : List UInt8) : (qH (bytesC d ++ x, false)) = ((d.op, d.client, d.number), (fsB d 0 7 ++ x, false)) ∧ readQ (bytesC d ++ x) = (d, (x, false)) := by
  obtain ⟨hk, hf⟩ := right_all h
  have e1 : qH (bytesC d ++ x, false) = ((d.op, d.client, d.number), (fsB d 0 7 ++ x, false)) := by
    have := qH_app d.op d.client d.number ht.1 ht.2.1 ht.2.2.1 (fsB d 0 7 ++ x)
    rw [← List.append_assoc] at this
    exact this
  refine ⟨e1, ?_⟩
  unfold readQ
  rw [e1, qFs_go]
  have := qGo_app d ht 7 0 (headC (d.op, d.client, d.number)) x (by omega) (fun j _ hj hu => by
    have := hf j (by omega)
    unfold fRight at this
    rw [if_pos hu] at this
    exact this)
  simp only
  rw [this, setFs_right h]
/-- A request is read as it was written, with nothing behind it. -/
theorem read_app {d : Ca} (h : rightC d = true) (ht : tyC d) (x : List UInt8) : readOk (bytesC d ++ x) = decide (x = []) ∧ (x = [] → readC (bytesC d ++ x) = d) := by
  obtain ⟨e1, e2⟩ := readQ_app h ht x
  have hk : knownB d.op = true := knownB_iff.2 (right_all h).1
  have ho : readOk (bytesC d ++ x) = decide (x = []) := by
    unfold readOk
    rw [e1, e2]
    simp only [hk, h, Bool.and_true]
    simp
  refine ⟨ho, fun hx => ?_⟩
  unfold readC
  rw [ho, if_pos (by simpa using hx), e2]
theorem read_right {d : Ca} (h : rightC d = true) (ht : tyC d) : readOk (bytesC d) = true ∧ readC (bytesC d) = d := by
  obtain ⟨h1, h2⟩ := read_app h ht []
  rw [List.append_nil] at h1 h2
  exact ⟨by rw [h1]; rfl, h2 rfl⟩
theorem readC_no {s : List UInt8} (h : readOk s = false) : readC s = noC := by unfold readC; rw [h]; rfl
/-! ### The document's reading: by taking -/
def tkA (s : List UInt8) : Ad × List UInt8 :=
  let size := if 0 < s.length ∧ at_ s 0 = 6 then 17 else 5
  if s.length < size then (noA, s) else
  let r := fromB (at_ s 0) ((s.drop 1).take (size - 1))
  if r.2 then (r.1, s.drop size) else (noA, s)
def tkC (s : List UInt8) : Nat × List UInt8 := if s.length = 0 then (0, s) else (at_ s 0, s.drop 1)
def tkX (s : List UInt8) : Px × List UInt8 := (⟨(tkA s).1, ((tkC (tkA s).2).1 : Int)⟩, (tkC (tkA s).2).2)
def tkT (s : List UInt8) : List UInt8 × List UInt8 := (tText s 32, s.drop (tSize s 32))
def tkN (s : List UInt8) : Nat × List UInt8 := (rNum s, s.drop (rSize s))
theorem tkA_app (a : Ad) (x : List UInt8) (h : adOk a = true) (ht : tyA a) : tkA (adX a ++ x) = (a, x) := by
  have hl := adB_len h
  have hat : at_ (adX a ++ x) 0 = a.fam := by show (byt a.fam).toNat = _; rw [byt_toNat]; have := ht.1; omega
  have hlen : (adX a ++ x).length = 1 + (adB a).length + x.length := by simp [adX]; omega
  have hd : (adX a ++ x).drop 1 = adB a ++ x := rfl
  unfold tkA
  simp only [hat, hlen, hd]
  by_cases h6 : a.fam = 6
  · rw [if_pos h6] at hl
    rw [show (if 0 < 1 + (adB a).length + x.length ∧ a.fam = 6 then 17 else 5) = 17 from if_pos ⟨by omega, h6⟩, if_neg (by omega)]
    rw [show (adB a ++ x).take (17 - 1) = adB a by rw [List.take_append_of_le_length (by omega), List.take_of_length_le (by omega)], fromB_adB h ht, if_pos rfl]
    rw [show (17 : Nat) = (adX a).length by simp [adX, hl], List.drop_left]
  · rw [if_neg h6] at hl
    rw [show (if 0 < 1 + (adB a).length + x.length ∧ a.fam = 6 then 17 else 5) = 5 from if_neg (fun h => h6 h.2), if_neg (by omega)]
    rw [show (adB a ++ x).take (5 - 1) = adB a by rw [List.take_append_of_le_length (by omega), List.take_of_length_le (by omega)], fromB_adB h ht, if_pos rfl]
    rw [show (5 : Nat) = (adX a).length by simp [adX, hl], List.drop_left]
theorem tkC_app (n : Nat) (h : n < 256) (x : List UInt8) : tkC (byt n :: x) = (n, x) := by
  unfold tkC
  rw [if_neg (by simp)]
  show ((byt n).toNat, x) = _
  rw [byt_toNat, Nat.mod_eq_of_lt h]
theorem tkX_app (p : Px) (x : List UInt8) (h : pxOk p = true) (ht : tyX p) : tkX (pxX p ++ x) = (p, x) := by
  have ho := h
  unfold pxOk at ho
  simp only [Bool.and_eq_true, decide_eq_true_eq] at ho
  obtain ⟨ha, ⟨hb0, hb1⟩, _⟩ := ho
  have hb2 : p.bits ≤ 128 := by unfold wid at hb1; split at hb1 <;> omega
  obtain ⟨b, hb⟩ : ∃ b : Nat, p.bits = (b : Int) := ⟨p.bits.toNat, by omega⟩
  have e1 := tkA_app p.a (byI p.bits :: x) ha ht.1
  have e2 : tkC (byI p.bits :: x) = (b, x) := by rw [hb, byI_nat b (by omega)]; exact tkC_app b (by omega) x
  unfold tkX
  rw [show pxX p ++ x = adX p.a ++ byI p.bits :: x by simp [pxX], e1]
  simp only [e2]
  rw [← hb]
theorem tkT_app (s x : List UInt8) (h : nameOk s = true) : tkT (txB s ++ x) = (s, x) := by
  unfold nameOk at h
  simp only [decide_eq_true_eq] at h
  obtain ⟨h1, h2, h3⟩ := tx_read s x h.2
  unfold tkT
  rw [h2, h3, List.drop_left]
theorem tkN_app (n : Nat) (h : n < 18446744073709551616) (x : List UInt8) : tkN (row n ++ x) = (n, x) := by
  obtain ⟨h1, h2, h3⟩ := read_row n h x
  unfold tkN
  rw [h2, h3, List.drop_left]
end Go.Proofs.YtcobfoiajdbahaaDoor.P
namespace Go.Proofs.YtcobfoiajdbahaaDoor.P
set_option linter.unusedVariables false
set_option linter.unusedSimpArgs false
structure Rw where
  a : Ad
  owner : List UInt8
  til : Nat
deriving DecidableEq
structure Ev where
  how : Int
  owner : List UInt8
  at' : Nat
  til : Nat
deriving DecidableEq
structure An where
  a : Ad
  owner : List UInt8
  til : Nat
  pool : Px
  has : Bool
  held : Bool
  live : Bool
  clock : Nat
  rows : List Rw
  events : List Ev
  pools : List Px
deriving DecidableEq
def noAn : An := ⟨noA, [], 0, noX, false, false, false, 0, [], [], []⟩
def tyR (r : Rw) : Prop := tyA r.a ∧ r.til < 18446744073709551616
def tyE (e : Ev) : Prop := (-9223372036854775808 ≤ e.how ∧ e.how ≤ 9223372036854775807) ∧ e.at' < 18446744073709551616 ∧ e.til < 18446744073709551616
def tyAn (a : An) : Prop := tyA a.a ∧ a.til < 18446744073709551616 ∧ tyX a.pool ∧ a.clock < 18446744073709551616 ∧ (∀ r ∈ a.rows, tyR r) ∧ (∀ e ∈ a.events, tyE e) ∧ (∀ p ∈ a.pools, tyX p)
/-! ### Bytes -/
def leB (o : List UInt8) (t : Nat) : List UInt8 := txB o ++ row t
def rwB (r : Rw) : List UInt8 := adX r.a ++ leB r.owner r.til
def evB (e : Ev) : List UInt8 := byI e.how :: (txB e.owner ++ (row e.at' ++ row e.til))
def lkN (a : An) : Nat := (if a.has then 1 else 0) + ((if a.held then 2 else 0) + (if a.live then 4 else 0))
def lkB (a : An) : List UInt8 := byt (lkN a) :: ((if a.has then pxX a.pool else []) ++ (if a.live then leB a.owner a.til else []))
def tailB (op : Nat) (a : An) : List UInt8 :=
  if 5 ≤ op ∧ op ≤ 7 then adX a.a ++ leB a.owner a.til else
  if op = 10 then lkB a else
  if op = 11 then byI (a.rows.length : Int) :: a.rows.flatMap rwB else
  if op = 12 then byI (a.events.length : Int) :: a.events.flatMap evB else
  if op = 13 ∨ op = 14 then byI (a.pools.length : Int) :: a.pools.flatMap pxX else
  if op = 15 then row a.clock else []
def tellB (op cl nu : Nat) (a : An) (e : Int) : List UInt8 := byI e :: (headB op cl nu ++ (if e = 0 then tailB op a else []))
/-! ### What may be told, what is told -/
def rwOk (r : Rw) : Bool := adOk r.a && nameOk r.owner
def evOk (e : Ev) : Bool := nameOk e.owner && decide (1 ≤ e.how ∧ e.how ≤ 4)
def mayA (op : Nat) (a : An) : Bool :=
  if 5 ≤ op ∧ op ≤ 7 then adOk a.a && nameOk a.owner else
  if op = 10 then (!a.has || pxOk a.pool) && (!a.live || nameOk a.owner) else
  if op = 11 then a.rows.all rwOk && decide (a.rows.length ≤ 16) else
  if op = 12 then a.events.all evOk && decide (a.events.length ≤ 16) else
  if op = 13 ∨ op = 14 then a.pools.all pxOk && decide (a.pools.length ≤ 16) else true
def toldA (op : Nat) (a : An) : An :=
  if 5 ≤ op ∧ op ≤ 7 then { noAn with a := a.a, owner := a.owner, til := a.til } else
  if op = 10 then { noAn with has := a.has, held := a.held, live := a.live, pool := if a.has then a.pool else noX, owner := if a.live then a.owner else [], til := if a.live then a.til else 0 } else
  if op = 11 then { noAn with rows := a.rows } else
  if op = 12 then { noAn with events := a.events } else
  if op = 13 ∨ op = 14 then { noAn with pools := a.pools } else
  if op = 15 then { noAn with clock := a.clock } else noAn
/-! ### Reading with a flag -/
def qRw (q : Qs) : Rw × Qs := (⟨(qA q).1, (qL (qA q).2).1.1, (qL (qA q).2).1.2⟩, (qL (qA q).2).2)
def qEv (q : Qs) : Ev × Qs :=
  let h := qB 1 4 q
  let o := qO h.2
  let a := qN o.2
  let u := qN a.2
  (⟨(h.1 : Int), o.1, a.1, u.1⟩, u.2)
def qList {α : Type} (f : Qs → α × Qs) : Nat → Qs → List α × Qs
  | 0, q => ([], q)
  | k + 1, q => ((qList f k q).1 ++ [(f (qList f k q).2).1], (f (qList f k q).2).2)
def qLk (q : Qs) : An × Qs :=
  let n := qB 0 7 q
  let has : Bool := n.1 % 2 == 1
  let held : Bool := n.1 / 2 % 2 == 1
  let live : Bool := n.1 / 4 % 2 == 1
  let x := if has then qX n.2 else (noX, n.2)
  let l := if live then qL x.2 else (([], 0), x.2)
  ({ noAn with has := has, held := held, live := live, pool := x.1, owner := l.1.1, til := l.1.2 }, l.2)
def qTold (op : Nat) (q : Qs) : An × Qs :=
  if 5 ≤ op ∧ op ≤ 7 then ({ noAn with a := (qA q).1, owner := (qL (qA q).2).1.1, til := (qL (qA q).2).1.2 }, (qL (qA q).2).2) else
  if op = 10 then qLk q else
  if op = 11 then ({ noAn with rows := (qList qRw (qB 0 16 q).1 (qB 0 16 q).2).1 }, (qList qRw (qB 0 16 q).1 (qB 0 16 q).2).2) else
  if op = 12 then ({ noAn with events := (qList qEv (qB 0 16 q).1 (qB 0 16 q).2).1 }, (qList qEv (qB 0 16 q).1 (qB 0 16 q).2).2) else
  if op = 13 ∨ op = 14 then ({ noAn with pools := (qList qX (qB 0 16 q).1 (qB 0 16 q).2).1 }, (qList qX (qB 0 16 q).1 (qB 0 16 q).2).2) else
  if op = 15 then ({ noAn with clock := (qN q).1 }, (qN q).2) else (noAn, q)
/-- What is heard: the error, the head, the answer, what is left. -/
def hearE (s : List UInt8) : Nat × Qs := qB 0 255 (s, false)
def hearH (s : List UInt8) : (Nat × Nat × Nat) × Qs := qH (hearE s).2
def hearT (s : List UInt8) : An × Qs := if (hearE s).1 = 0 then qTold (hearH s).1.1 ((hearH s).2.1, (hearH s).2.2 || !knownB (hearH s).1.1) else (noAn, (hearH s).2)
def hearOk (s : List UInt8) : Bool := !(hearT s).2.2 && decide ((hearT s).2.1 = [])
def hearC (s : List UInt8) : Ca := if hearOk s then headC (hearH s).1 else noC
def hearA (s : List UInt8) : An := if hearOk s then (hearT s).1 else noAn
def hearN (s : List UInt8) : Nat := if hearOk s then (hearE s).1 else 0
/-! ### What is told is heard, what is heard was told -/
theorem qL_app (o : List UInt8) (t : Nat) (x : List UInt8) (h : nameOk o = true) (ht : t < 18446744073709551616) : qL (leB o t ++ x, false) = ((o, t), (x, false)) := by
  unfold qL leB
  rw [List.append_assoc, qO_app o (row t ++ x) h]
  simp only [qN_row t ht x]
theorem qL_is {q : Qs} (h : (qL q).2.2 = false) : q.2 = false ∧ q.1 = leB (qL q).1.1 (qL q).1.2 ++ (qL q).2.1 ∧ nameOk (qL q).1.1 = true ∧ (qL q).1.2 < 18446744073709551616 := by
  unfold qL at *
  simp only at h ⊢
  obtain ⟨n1, n2, n3⟩ := qN_is h
  obtain ⟨o1, o2, o3⟩ := qO_is n1
  refine ⟨o1, ?_, o3, n3⟩
  unfold leB
  rw [List.append_assoc, ← n2]
  exact o2
theorem qRw_app (r : Rw) (x : List UInt8) (h : rwOk r = true) (ht : tyR r) : qRw (rwB r ++ x, false) = (r, (x, false)) := by
  unfold rwOk at h
  rw [Bool.and_eq_true] at h
  unfold qRw rwB
  rw [List.append_assoc, qA_app r.a _ h.1 ht.1]
  simp only
  rw [qL_app r.owner r.til x h.2 ht.2]
theorem qRw_is {q : Qs} (h : (qRw q).2.2 = false) : q.2 = false ∧ q.1 = rwB (qRw q).1 ++ (qRw q).2.1 ∧ rwOk (qRw q).1 = true ∧ tyR (qRw q).1 := by
  unfold qRw at *
  simp only at h ⊢
  obtain ⟨l1, l2, l3, l4⟩ := qL_is h
  obtain ⟨a1, a2, a3, a4⟩ := qA_is l1
  refine ⟨a1, ?_, by unfold rwOk; rw [a3, l3]; rfl, a4, l4⟩
  unfold rwB
  rw [List.append_assoc, ← l2]
  exact a2
theorem qEv_app (e : Ev) (x : List UInt8) (h : evOk e = true) (ht : tyE e) : qEv (evB e ++ x, false) = (e, (x, false)) := by
  obtain ⟨how, owner, at', til⟩ := e
  unfold evOk at h
  simp only [Bool.and_eq_true, decide_eq_true_eq] at h
  obtain ⟨m, hm⟩ : ∃ m : Nat, how = (m : Int) := ⟨how.toNat, by omega⟩
  subst hm
  have e1 := qB_app 1 4 m (by omega) (by omega) (by omega) (txB owner ++ (row at' ++ (row til ++ x)))
  unfold qEv evB
  simp only [List.cons_append, List.append_assoc]
  rw [byI_nat m (by omega), e1]
  simp only
  rw [qO_app owner _ h.1]
  simp only
  rw [qN_row at' ht.2.1]
  simp only
  rw [qN_row til ht.2.2]
theorem qEv_is {q : Qs} (h : (qEv q).2.2 = false) : q.2 = false ∧ q.1 = evB (qEv q).1 ++ (qEv q).2.1 ∧ evOk (qEv q).1 = true ∧ tyE (qEv q).1 := by
  unfold qEv at *
  simp only at h ⊢
  obtain ⟨u1, u2, u3⟩ := qN_is h
  obtain ⟨a1, a2, a3⟩ := qN_is u1
  obtain ⟨o1, o2, o3⟩ := qO_is a1
  obtain ⟨b1, b2, b3, b4, b5⟩ := qB_is o1
  refine ⟨b1, ?_, by unfold evOk; simp only [o3, Bool.true_and, decide_eq_true_eq]; omega, ⟨⟨by simp only; omega, by simp only; omega⟩, a3, u3⟩⟩
  unfold evB
  simp only [List.cons_append, List.append_assoc]
  rw [← u2, ← a2, ← o2, byI_nat _ b5]
  exact b2
theorem qList_app {α : Type} (f : Qs → α × Qs) (g : α → List UInt8) (l : List α) (hf : ∀ b ∈ l, ∀ x, f (g b ++ x, false) = (b, (x, false))) : ∀ k, k ≤ l.length → ∀ x, qList f k ((l.take k).flatMap g ++ x, false) = (l.take k, (x, false))
  | 0, _, x => by simp [qList]
  | k + 1, hk, x => by
    have hlt : k < l.length := by omega
    have e : l.take (k + 1) = l.take k ++ [l[k]] := by rw [List.take_add_one, List.getElem?_eq_getElem hlt]; rfl
    have ih := qList_app f g l hf k (by omega) (g l[k] ++ x)
    have e2 : (l.take (k + 1)).flatMap g ++ x = (l.take k).flatMap g ++ (g l[k] ++ x) := by rw [e, List.flatMap_append]; simp
    unfold qList
    rw [e2, ih]
    simp only
    rw [hf _ (List.getElem_mem hlt), e]
theorem qList_all {α : Type} (f : Qs → α × Qs) (g : α → List UInt8) (l : List α) (hf : ∀ b ∈ l, ∀ x, f (g b ++ x, false) = (b, (x, false))) (x : List UInt8) : qList f l.length (l.flatMap g ++ x, false) = (l, (x, false)) := by
  have h := qList_app f g l hf l.length (Nat.le_refl _) x
  rwa [List.take_length] at h
theorem qList_is {α : Type} (f : Qs → α × Qs) (g : α → List UInt8) (ok : α → Prop) (hf : ∀ q, (f q).2.2 = false → q.2 = false ∧ q.1 = g (f q).1 ++ (f q).2.1 ∧ ok (f q).1) : ∀ k q, (qList f k q).2.2 = false → q.2 = false ∧ q.1 = (qList f k q).1.flatMap g ++ (qList f k q).2.1 ∧ (∀ b ∈ (qList f k q).1, ok b)
  | 0, q, h => ⟨h, by simp [qList], by simp [qList]⟩
  | k + 1, q, h => by
    unfold qList at h ⊢
    simp only at h ⊢
    obtain ⟨h1, h2, h3⟩ := hf _ h
    obtain ⟨i1, i2, i3⟩ := qList_is f g ok hf k q h1
    refine ⟨i1, ?_, fun b hb => ?_⟩
    · rw [List.flatMap_append, List.append_assoc]
      simp only [List.flatMap_cons, List.flatMap_nil, List.append_nil]
      rw [← h2]
      exact i2
    · rcases List.mem_append.1 hb with hb | hb
      · exact i3 b hb
      · obtain rfl := List.mem_singleton.1 hb
        exact h3
theorem qList_len {α : Type} (f : Qs → α × Qs) : ∀ k q, (qList f k q).1.length = k
  | 0, q => rfl
  | k + 1, q => by unfold qList; rw [List.length_append, qList_len f k q]; rfl
theorem lkN_lt (a : An) : lkN a < 8 := by unfold lkN; cases a.has <;> cases a.held <;> cases a.live <;> decide
theorem lkN_bits (a : An) : (lkN a % 2 == 1) = a.has ∧ (lkN a / 2 % 2 == 1) = a.held ∧ (lkN a / 4 % 2 == 1) = a.live := by
  unfold lkN; cases a.has <;> cases a.held <;> cases a.live <;> decide
theorem lkN_of : ∀ n : Nat, n < 8 → (if (n % 2 == 1) = true then 1 else 0) + ((if (n / 2 % 2 == 1) = true then 2 else 0) + (if (n / 4 % 2 == 1) = true then 4 else 0)) = n := by decide
theorem qLk_app (a : An) (x : List UInt8) (h : mayA 10 a = true) (ht : tyAn a) : qLk (lkB a ++ x, false) = (toldA 10 a, (x, false)) := by
  have h' : (!a.has || pxOk a.pool) = true ∧ (!a.live || nameOk a.owner) = true := by
    have : mayA 10 a = ((!a.has || pxOk a.pool) && (!a.live || nameOk a.owner)) := rfl
    rw [this] at h
    rwa [Bool.and_eq_true] at h
  have ht' : toldA 10 a = { noAn with has := a.has, held := a.held, live := a.live, pool := if a.has then a.pool else noX, owner := if a.live then a.owner else [], til := if a.live then a.til else 0 } := rfl
  rw [ht']
  obtain ⟨k1, k2, k3⟩ := lkN_bits a
  have hlt := lkN_lt a
  have e1 := qB_app 0 7 (lkN a) (by omega) (by omega) (by omega) ((if a.has then pxX a.pool else []) ++ (if a.live then leB a.owner a.til else []) ++ x)
  unfold qLk lkB
  simp only [List.cons_append]
  rw [e1]
  simp only [k1, k2, k3]
  obtain ⟨h1, h2⟩ := h'
  cases hh : a.has with
  | true =>
    rw [hh] at h1
    simp only [if_true, Bool.not_true, Bool.false_or] at h1 ⊢
    rw [List.append_assoc, qX_app a.pool _ h1 ht.2.2.1]
    simp only
    cases hl : a.live with
    | true =>
      rw [hl] at h2
      simp only [if_true, Bool.not_true, Bool.false_or] at h2 ⊢
      rw [qL_app a.owner a.til x h2 ht.2.1]
    | false => simp
  | false =>
    simp only [Bool.false_eq_true, if_false, List.nil_append]
    cases hl : a.live with
    | true =>
      rw [hl] at h2
      simp only [if_true, Bool.not_true, Bool.false_or] at h2 ⊢
      rw [qL_app a.owner a.til x h2 ht.2.1]
    | false => simp
theorem ty_noA : tyA noA := ⟨by decide, by decide, by decide⟩
theorem ty_noX : tyX noX := ⟨ty_noA, by decide, by decide⟩
theorem ty_noAn : tyAn noAn := ⟨ty_noA, by decide, ty_noX, by decide, by simp [noAn], by simp [noAn], by simp [noAn]⟩
theorem qLk_is {q : Qs} (h : (qLk q).2.2 = false) : q.2 = false ∧ q.1 = lkB (qLk q).1 ++ (qLk q).2.1 ∧ mayA 10 (qLk q).1 = true ∧ toldA 10 (qLk q).1 = (qLk q).1 ∧ tyAn (qLk q).1 := by
  have hm : ∀ a, mayA 10 a = ((!a.has || pxOk a.pool) && (!a.live || nameOk a.owner)) := fun a => rfl
  have ht : ∀ a, toldA 10 a = { noAn with has := a.has, held := a.held, live := a.live, pool := if a.has then a.pool else noX, owner := if a.live then a.owner else [], til := if a.live then a.til else 0 } := fun a => rfl
  unfold qLk at *
  simp only at h ⊢
  cases hh : ((qB 0 7 q).1 % 2 == 1) with
  | true =>
    rw [hh] at h
    simp only [if_true] at h ⊢
    cases hl : ((qB 0 7 q).1 / 4 % 2 == 1) with
    | true =>
      rw [hl] at h
      simp only [if_true] at h ⊢
      obtain ⟨l1, l2, l3, l4⟩ := qL_is h
      obtain ⟨x1, x2, x3, x4⟩ := qX_is l1
      obtain ⟨b1, b2, b3, b4, b5⟩ := qB_is x1
      have hn := lkN_of (qB 0 7 q).1 (by omega)
      rw [hh, hl] at hn
      refine ⟨b1, ?_, by rw [hm]; simp [x3, l3], by rw [ht]; simp, ty_noA, l4, x4, by show (0:Nat) < _; decide, by simp [noAn], by simp [noAn], by simp [noAn]⟩
      unfold lkB lkN
      simp only [if_true] at hn ⊢
      rw [hn]
      simp only [List.cons_append, List.append_assoc]
      rw [← l2, ← x2]
      exact b2
    | false =>
      rw [hl] at h
      simp only [Bool.false_eq_true, if_false] at h ⊢
      obtain ⟨x1, x2, x3, x4⟩ := qX_is h
      obtain ⟨b1, b2, b3, b4, b5⟩ := qB_is x1
      have hn := lkN_of (qB 0 7 q).1 (by omega)
      rw [hh, hl] at hn
      refine ⟨b1, ?_, by rw [hm]; simp [x3], by rw [ht]; simp, ty_noA, by show (0:Nat) < _; decide, x4, by show (0:Nat) < _; decide, by simp [noAn], by simp [noAn], by simp [noAn]⟩
      unfold lkB lkN
      simp only [if_true, Bool.false_eq_true, if_false] at hn ⊢
      rw [hn]
      simp only [List.cons_append, List.append_nil]
      rw [← x2]
      exact b2
  | false =>
    rw [hh] at h
    simp only [Bool.false_eq_true, if_false] at h ⊢
    cases hl : ((qB 0 7 q).1 / 4 % 2 == 1) with
    | true =>
      rw [hl] at h
      simp only [if_true] at h ⊢
      obtain ⟨l1, l2, l3, l4⟩ := qL_is h
      obtain ⟨b1, b2, b3, b4, b5⟩ := qB_is l1
      have hn := lkN_of (qB 0 7 q).1 (by omega)
      rw [hh, hl] at hn
      refine ⟨b1, ?_, by rw [hm]; simp [l3], by rw [ht]; simp, ty_noA, l4, ty_noX, by show (0:Nat) < _; decide, by simp [noAn], by simp [noAn], by simp [noAn]⟩
      unfold lkB lkN
      simp only [if_true, Bool.false_eq_true, if_false] at hn ⊢
      rw [hn]
      simp only [List.cons_append, List.nil_append]
      rw [← l2]
      exact b2
    | false =>
      rw [hl] at h
      simp only [Bool.false_eq_true, if_false] at h ⊢
      obtain ⟨b1, b2, b3, b4, b5⟩ := qB_is h
      have hn := lkN_of (qB 0 7 q).1 (by omega)
      rw [hh, hl] at hn
      refine ⟨b1, ?_, by rw [hm]; simp, by rw [ht]; simp, ty_noA, by show (0:Nat) < _; decide, ty_noX, by show (0:Nat) < _; decide, by simp [noAn], by simp [noAn], by simp [noAn]⟩
      unfold lkB lkN
      simp only [Bool.false_eq_true, if_false] at hn ⊢
      rw [hn]
      simp only [List.cons_append, List.nil_append]
      exact b2
/-- Lists: what is told of one is read. -/
theorem qMany_app {α : Type} (f : Qs → α × Qs) (g : α → List UInt8) (l : List α) (hl : l.length ≤ 16) (hf : ∀ b ∈ l, ∀ x, f (g b ++ x, false) = (b, (x, false))) (x : List UInt8) :
    qList f (qB 0 16 (byI (l.length : Int) :: (l.flatMap g ++ x), false)).1 (qB 0 16 (byI (l.length : Int) :: (l.flatMap g ++ x), false)).2 = (l, (x, false)) := by
  rw [byI_nat _ (by omega), qB_app 0 16 l.length (by omega) hl (by omega)]
  exact qList_all f g l hf x
theorem qMany_is {α : Type} (f : Qs → α × Qs) (g : α → List UInt8) (ok : α → Prop) (hf : ∀ q, (f q).2.2 = false → q.2 = false ∧ q.1 = g (f q).1 ++ (f q).2.1 ∧ ok (f q).1) {q : Qs} (h : (qList f (qB 0 16 q).1 (qB 0 16 q).2).2.2 = false) :
    q.2 = false ∧ q.1 = byI ((qList f (qB 0 16 q).1 (qB 0 16 q).2).1.length : Int) :: ((qList f (qB 0 16 q).1 (qB 0 16 q).2).1.flatMap g ++ (qList f (qB 0 16 q).1 (qB 0 16 q).2).2.1) ∧ (qList f (qB 0 16 q).1 (qB 0 16 q).2).1.length ≤ 16 ∧ ∀ b ∈ (qList f (qB 0 16 q).1 (qB 0 16 q).2).1, ok b := by
  obtain ⟨i1, i2, i3⟩ := qList_is f g ok hf _ _ h
  obtain ⟨b1, b2, b3, b4, b5⟩ := qB_is i1
  rw [qList_len]
  refine ⟨b1, ?_, b4, i3⟩
  rw [byI_nat _ b5, ← i2]
  exact b2
theorem told_app (op : Nat) (a : An) (x : List UInt8) (h : mayA op a = true) (ht : tyAn a) : qTold op (tailB op a ++ x, false) = (toldA op a, (x, false)) := by
  obtain ⟨t1, t2, t3, t4, t5, t6, t7⟩ := ht
  by_cases h57 : 5 ≤ op ∧ op ≤ 7
  · unfold qTold tailB toldA
    unfold mayA at h
    rw [if_pos h57, Bool.and_eq_true] at h
    rw [if_pos h57, if_pos h57, if_pos h57, List.append_assoc, qA_app a.a _ h.1 t1]
    simp only
    rw [qL_app a.owner a.til x h.2 t2]
  by_cases h10 : op = 10
  · subst h10
    exact qLk_app a x h ⟨t1, t2, t3, t4, t5, t6, t7⟩
  by_cases h11 : op = 11
  · subst h11
    have hm : (a.rows.all rwOk && decide (a.rows.length ≤ 16)) = true := h
    simp only [Bool.and_eq_true, List.all_eq_true, decide_eq_true_eq] at hm
    have e := qMany_app qRw rwB a.rows hm.2 (fun b hb x => qRw_app b x (hm.1 b hb) (t5 b hb)) x
    show ({ noAn with rows := (qList qRw (qB 0 16 (byI (a.rows.length : Int) :: (a.rows.flatMap rwB ++ x), false)).1 (qB 0 16 (byI (a.rows.length : Int) :: (a.rows.flatMap rwB ++ x), false)).2).1 }, (qList qRw (qB 0 16 (byI (a.rows.length : Int) :: (a.rows.flatMap rwB ++ x), false)).1 (qB 0 16 (byI (a.rows.length : Int) :: (a.rows.flatMap rwB ++ x), false)).2).2) = _
    rw [e]
    rfl
  by_cases h12 : op = 12
  · subst h12
    have hm : (a.events.all evOk && decide (a.events.length ≤ 16)) = true := h
    simp only [Bool.and_eq_true, List.all_eq_true, decide_eq_true_eq] at hm
    have e := qMany_app qEv evB a.events hm.2 (fun b hb x => qEv_app b x (hm.1 b hb) (t6 b hb)) x
    show ({ noAn with events := (qList qEv (qB 0 16 (byI (a.events.length : Int) :: (a.events.flatMap evB ++ x), false)).1 (qB 0 16 (byI (a.events.length : Int) :: (a.events.flatMap evB ++ x), false)).2).1 }, (qList qEv (qB 0 16 (byI (a.events.length : Int) :: (a.events.flatMap evB ++ x), false)).1 (qB 0 16 (byI (a.events.length : Int) :: (a.events.flatMap evB ++ x), false)).2).2) = _
    rw [e]
    rfl
  by_cases h13 : op = 13 ∨ op = 14
  · have hm : (a.pools.all pxOk && decide (a.pools.length ≤ 16)) = true := by unfold mayA at h; rwa [if_neg h57, if_neg h10, if_neg h11, if_neg h12, if_pos h13] at h
    simp only [Bool.and_eq_true, List.all_eq_true, decide_eq_true_eq] at hm
    have e := qMany_app qX pxX a.pools hm.2 (fun b hb x => qX_app b x (hm.1 b hb) (t7 b hb)) x
    unfold qTold tailB toldA
    simp only [if_neg h57, if_neg h10, if_neg h11, if_neg h12, if_pos h13, List.cons_append]
    rw [e]
  by_cases h15 : op = 15
  · subst h15
    show ({ noAn with clock := (qN (row a.clock ++ x, false)).1 }, (qN (row a.clock ++ x, false)).2) = _
    rw [qN_row a.clock t4]
    rfl
  · unfold qTold tailB toldA
    simp only [if_neg h57, if_neg h10, if_neg h11, if_neg h12, if_neg h13, if_neg h15, List.nil_append]
theorem told_is {op : Nat} {q : Qs} (h : (qTold op q).2.2 = false) : q.2 = false ∧ q.1 = tailB op (qTold op q).1 ++ (qTold op q).2.1 ∧ mayA op (qTold op q).1 = true ∧ toldA op (qTold op q).1 = (qTold op q).1 ∧ tyAn (qTold op q).1 := by
  by_cases h57 : 5 ≤ op ∧ op ≤ 7
  · unfold qTold tailB toldA mayA at *
    simp only [if_pos h57] at h ⊢
    obtain ⟨l1, l2, l3, l4⟩ := qL_is h
    obtain ⟨a1, a2, a3, a4⟩ := qA_is l1
    refine ⟨a1, ?_, by rw [a3, l3]; rfl, by trivial, a4, l4, ty_noX, by show (0:Nat) < _; decide, by simp [noAn], by simp [noAn], by simp [noAn]⟩
    rw [List.append_assoc, ← l2]
    exact a2
  by_cases h10 : op = 10
  · subst h10
    exact qLk_is h
  by_cases h11 : op = 11
  · subst h11
    obtain ⟨m1, m2, m3, m4⟩ := qMany_is qRw rwB (fun b => rwOk b = true ∧ tyR b) (fun q h => qRw_is h) (q := q) h
    refine ⟨m1, m2, ?_, rfl, ty_noA, by show (0:Nat) < _; decide, ty_noX, by show (0:Nat) < _; decide, fun b hb => (m4 b hb).2, fun b hb => (by cases hb), fun b hb => (by cases hb)⟩
    show ((qList qRw (qB 0 16 q).1 (qB 0 16 q).2).1.all rwOk && decide ((qList qRw (qB 0 16 q).1 (qB 0 16 q).2).1.length ≤ 16)) = true
    simp only [Bool.and_eq_true, List.all_eq_true, decide_eq_true_eq]
    exact ⟨fun b hb => (m4 b hb).1, m3⟩
  by_cases h12 : op = 12
  · subst h12
    obtain ⟨m1, m2, m3, m4⟩ := qMany_is qEv evB (fun b => evOk b = true ∧ tyE b) (fun q h => qEv_is h) (q := q) h
    refine ⟨m1, m2, ?_, rfl, ty_noA, by show (0:Nat) < _; decide, ty_noX, by show (0:Nat) < _; decide, fun b hb => (by cases hb), fun b hb => (m4 b hb).2, fun b hb => (by cases hb)⟩
    show ((qList qEv (qB 0 16 q).1 (qB 0 16 q).2).1.all evOk && decide ((qList qEv (qB 0 16 q).1 (qB 0 16 q).2).1.length ≤ 16)) = true
    simp only [Bool.and_eq_true, List.all_eq_true, decide_eq_true_eq]
    exact ⟨fun b hb => (m4 b hb).1, m3⟩
  by_cases h13 : op = 13 ∨ op = 14
  · unfold qTold at h
    simp only [if_neg h57, if_neg h10, if_neg h11, if_neg h12, if_pos h13] at h
    obtain ⟨m1, m2, m3, m4⟩ := qMany_is qX pxX (fun b => pxOk b = true ∧ tyX b) (fun q h => qX_is h) (q := q) h
    unfold qTold tailB toldA mayA
    simp only [if_neg h57, if_neg h10, if_neg h11, if_neg h12, if_pos h13, List.cons_append]
    refine ⟨m1, m2, ?_, by trivial, ty_noA, by show (0:Nat) < _; decide, ty_noX, by show (0:Nat) < _; decide, fun b hb => (by cases hb), fun b hb => (by cases hb), fun b hb => (m4 b hb).2⟩
    simp only [Bool.and_eq_true, List.all_eq_true, decide_eq_true_eq]
    exact ⟨fun b hb => (m4 b hb).1, m3⟩
  by_cases h15 : op = 15
  · subst h15
    obtain ⟨n1, n2, n3⟩ := qN_is (q := q) h
    exact ⟨n1, n2, rfl, rfl, ty_noA, by show (0:Nat) < _; decide, ty_noX, n3, fun b hb => (by cases hb), fun b hb => (by cases hb), fun b hb => (by cases hb)⟩
  · unfold qTold tailB toldA mayA at *
    simp only [if_neg h57, if_neg h10, if_neg h11, if_neg h12, if_neg h13, if_neg h15, List.nil_append] at h ⊢
    exact ⟨h, trivial, trivial, trivial, ty_noAn⟩
theorem told_keep (op : Nat) (q : Qs) (h : q.2 = true) : (qTold op q).2.2 = true := by
  cases h' : (qTold op q).2.2 with
  | true => rfl
  | false => rw [(told_is h').1] at h; cases h
end Go.Proofs.YtcobfoiajdbahaaDoor.P
namespace Go.Proofs.YtcobfoiajdbahaaDoor.P
set_option linter.unusedVariables false
set_option linter.unusedSimpArgs false
theorem tText_len (s : List UInt8) (k : Nat) : (tText s (k : Int)).length ≤ k := by
  unfold tText
  by_cases h : tOk s (k : Int) = true
  · rw [if_pos h]
    unfold tOk at h
    simp only [Bool.and_eq_true, decide_eq_true_eq] at h
    rw [List.length_take]
    omega
  · rw [if_neg h]; simp
theorem qO_len (q : Qs) : (qO q).1.length ≤ 32 := tText_len q.1 32
theorem qH_ty (q : Qs) : (qH q).1.1 < 256 ∧ (qH q).1.2.1 < 256 ∧ (qH q).1.2.2 < 18446744073709551616 := ⟨qB_lt _ _ _, qB_lt _ _ _, bigNum_lt _⟩
theorem qF_le (c : Ca) (q : Qs) (i : Nat) : (qF c q i).2.1.length ≤ q.1.length := by
  match i with
  | 0 => exact qX_le q
  | 1 => exact qA_le q
  | 2 => exact qO_le q
  | 3 => exact qO_le q
  | 4 => exact qN_le q
  | 5 => exact qN_le q
  | 6 => exact qB_le 1 16 q
  | n + 7 => exact Nat.le_refl _
theorem qF_tyC (c : Ca) (q : Qs) (i : Nat) (h : tyC c) : tyC (qF c q i).1 := by
  obtain ⟨t1, t2, t3, t4, t5, t6, t7, t8, t9⟩ := h
  match i with
  | 0 => exact ⟨t1, t2, t3, qX_ty q, t5, t6, t7, t8, t9⟩
  | 1 => exact ⟨t1, t2, t3, t4, qA_ty q, t6, t7, t8, t9⟩
  | 2 => exact ⟨t1, t2, t3, t4, t5, t6, t7, t8, t9⟩
  | 3 => exact ⟨t1, t2, t3, t4, t5, t6, t7, t8, t9⟩
  | 4 => exact ⟨t1, t2, t3, t4, t5, qN_ty q, t7, t8, t9⟩
  | 5 => exact ⟨t1, t2, t3, t4, t5, t6, qN_ty q, t8, t9⟩
  | 6 => exact ⟨t1, t2, t3, t4, t5, t6, t7, by have := qB_lt 1 16 q; show _ ≤ ((qB 1 16 q).1 : Int); omega, by have := qB_lt 1 16 q; show ((qB 1 16 q).1 : Int) ≤ _; omega⟩
  | n + 7 => exact ⟨t1, t2, t3, t4, t5, t6, t7, t8, t9⟩
/-- Its texts are short. -/
def shC (c : Ca) : Prop := c.owner.length ≤ 32 ∧ c.to.length ≤ 32
theorem qF_sh (c : Ca) (q : Qs) (i : Nat) (h : shC c) : shC (qF c q i).1 := by
  match i with
  | 0 => exact h
  | 1 => exact h
  | 2 => exact ⟨qO_len q, h.2⟩
  | 3 => exact ⟨h.1, qO_len q⟩
  | 4 => exact h
  | 5 => exact h
  | 6 => exact h
  | n + 7 => exact h
theorem qFs_all (op : Nat) (r : Ca × Qs) (h : tyC r.1) (hs : shC r.1) : ∀ k, (qFs op r k).2.1.length ≤ r.2.1.length ∧ tyC (qFs op r k).1 ∧ shC (qFs op r k).1
  | 0 => ⟨Nat.le_refl _, h, hs⟩
  | k + 1 => by
    obtain ⟨h1, h2, h3⟩ := qFs_all op r h hs k
    rw [qFs_succ]
    unfold qStep
    by_cases hu : use op k = true
    · rw [if_pos hu]
      exact ⟨Nat.le_trans (qF_le _ _ _) h1, qF_tyC _ _ _ h2, qF_sh _ _ _ h3⟩
    · rw [if_neg hu]
      exact ⟨h1, h2, h3⟩
theorem headC_ty {h : Nat × Nat × Nat} (ht : h.1 < 256 ∧ h.2.1 < 256 ∧ h.2.2 < 18446744073709551616) : tyC (headC h) ∧ shC (headC h) :=
  ⟨⟨ht.1, ht.2.1, ht.2.2, ty_noX, ty_noA, by show (0:Nat) < _; decide, by show (0:Nat) < _; decide, by show _ ≤ (0:Int); decide, by show (0:Int) ≤ _; decide⟩, by show ([]:List UInt8).length ≤ 32; decide, by show ([]:List UInt8).length ≤ 32; decide⟩
/-- The document's taking keeps the types too. -/
theorem tkA_ty (s : List UInt8) : tyA (tkA s).1 := by
  unfold tkA
  simp only
  split <;> (try split) <;> (try split) <;> first | exact ty_noA | exact fromB_ty _ _
theorem tkC_lt (s : List UInt8) : (tkC s).1 < 256 := by
  unfold tkC
  split
  · exact Nat.zero_lt_succ _
  · exact at_lt _ _
theorem tkX_ty (s : List UInt8) : tyX (tkX s).1 := ⟨tkA_ty s, by have := tkC_lt (tkA s).2; show _ ≤ ((tkC (tkA s).2).1 : Int); omega, by have := tkC_lt (tkA s).2; show ((tkC (tkA s).2).1 : Int) ≤ _; omega⟩
/-! ### What is told is heard -/
def hearOkE (op : Nat) (e : Int) : Bool := decide (e ≠ 0) || knownB op
theorem hear_app (op cl nu : Nat) (a : An) (e : Int) (x : List UInt8) (h1 : op < 256) (h2 : cl < 256) (h3 : nu < 18446744073709551616) (ht : tyAn a) (he : 0 ≤ e ∧ e ≤ 255) (hm : e = 0 → mayA op a = true) :
    hearOk (tellB op cl nu a e ++ x) = (hearOkE op e && decide (x = [])) ∧ hearH (tellB op cl nu a e ++ x) = ((op, cl, nu), ((if e = 0 then tailB op a else []) ++ x, false)) ∧ (hearE (tellB op cl nu a e ++ x)).1 = e.toNat ∧ (hearOkE op e = true → (hearT (tellB op cl nu a e ++ x)).1 = if e = 0 then toldA op a else noAn) := by
  obtain ⟨m, rfl⟩ : ∃ m : Nat, e = (m : Int) := ⟨e.toNat, by omega⟩
  have e1 : hearE (tellB op cl nu a (m : Int) ++ x) = (m, (headB op cl nu ++ ((if (m : Int) = 0 then tailB op a else []) ++ x), false)) := by
    unfold hearE tellB
    rw [byI_nat m (by omega), List.cons_append, List.append_assoc]
    exact qB_app 0 255 m (by omega) (by omega) (by omega) _
  have e2 : hearH (tellB op cl nu a (m : Int) ++ x) = ((op, cl, nu), ((if (m : Int) = 0 then tailB op a else []) ++ x, false)) := by
    unfold hearH
    rw [e1]
    exact qH_app op cl nu h1 h2 h3 _
  refine ⟨?_, e2, by rw [e1]; rfl, ?_⟩
  · unfold hearOk hearT hearOkE
    rw [e1, e2]
    by_cases h0 : m = 0
    · subst h0
      simp only [if_true, Int.ofNat_zero, Int.natCast_zero, ne_eq, not_true_eq_false, decide_false, Bool.false_or]
      cases hk : knownB op with
      | true =>
        rw [show (!true) = false from rfl, told_app op a x (hm (by simp)) ht]
        simp
      | false =>
        have := told_keep op (tailB op a ++ x, !false) rfl
        rw [this]
        rfl
    · have hi : ¬ (m : Int) = 0 := by omega
      simp [h0, hi]
  · intro hk
    unfold hearT
    rw [e1, e2]
    by_cases h0 : m = 0
    · subst h0
      unfold hearOkE at hk
      simp only [Int.ofNat_zero, Int.natCast_zero, ne_eq, not_true_eq_false, decide_false, Bool.false_or] at hk
      simp only [if_true, hk, Int.natCast_zero]
      rw [show (false || !true) = false from rfl, told_app op a x (hm (by simp)) ht]
    · have hi : ¬ (m : Int) = 0 := by omega
      simp [h0, hi]
/-- What is heard was told, as it is told again. -/
theorem hear_is {s : List UInt8} (h : hearOk s = true) :
    s = tellB (hearH s).1.1 (hearH s).1.2.1 (hearH s).1.2.2 (hearT s).1 ((hearE s).1 : Int) ∧ (hearE s).1 < 256 ∧ tyAn (hearT s).1 ∧ hearOkE (hearH s).1.1 ((hearE s).1 : Int) = true ∧ ((hearE s).1 = 0 → mayA (hearH s).1.1 (hearT s).1 = true ∧ toldA (hearH s).1.1 (hearT s).1 = (hearT s).1) ∧ ((hearE s).1 ≠ 0 → (hearT s).1 = noAn) := by
  unfold hearOk at h
  simp only [Bool.and_eq_true, Bool.not_eq_true', decide_eq_true_eq] at h
  obtain ⟨h1, h2⟩ := h
  have hlt : (hearE s).1 < 256 := qB_lt 0 255 (s, false)
  by_cases h0 : (hearE s).1 = 0
  · have hT : hearT s = qTold (hearH s).1.1 ((hearH s).2.1, (hearH s).2.2 || !knownB (hearH s).1.1) := by unfold hearT; rw [if_pos h0]
    rw [hT] at h1 h2 ⊢
    obtain ⟨t1, t2, t3, t4, t5⟩ := told_is h1
    simp only [Bool.or_eq_false_iff, Bool.not_eq_false'] at t1
    obtain ⟨b1, b2, b3⟩ := qH_is (q := (hearE s).2) t1.1
    obtain ⟨c1, c2, c3⟩ := qB_is (q := (s, false)) b1
    refine ⟨?_, hlt, t5, ?_, fun _ => ⟨t3, t4⟩, fun hn => absurd h0 hn⟩
    · rw [h2, List.append_nil] at t2
      unfold tellB
      rw [if_pos (by omega), ← t2, byI_nat _ hlt]
      exact c2.trans (congrArg _ b2)
    · unfold hearOkE
      rw [t1.2]
      simp
  · have hT : hearT s = (noAn, (hearH s).2) := by unfold hearT; rw [if_neg h0]
    rw [hT] at h1 h2 ⊢
    obtain ⟨b1, b2, b3⟩ := qH_is (q := (hearE s).2) h1
    obtain ⟨c1, c2, c3⟩ := qB_is (q := (s, false)) b1
    refine ⟨?_, hlt, ty_noAn, ?_, fun hn => absurd hn h0, fun _ => rfl⟩
    · have b2' : (hearE s).2.1 = headB (hearH s).1.1 (hearH s).1.2.1 (hearH s).1.2.2 ++ (hearH s).2.1 := b2
      rw [h2, List.append_nil] at b2'
      unfold tellB
      rw [if_neg (by omega), List.append_nil, ← b2', byI_nat _ hlt]
      exact c2
    · unfold hearOkE
      have : ((hearE s).1 : Int) ≠ 0 := by omega
      rw [decide_eq_true this]
      rfl
theorem hearH_ty (s : List UInt8) : (hearH s).1.1 < 256 ∧ (hearH s).1.2.1 < 256 ∧ (hearH s).1.2.2 < 18446744073709551616 := qH_ty _
end Go.Proofs.YtcobfoiajdbahaaDoor.P
namespace Go.Proofs.YtcobfoiajdbahaaDoor.P
open Go.Op (bytesLess)
theorem val_acc : ∀ (l : List UInt8) (k : Nat), l.foldl (fun a c => 256 * a + c.toNat) k = k * 256 ^ l.length + val l
  | [], k => by simp [val]
  | c :: l, k => by
    have h1 := val_acc l (256 * k + c.toNat)
    have h2 := val_acc l (256 * 0 + c.toNat)
    show l.foldl _ (256 * k + c.toNat) = k * 256 ^ (l.length + 1) + l.foldl _ (256 * 0 + c.toNat)
    rw [h1, h2, Nat.pow_succ, Nat.add_mul, Nat.add_mul, Nat.mul_comm 256 k, Nat.mul_assoc k, Nat.mul_comm 256 (256 ^ l.length)]
    omega
end Go.Proofs.YtcobfoiajdbahaaDoor.P
namespace Go.Proofs.YtcobfoiajdbahaaDoor.P
set_option linter.unusedVariables false
set_option linter.unusedSimpArgs false
theorem val_two (a b : List UInt8) : val (a ++ b) = val a * 256 ^ b.length + val b := by
  have h := val_acc b (val a)
  rw [← h]
  unfold val
  rw [List.foldl_append]
def hiV (n : Nat) : Nat := n / 18446744073709551616
def loV (n : Nat) : Nat := n % 18446744073709551616
theorem val_take_lt (s : List UInt8) (k : Nat) (hk : k ≤ 15) : val (s.take k) < 1329227995784915872903807060280344576 := by
  have h := val_lt (s.take k)
  have h2 : 256 ^ (s.take k).length ≤ 256 ^ 15 := Nat.pow_le_pow_right (by omega) (by rw [List.length_take]; omega)
  have h3 : (256 : Nat) ^ 15 = 1329227995784915872903807060280344576 := by decide
  omega
theorem half_next (s : List UInt8) (k : Nat) (hk : k < s.length) (h16 : s.length ≤ 16) :
    hiV (val (s.take (k + 1))) = 256 * hiV (val (s.take k)) + loV (val (s.take k)) / 72057594037927936 ∧ loV (val (s.take (k + 1))) = (256 * loV (val (s.take k)) + (s[k]).toNat) % 18446744073709551616 ∧
      hiV (val (s.take k)) < 72057594037927936 ∧ loV (val (s.take k)) < 18446744073709551616 := by
  have hl := val_take_lt s k (by omega)
  rw [List.take_succ_eq_append_getElem hk, val_snoc]
  have hc := (s[k]).toNat_lt
  generalize val (s.take k) = n at *
  generalize (s[k]).toNat = c at *
  unfold hiV loV
  omega
theorem from_four (s : List UInt8) (h : s.length = 4) : fromB 4 s = (⟨4, hiV (val s), loV (val s)⟩, true) := by
  have hv := val_lt s
  rw [h] at hv
  unfold fromB hiV loV
  rw [if_pos ⟨rfl, h⟩, Nat.div_eq_of_lt (by omega), Nat.mod_eq_of_lt (by omega)]
theorem from_six (s : List UInt8) (h : s.length = 16) : fromB 6 s = (⟨6, hiV (val s), loV (val s)⟩, true) := by
  have e2 : (s.drop 8).length = 8 := by rw [List.length_drop]; omega
  have hv := val_lt (s.drop 8)
  rw [e2] at hv
  have e := val_two (s.take 8) (s.drop 8)
  rw [List.take_append_drop, e2] at e
  unfold fromB hiV loV
  rw [if_neg (by simp), if_pos ⟨rfl, h⟩, e]
  have h3 : (256 : Nat) ^ 8 = 18446744073709551616 := by decide
  rw [h3] at hv ⊢
  generalize val (s.take 8) = a at *
  generalize val (s.drop 8) = b at *
  rw [show (a * 18446744073709551616 + b) / 18446744073709551616 = a by omega, show (a * 18446744073709551616 + b) % 18446744073709551616 = b by omega]
theorem hi_nil : hiV (val ([] : List UInt8)) = 0 ∧ loV (val ([] : List UInt8)) = 0 := ⟨rfl, rfl⟩
end Go.Proofs.YtcobfoiajdbahaaDoor.P
namespace Go.Proofs.YtcobfoiajdbahaaDoor.P
set_option linter.unusedVariables false
set_option linter.unusedSimpArgs false
theorem tkA_le (s : List UInt8) : (tkA s).2.length ≤ s.length := by
  unfold tkA
  simp only
  repeat' split
  all_goals simp
theorem tkC_le (s : List UInt8) : (tkC s).2.length ≤ s.length := by unfold tkC; split <;> simp
theorem tkX_le (s : List UInt8) : (tkX s).2.length ≤ s.length := Nat.le_trans (tkC_le _) (tkA_le s)
theorem tkT_le (s : List UInt8) : (tkT s).2.length ≤ s.length := by unfold tkT; simp
theorem tkN_le (s : List UInt8) : (tkN s).2.length ≤ s.length := by unfold tkN; simp
theorem tkT_len (s : List UInt8) : (tkT s).1.length ≤ 32 := tText_len s 32
theorem tkN_lt (s : List UInt8) : (tkN s).1 < 18446744073709551616 := rNum_lt s
end Go.Proofs.YtcobfoiajdbahaaDoor.P
