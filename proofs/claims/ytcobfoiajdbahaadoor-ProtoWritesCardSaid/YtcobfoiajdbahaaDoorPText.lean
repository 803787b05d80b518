/- Plain law: texts as rows. No program here. -/
import Derived.Test.YtcobfoiajdbahaaDoorPNum
namespace Go.Proofs.YtcobfoiajdbahaaDoor.P

/-- What is read of a text that begins with a text's row. -/
def tOk (s : List UInt8) (k : Int) : Bool := rOk s && decide (0 ≤ k ∧ (rNum s : Int) ≤ k ∧ rSize s + rNum s ≤ s.length)
def tText (s : List UInt8) (k : Int) : List UInt8 := if tOk s k then (s.drop (rSize s)).take (rNum s) else []
def tSize (s : List UInt8) (k : Int) : Nat := if tOk s k then rSize s + rNum s else 0
/-- A number of a width: the error's number, and the bytes. -/
def bigE (n : Nat) (k : Int) : Nat := if 1 ≤ k ∧ k ≤ 8 then (if dig n ≤ k.toNat then 0 else 3) else 1
def bigS (n : Nat) (k : Int) : List UInt8 := if bigE n k = 0 then be k.toNat n else []
theorem bigE_bad (n : Nat) (k : Int) (h : ¬ (1 ≤ k ∧ k ≤ 8)) : bigE n k = 1 ∧ bigS n k = [] := by
  have : bigE n k = 1 := by unfold bigE; rw [if_neg h]
  exact ⟨this, by unfold bigS; rw [this]; rfl⟩
theorem bigE_long (n m : Nat) (h1 : 1 ≤ m) (h8 : m ≤ 8) (h : m < dig n) : bigE n m = 3 ∧ bigS n m = [] := by
  have : bigE n m = 3 := by unfold bigE; rw [if_pos ⟨by omega, by omega⟩, if_neg (by omega)]
  exact ⟨this, by unfold bigS; rw [this]; rfl⟩
theorem bigE_ok (n m : Nat) (h1 : 1 ≤ m) (h8 : m ≤ 8) (h : dig n ≤ m) : bigE n m = 0 ∧ bigS n m = be m n := by
  have : bigE n m = 0 := by unfold bigE; rw [if_pos ⟨by omega, by omega⟩, if_pos (by omega)]
  exact ⟨this, by unfold bigS; rw [this]; rfl⟩
/-- Texts' rows. -/
def texts (ss : List (List UInt8)) : List UInt8 := (ss.map fun s => row s.length ++ s).flatten
theorem texts_snoc (ss : List (List UInt8)) (s : List UInt8) : texts (ss ++ [s]) = texts ss ++ (row s.length ++ s) := by simp [texts]
theorem texts_cons (s : List UInt8) (ss : List (List UInt8)) : texts (s :: ss) = row s.length ++ (s ++ texts ss) := by simp [texts]
/-- How many bytes texts have. -/
def total (ss : List (List UInt8)) : Nat := (ss.map List.length).sum
theorem total_cons (s : List UInt8) (ss : List (List UInt8)) : total (s :: ss) = s.length + total ss := by simp [total]
theorem total_snoc (ss : List (List UInt8)) (s : List UInt8) : total (ss ++ [s]) = total ss + s.length := by simp [total]
theorem texts_len : ∀ ss : List (List UInt8), (texts ss).length ≤ total ss + 9 * ss.length
  | [] => by simp [texts]
  | s :: ss => by
    have h := texts_len ss
    have h1 : (row s.length).length ≤ 9 := by rw [row_length]; have := behind_le s.length; omega
    rw [texts_cons, total_cons, List.length_append, List.length_append, List.length_cons]
    omega
theorem total_take : ∀ (ss : List (List UInt8)) (k : Nat), total (ss.take k) ≤ total ss
  | [], k => by simp
  | s :: ss, 0 => by simp [total]
  | s :: ss, k + 1 => by
    have := total_take ss k
    rw [List.take_succ_cons, total_cons, total_cons]
    omega
theorem mem_total : ∀ (ss : List (List UInt8)) (s : List UInt8), s ∈ ss → s.length ≤ total ss
  | t :: ss, s, h => by
    rw [total_cons]
    rcases List.mem_cons.1 h with rfl | h
    · omega
    · have := mem_total ss s h; omega
/-- Texts that statements do not go through. -/
def great (ss : List (List UInt8)) : Bool := decide (200 < ss.length ∨ 20000 < total ss)
theorem great_long (ss : List (List UInt8)) (h : 200 < ss.length) : great ss = true := decide_eq_true (.inl h)
theorem great_one (ss : List (List UInt8)) (s : List UInt8) (hs : s ∈ ss) (h : 20000 < s.length) : great ss = true := by
  have := mem_total ss s hs
  exact decide_eq_true (.inr (by omega))
end Go.Proofs.YtcobfoiajdbahaaDoor.P
