/- Plain law: texts as rows. No program here. -/
import Derived.Test.YtifpdmkadgchjaaPNum
namespace Go.Proofs.Ytifpdmkadgchjaa.P

/-- What is read of a text that begins with a text's row. -/
def tOk (s : List UInt8) (k : Int) : Bool := rOk s && decide (0 ≤ k ∧ (rNum s : Int) ≤ k ∧ rSize s + rNum s ≤ s.length)
def tText (s : List UInt8) (k : Int) : List UInt8 := if tOk s k then (s.drop (rSize s)).take (rNum s) else []
def tSize (s : List UInt8) (k : Int) : Nat := if tOk s k then rSize s + rNum s else 0
/-- A number of a width: the error's number, and the bytes. -/
def bigE (n : Nat) (k : Int) : Nat := if 1 ≤ k ∧ k ≤ 8 then (if dig n ≤ k.toNat then 0 else 3) else 1
def bigS (n : Nat) (k : Int) : List UInt8 := if bigE n k = 0 then be k.toNat n else []
theorem bigE_bad (n : Nat) (k : Int) (h : ¬ (1 ≤ k ∧ k ≤ 8)) : bigE n k = 1 ∧ bigS n k = [] := by
  have : bigE n k = 1 := by unfold bigE; rw [if_neg h]
  exact ⟨this, by unfold bigS; rw [this]; rfl⟩
theorem bigE_long (n m : Nat) (h1 : 1 ≤ m) (h8 : m ≤ 8) (h : m < dig n) : bigE n m = 3 ∧ bigS n m = [] := by
  have : bigE n m = 3 := by unfold bigE; rw [if_pos ⟨by omega, by omega⟩, if_neg (by omega)]
  exact ⟨this, by unfold bigS; rw [this]; rfl⟩
theorem bigE_ok (n m : Nat) (h1 : 1 ≤ m) (h8 : m ≤ 8) (h : dig n ≤ m) : bigE n m = 0 ∧ bigS n m = be m n := by
  have : bigE n m = 0 := by unfold bigE; rw [if_pos ⟨by omega, by omega⟩, if_pos (by omega)]
  exact ⟨this, by unfold bigS; rw [this]; rfl⟩
end Go.Proofs.Ytifpdmkadgchjaa.P
