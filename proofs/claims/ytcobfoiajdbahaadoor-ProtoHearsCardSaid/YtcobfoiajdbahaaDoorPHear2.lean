/- Plain law: what the document takes of an answer is of its Op alone, and small where it may be told; what its Hear tells. -/
import Derived.Test.YtcobfoiajdbahaaDoorPHear
namespace Go.Proofs.YtcobfoiajdbahaaDoor.P
set_option linter.unusedVariables false
set_option linter.unusedSimpArgs false
theorem tkTold_keep (op : Nat) (s : List UInt8) : toldA op (tkTold op s).1 = (tkTold op s).1 := by
  unfold tkTold toldA
  by_cases h57 : 5 ≤ op ∧ op ≤ 7
  · simp only [if_pos h57]; try rfl
  by_cases h10 : op = 10
  · simp only [if_neg h57, if_pos h10]
    unfold tkLk
    simp only
    cases hh : ((tkC s).1 % 2 == 1) <;> cases hl : ((tkC s).1 / 4 % 2 == 1) <;> simp [noAn, noX]
  by_cases h11 : op = 11
  · simp only [if_neg h57, if_neg h10, if_pos h11]
    try rfl
  by_cases h12 : op = 12
  · simp only [if_neg h57, if_neg h10, if_neg h11, if_pos h12]
    try rfl
  by_cases h13 : op = 13 ∨ op = 14
  · simp only [if_neg h57, if_neg h10, if_neg h11, if_neg h12, if_pos h13]
    try rfl
  by_cases h15 : op = 15
  · simp only [if_neg h57, if_neg h10, if_neg h11, if_neg h12, if_neg h13, if_pos h15]
    try rfl
  · simp only [if_neg h57, if_neg h10, if_neg h11, if_neg h12, if_neg h13, if_neg h15]
/-- Lists are of at most 16, where the answer may be told and is of its Op alone. -/
theorem may_lists {op : Nat} {a : An} (hm : mayA op a = true) (ht : toldA op a = a) : a.rows.length ≤ 16 ∧ a.events.length ≤ 16 ∧ a.pools.length ≤ 16 := by
  unfold toldA at ht
  unfold mayA at hm
  by_cases h57 : 5 ≤ op ∧ op ≤ 7
  · rw [if_pos h57] at ht; rw [← ht]; simp [noAn]
  rw [if_neg h57] at ht hm
  by_cases h10 : op = 10
  · rw [if_pos h10] at ht; rw [← ht]; simp [noAn]
  rw [if_neg h10] at ht hm
  by_cases h11 : op = 11
  · rw [if_pos h11, Bool.and_eq_true] at hm
    rw [if_pos h11] at ht
    have := of_decide_eq_true hm.2
    refine ⟨this, ?_, ?_⟩ <;> (rw [← ht]; simp [noAn])
  rw [if_neg h11] at ht hm
  by_cases h12 : op = 12
  · rw [if_pos h12, Bool.and_eq_true] at hm
    rw [if_pos h12] at ht
    have := of_decide_eq_true hm.2
    refine ⟨?_, this, ?_⟩ <;> (rw [← ht]; simp [noAn])
  rw [if_neg h12] at ht hm
  by_cases h13 : op = 13 ∨ op = 14
  · rw [if_pos h13, Bool.and_eq_true] at hm
    rw [if_pos h13] at ht
    have := of_decide_eq_true hm.2
    refine ⟨?_, ?_, this⟩ <;> (rw [← ht]; simp [noAn])
  rw [if_neg h13] at ht
  by_cases h15 : op = 15
  · rw [if_pos h15] at ht; rw [← ht]; simp [noAn]
  · rw [if_neg h15] at ht; rw [← ht]; simp [noAn]
theorem tkL_len (s : List UInt8) : (tkL s).1.1.length ≤ 32 := tkT_len s
theorem tkTold_own (op : Nat) (s : List UInt8) : (tkTold op s).1.owner.length ≤ 32 ∧ (∀ y ∈ (tkTold op s).1.rows, y.owner.length ≤ 32) ∧ (∀ y ∈ (tkTold op s).1.events, y.owner.length ≤ 32) := by
  unfold tkTold
  split
  · exact ⟨tkL_len _, by simp [noAn], by simp [noAn]⟩
  split
  · unfold tkLk
    simp only
    refine ⟨?_, by simp [noAn], by simp [noAn]⟩
    split
    · exact tkL_len _
    · simp
  split
  · exact ⟨by simp [noAn], tkList_ty tkRw (fun y => y.owner.length ≤ 32) (fun s => tkL_len _) _ _, by simp [noAn]⟩
  split
  · exact ⟨by simp [noAn], by simp [noAn], tkList_ty tkEv (fun y => y.owner.length ≤ 32) (fun s => tkT_len _) _ _⟩
  split
  · exact ⟨by simp [noAn], by simp [noAn], by simp [noAn]⟩
  split
  · exact ⟨by simp [noAn], by simp [noAn], by simp [noAn]⟩
  · exact ⟨by simp [noAn], by simp [noAn], by simp [noAn]⟩
/-- What the document's Hear tells. -/
def rhC (s : List UInt8) : Ca := if rhOk s then headC (rhH s) else noC
def rhA (s : List UInt8) : An := if rhOk s then (rhT s).1 else noAn
def rhN (s : List UInt8) : Nat := if rhOk s then rhE s else 0
theorem rh_hear (s : List UInt8) : rhOk s = hearOk s ∧ rhC s = hearC s ∧ rhA s = hearA s ∧ rhN s = hearN s := by
  have h := rh_is s
  unfold rhC rhA rhN hearC hearA hearN
  rw [h.1]
  cases ho : hearOk s with
  | false => exact ⟨rfl, rfl, rfl, rfl⟩
  | true =>
    obtain ⟨h1, h2, h3⟩ := h.2 ho
    simp only [if_true]
    exact ⟨trivial, by rw [h1], h2, h3⟩
end Go.Proofs.YtcobfoiajdbahaaDoor.P
