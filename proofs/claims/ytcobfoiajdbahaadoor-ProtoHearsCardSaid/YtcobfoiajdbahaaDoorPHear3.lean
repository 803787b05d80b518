/- Plain law: what the document hears has short lists where it may be told; so has what its Hear tells. -/
import Derived.Test.YtcobfoiajdbahaaDoorPHear2
namespace Go.Proofs.YtcobfoiajdbahaaDoor.P
set_option linter.unusedVariables false
set_option linter.unusedSimpArgs false
theorem rhT_small (s : List UInt8) (h : (decide (rhE s ≠ 0) || mayA (rhH s).1 (rhT s).1) = true) : (rhT s).1.rows.length ≤ 16 ∧ (rhT s).1.events.length ≤ 16 ∧ (rhT s).1.pools.length ≤ 16 := by
  unfold rhT at *
  by_cases he : rhE s = 0
  · rw [if_pos he] at *
    rw [decide_eq_false (by simp [he]), Bool.false_or] at h
    exact may_lists h (tkTold_keep _ _)
  · rw [if_neg he]
    simp [noAn]
theorem rhA_lists (s : List UInt8) : (rhA s).rows.length ≤ 16 ∧ (rhA s).events.length ≤ 16 ∧ (rhA s).pools.length ≤ 16 := by
  unfold rhA
  cases ho : rhOk s with
  | false => simp [noAn]
  | true =>
    simp only [if_true]
    unfold rhOk at ho
    simp only [Bool.and_eq_true] at ho
    exact rhT_small s ho.2.2.2.1
theorem hearA_lists (s : List UInt8) : (hearA s).rows.length ≤ 16 ∧ (hearA s).events.length ≤ 16 ∧ (hearA s).pools.length ≤ 16 := by
  rw [← (rh_hear s).2.2.1]
  exact rhA_lists s
theorem tkList_lenL {α : Type} (f : List UInt8 → α × List UInt8) : ∀ k s, (tkList f k s).1.length = k
  | 0, s => rfl
  | k + 1, s => by
    unfold tkList
    rw [List.length_append, tkList_lenL f k s]
    rfl
theorem tkTold_lists (op : Nat) (s : List UInt8) : (tkTold op s).1.rows.length ≤ 255 ∧ (tkTold op s).1.events.length ≤ 255 ∧ (tkTold op s).1.pools.length ≤ 255 := by
  have hc := tkC_lt s
  unfold tkTold
  split
  · simp [noAn]
  split
  · unfold tkLk; simp [noAn]
  split
  · simp only [tkList_lenL]; refine ⟨by omega, ?_, ?_⟩ <;> simp [noAn]
  split
  · simp only [tkList_lenL]; refine ⟨?_, by omega, ?_⟩ <;> simp [noAn]
  split
  · simp only [tkList_lenL]; refine ⟨?_, ?_, by omega⟩ <;> simp [noAn]
  split
  · simp [noAn]
  · simp [noAn]
theorem rhT_own (s : List UInt8) : (rhT s).1.owner.length ≤ 32 ∧ (∀ y ∈ (rhT s).1.rows, y.owner.length ≤ 32) ∧ (∀ y ∈ (rhT s).1.events, y.owner.length ≤ 32) ∧ (rhT s).1.rows.length ≤ 255 ∧ (rhT s).1.events.length ≤ 255 ∧ (rhT s).1.pools.length ≤ 255 := by
  unfold rhT
  split
  · obtain ⟨h1, h2, h3⟩ := tkTold_own (rhH s).1 (s.drop 11)
    exact ⟨h1, h2, h3, tkTold_lists _ _⟩
  · simp [noAn]
end Go.Proofs.YtcobfoiajdbahaaDoor.P
