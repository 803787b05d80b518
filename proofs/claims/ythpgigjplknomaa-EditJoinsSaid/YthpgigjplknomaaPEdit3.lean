/- Plain law: edits joined. -/
import Derived.Test.YthpgigjplknomaaPEdit
namespace Go.Proofs.Ythpgigjplknomaa.P

def isN (n : Nat) (t : Tab) : Bool := decide (t.n = n)
def hasN (l : List Nat) (v : Nat) : Bool := l.any (fun n => decide (v = n))
/-- The greater one of two numbers. -/
def maxN (x y : Nat) : Nat := max x y
/-- Two edits joined. -/
def joinE (x y : Ed) : Ed := ⟨x.add.filter (fun t => !hasN y.drop t.n) ++ y.add, x.drop ++ y.drop.filter (fun n => !x.add.any (isN n)), maxN x.log y.log, maxN x.seq y.seq, maxN x.next y.next⟩
def noE : Ed := ⟨[], [], 0, 0, 0⟩
/-- Some edits joined. -/
def joinL : List Ed → Ed
  | [] => noE
  | x :: l => l.foldl joinE x
theorem joinL_snoc (x : Ed) (l : List Ed) (y : Ed) : joinL (x :: l ++ [y]) = joinE (joinL (x :: l)) y := by simp [joinL]
theorem more_is (x y : Nat) : max (x : Int) (y : Int) = ((maxN x y : Nat) : Int) := by unfold maxN; omega
theorem keep_yes {α : Type} {p : α → Bool} {l : List α} {k : Nat} (h : k < l.length) (hp : p l[k] = true) : (l.take (k + 1)).filter p = (l.take k).filter p ++ [l[k]] := by
  rw [List.take_succ_eq_append_getElem h, List.filter_append]; simp [hp]
theorem keep_no {α : Type} {p : α → Bool} {l : List α} {k : Nat} (h : k < l.length) (hp : p l[k] = false) : (l.take (k + 1)).filter p = (l.take k).filter p := by
  rw [List.take_succ_eq_append_getElem h, List.filter_append]; simp [hp]
end Go.Proofs.Ythpgigjplknomaa.P
