/- A box of a cell (two flags, a number, a text) that is known whole: read, written, seen behind calls. -/
import Derived.Test.YtmfabbncoekjhaaDoorWChain
namespace Go.Proofs.YtmfabbncoekjhaaDoor
open Go.RowKit

def Box (w : World) (g : Nat) (t : TypeId) (f l : Bool) (n : Int) (d : List UInt8) : Prop := w.heap[g]? = some (.cells #[.bool f, .bool l, .int .i64 n, S d] t (0, 0))
theorem Box.lt {w : World} {g : Nat} {t : TypeId} {f l : Bool} {n : Int} {d : List UInt8} (h : Box w g t f l n d) : g < w.heap.size := by
  rcases Nat.lt_or_ge g w.heap.size with hlt | hge
  · exact hlt
  · unfold Box at h; rw [Array.getElem?_eq_none hge] at h; cases h
theorem Box.up {w w' : World} {g : Nat} {t : TypeId} {f l : Bool} {n : Int} {d : List UInt8} (h : Box w g t f l n d) (hb : Below w.heap.size w w') : Box w' g t f l n d := (hb.block g h.lt).trans h
theorem Box.fresh (w : World) (t : TypeId) (f l : Bool) (n : Int) (d : List UInt8) : Box (w.alloc (.cells #[.bool f, .bool l, .int .i64 n, S d] t)) w.heap.size t f l n d := by
  unfold Box World.alloc
  simp
theorem Box.alloc {w : World} {g : Nat} {t : TypeId} {f l : Bool} {n : Int} {d : List UInt8} (h : Box w g t f l n d) (o : Obj) : Box (w.alloc o) g t f l n d := (Below.heap_alloc w o g h.lt).trans h
theorem Box.cell {w : World} {g : Nat} {t : TypeId} {f l : Bool} {n : Int} {d : List UInt8} (h : Box w g t f l n d) :
    w.cell? ⟨g, 0, none⟩ = some (.bool f) ∧ w.cell? ⟨g, 1, none⟩ = some (.bool l) ∧ w.cell? ⟨g, 2, none⟩ = some (.int .i64 n) ∧ w.cell? ⟨g, 3, none⟩ = some (S d) := by
  unfold Box at h
  simp [World.cell?, h]
theorem Box.frozen {w : World} {g : Nat} {t : TypeId} {f l : Bool} {n : Int} {d : List UInt8} (h : Box w g t f l n d) (i : Nat) : w.frozen? ⟨g, i, none⟩ = false := by
  unfold Box at h
  simp [World.frozen?, h]
/-- The box behind the four stores. -/
theorem Box.set {w : World} {g : Nat} {t : TypeId} {f l : Bool} {n : Int} {d : List UInt8} (h : Box w g t f l n d) (f' l' : Bool) (n' : Int) (d' : List UInt8) :
    Box ((((w.setCell ⟨g, 0, none⟩ (.bool f')).setCell ⟨g, 1, none⟩ (.bool l')).setCell ⟨g, 2, none⟩ (.int .i64 n')).setCell ⟨g, 3, none⟩ (S d')) g t f' l' n' d' := by
  unfold Box at h ⊢
  simp [World.setCell, Array.getElem?_modify, h]
theorem Box.set_other {w : World} {g g' : Nat} {t : TypeId} {f l : Bool} {n : Int} {d : List UInt8} (h : Box w g t f l n d) (hne : g ≠ g') (v0 v1 v2 v3 : Value) :
    Box ((((w.setCell ⟨g', 0, none⟩ v0).setCell ⟨g', 1, none⟩ v1).setCell ⟨g', 2, none⟩ v2).setCell ⟨g', 3, none⟩ v3) g t f l n d := by
  unfold Box at h ⊢
  rw [Below.heap_setCell _ _ _ _ hne, Below.heap_setCell _ _ _ _ hne, Below.heap_setCell _ _ _ _ hne, Below.heap_setCell _ _ _ _ hne, h]
theorem below_set4 {B : Nat} {a w : World} (h : Below B a w) {g : Nat} (hg : B ≤ g) (v0 v1 v2 v3 : Value) :
    Below B a ((((w.setCell ⟨g, 0, none⟩ v0).setCell ⟨g, 1, none⟩ v1).setCell ⟨g, 2, none⟩ v2).setCell ⟨g, 3, none⟩ v3) := (((h.setCell hg _).setCell hg _).setCell hg _).setCell hg _
/-- A box, and the two of them, for a region that draws. -/
theorem two_boxes {W w : World} {g1 g2 : Nat} {t1 t2 : TypeId} {f1 l1 f2 l2 : Bool} {n1 n2 : Int} {d1 d2 : List UInt8} (h : Below W.heap.size W w) (h1 : Box w g1 t1 f1 l1 n1 d1) (h2 : Box w g2 t2 f2 l2 n2 d2) :
    Below W.heap.size W w ∧ Box w g1 t1 f1 l1 n1 d1 ∧ Box w g2 t2 f2 l2 n2 d2 ∧ w.cell? ⟨g1, 0, none⟩ = some (.bool f1) ∧ w.cell? ⟨g1, 1, none⟩ = some (.bool l1) ∧ w.cell? ⟨g1, 2, none⟩ = some (.int .i64 n1) ∧ w.cell? ⟨g1, 3, none⟩ = some (S d1) ∧
      w.cell? ⟨g2, 0, none⟩ = some (.bool f2) ∧ w.cell? ⟨g2, 1, none⟩ = some (.bool l2) ∧ w.cell? ⟨g2, 2, none⟩ = some (.int .i64 n2) ∧ w.cell? ⟨g2, 3, none⟩ = some (S d2) := by
  obtain ⟨a0, a1, a2, a3⟩ := h1.cell
  obtain ⟨b0, b1, b2, b3⟩ := h2.cell
  exact ⟨h, h1, h2, a0, a1, a2, a3, b0, b1, b2, b3⟩
theorem two_up {W w w' : World} {g1 g2 : Nat} {t1 t2 : TypeId} {f1 l1 f2 l2 : Bool} {n1 n2 : Int} {d1 d2 : List UInt8} {R : Prop} (h : Below W.heap.size W w ∧ Box w g1 t1 f1 l1 n1 d1 ∧ Box w g2 t2 f2 l2 n2 d2 ∧ R) (hb : Below w.heap.size w w') :
    Below W.heap.size W w' ∧ Box w' g1 t1 f1 l1 n1 d1 ∧ Box w' g2 t2 f2 l2 n2 d2 ∧ w'.cell? ⟨g1, 0, none⟩ = some (.bool f1) ∧ w'.cell? ⟨g1, 1, none⟩ = some (.bool l1) ∧ w'.cell? ⟨g1, 2, none⟩ = some (.int .i64 n1) ∧ w'.cell? ⟨g1, 3, none⟩ = some (S d1) ∧
      w'.cell? ⟨g2, 0, none⟩ = some (.bool f2) ∧ w'.cell? ⟨g2, 1, none⟩ = some (.bool l2) ∧ w'.cell? ⟨g2, 2, none⟩ = some (.int .i64 n2) ∧ w'.cell? ⟨g2, 3, none⟩ = some (S d2) :=
  two_boxes (h.1.trans (hb.mono h.1.size)) (h.2.1.up hb) (h.2.2.1.up hb)
end Go.Proofs.YtmfabbncoekjhaaDoor
