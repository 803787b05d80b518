/- Boxes that are known whole. -/
import Derived.Test.YtcobfoiajdbahaaDoorWOwnR
namespace Go.Proofs.YtcobfoiajdbahaaDoor
open Go.RowKit

/-- A box that is known whole. -/
def Bx (w : World) (g : Nat) (t : TypeId) (cs : Array Value) : Prop := w.heap[g]? = some (.cells cs t (0, 0))
section
variable {w w' : World} {g : Nat} {t : TypeId} {cs : Array Value}
theorem Bx.lt (h : Bx w g t cs) : g < w.heap.size := by
  rcases Nat.lt_or_ge g w.heap.size with hlt | hge
  · exact hlt
  · unfold Bx at h; rw [Array.getElem?_eq_none hge] at h; cases h
theorem Bx.below {B : Nat} (h : Bx w g t cs) (hb : Below B w w') (hg : g < B) : Bx w' g t cs := (hb.block g hg).trans h
theorem Bx.up (h : Bx w g t cs) (hb : Below w.heap.size w w') : Bx w' g t cs := (hb.block g h.lt).trans h
theorem Bx.fresh (w : World) (t : TypeId) (cs : Array Value) : Bx (w.alloc (.cells cs t)) w.heap.size t cs := by
  unfold Bx World.alloc
  simp
theorem Bx.drew (h : Bx w g t cs) : Bx w.drew g t cs := h
theorem Bx.cell (h : Bx w g t cs) (i : Nat) : w.cell? ⟨g, i, none⟩ = cs[i]? := by
  unfold Bx at h
  simp [World.cell?, h]
theorem Bx.frozen (h : Bx w g t cs) (i : Nat) : w.frozen? ⟨g, i, none⟩ = false := by
  unfold Bx at h
  simp [World.frozen?, h]
theorem Bx.set (h : Bx w g t cs) (i : Nat) (v : Value) : Bx (w.setCell ⟨g, i, none⟩ v) g t (cs.setIfInBounds i v) := by
  unfold Bx at h ⊢
  simp [World.setCell, Array.getElem?_modify, h]
theorem Bx.other (h : Bx w g t cs) {g' : Nat} (hne : g' ≠ g) (i : Nat) (v : Value) : Bx (w.setCell ⟨g', i, none⟩ v) g t cs := by
  unfold Bx at h ⊢
  simp [World.setCell, Array.getElem?_modify, h, hne]
/-- A box of two cells. -/
theorem Bx.two {a b : Value} (h : Bx w g t #[a, b]) : w.cell? ⟨g, 0, none⟩ = some a ∧ w.cell? ⟨g, 1, none⟩ = some b ∧ w.frozen? ⟨g, 0, none⟩ = false ∧ w.frozen? ⟨g, 1, none⟩ = false :=
  ⟨h.cell 0, h.cell 1, h.frozen 0, h.frozen 1⟩
theorem Bx.set2 {a b : Value} (h : Bx w g t #[a, b]) (a' b' : Value) : Bx ((w.setCell ⟨g, 0, none⟩ a').setCell ⟨g, 1, none⟩ b') g t #[a', b'] := (h.set 0 a').set 1 b'
theorem Bx.three {a b c : Value} (h : Bx w g t #[a, b, c]) : w.cell? ⟨g, 0, none⟩ = some a ∧ w.cell? ⟨g, 1, none⟩ = some b ∧ w.cell? ⟨g, 2, none⟩ = some c ∧ w.frozen? ⟨g, 0, none⟩ = false ∧ w.frozen? ⟨g, 1, none⟩ = false ∧ w.frozen? ⟨g, 2, none⟩ = false :=
  ⟨h.cell 0, h.cell 1, h.cell 2, h.frozen 0, h.frozen 1, h.frozen 2⟩
theorem Bx.set3 {a b c : Value} (h : Bx w g t #[a, b, c]) (a' b' c' : Value) : Bx (((w.setCell ⟨g, 0, none⟩ a').setCell ⟨g, 1, none⟩ b').setCell ⟨g, 2, none⟩ c') g t #[a', b', c'] := ((h.set 0 a').set 1 b').set 2 c'
theorem OwnR.other {α : Type} {e : TypeId} {k : Nat} {cs : α → List Value} {B : Nat} {v : Value} {l : List α} (h : OwnR e k cs w B v l) (hg : g < B) (i : Nat) (u : Value) : OwnR e k cs (w.setCell ⟨g, i, none⟩ u) B v l := by
  obtain ⟨h1, h2⟩ := h
  refine ⟨h1, ?_⟩
  rcases h2 with h2 | ⟨g', cap, cur, e1, e2, e3, e4⟩
  · exact .inl h2
  · refine .inr ⟨g', cap, cur, e1, e2, ?_, e4⟩
    have hne : g ≠ g' := by omega
    simp [World.setCell, Array.getElem?_modify, hne]
    exact e3
theorem below_set2 {B : Nat} {a w : World} (h : Below B a w) {g : Nat} (hg : B ≤ g) (v0 v1 : Value) :
    Below B a ((w.setCell ⟨g, 0, none⟩ v0).setCell ⟨g, 1, none⟩ v1) := (h.setCell hg _).setCell hg _
end
end Go.Proofs.YtcobfoiajdbahaaDoor
