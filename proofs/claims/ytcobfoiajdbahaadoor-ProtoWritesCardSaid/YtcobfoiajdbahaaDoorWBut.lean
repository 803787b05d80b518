/- Worlds between which one block alone has changed, and new ones have come. -/
import Derived.Test.YtcobfoiajdbahaaDoorWBx
import Derived.Test.YtcobfoiajdbahaaDoorWUp
namespace Go.Proofs.YtcobfoiajdbahaaDoor
open Go.RowKit

def But (g : Nat) (w w' : World) : Prop := w'.os = w.os ∧ w'.tape = w.tape ∧ w'.output = w.output ∧ w.heap.size ≤ w'.heap.size ∧ ∀ b, b < w.heap.size → b ≠ g → w'.heap[b]? = w.heap[b]?
theorem But.refl (g : Nat) (w : World) : But g w w := ⟨rfl, rfl, rfl, Nat.le_refl _, fun _ _ _ => rfl⟩
theorem But.trans {g : Nat} {a b c : World} (h : But g a b) (k : But g b c) : But g a c :=
  ⟨k.1.trans h.1, k.2.1.trans h.2.1, k.2.2.1.trans h.2.2.1, Nat.le_trans h.2.2.2.1 k.2.2.2.1, fun i hi hg => (k.2.2.2.2 i (Nat.lt_of_lt_of_le hi h.2.2.2.1) hg).trans (h.2.2.2.2 i hi hg)⟩
theorem But.of {g : Nat} {w w' : World} (h : Below w.heap.size w w') : But g w w' := ⟨h.os, h.tape, h.output, h.size, fun b hb _ => h.block b hb⟩
theorem But.size {g : Nat} {w w' : World} (h : But g w w') : w.heap.size ≤ w'.heap.size := h.2.2.2.1
theorem But.set {g : Nat} {a w : World} (h : But g a w) (i : Nat) (v : Value) : But g a (w.setCell ⟨g, i, none⟩ v) :=
  h.trans ⟨rfl, rfl, rfl, by simp [World.setCell], fun b _ hne => Below.heap_setCell _ _ _ _ hne⟩
theorem But.below {g B : Nat} {w w' : World} (h : But g w w') (hB : B ≤ g) (hw : B ≤ w.heap.size) : Below B w w' := ⟨h.1, h.2.1, h.2.2.1, h.2.2.2.1, fun k hk => h.2.2.2.2 k (by omega) (by omega)⟩
theorem Bx.but {g b : Nat} {w w' : World} {t : TypeId} {cs : Array Value} (h : Bx w b t cs) (hb : But g w w') (hne : b ≠ g) : Bx w' b t cs := (hb.2.2.2.2 b h.lt hne).trans h
/-- Rows that the call owns, whose block is no box of another type. -/
theorem OwnR.but {α : Type} {e : TypeId} {k : Nat} {cs : α → List Value} {w w' : World} {B : Nat} {v : Value} {l : List α} (h : OwnR e k cs w B v l) {g : Nat} {t : TypeId} {c : Array Value} (hx : Bx w g t c) (ht : t ≠ e) (hb : But g w w') : OwnR e k cs w' B v l := by
  obtain ⟨h1, h2⟩ := h
  refine ⟨h1, ?_⟩
  rcases h2 with h2 | ⟨q, cap, cur, e1, e2, e3, e4⟩
  · exact .inl h2
  · have hq : q < w.heap.size := by
      rcases Nat.lt_or_ge q w.heap.size with h | h
      · exact h
      · rw [Array.getElem?_eq_none h] at e3; cases e3
    have hne : q ≠ g := by
      intro hh
      subst hh
      unfold Bx at hx
      rw [hx] at e3
      injection e3 with e3
      injection e3 with _ e3
      exact ht e3
    exact .inr ⟨q, cap, cur, e1, e2, (hb.2.2.2.2 q hq hne).trans e3, e4⟩
theorem But.drew {g : Nat} {a w : World} (h : But g a w) : But g a w.drew := h
theorem But.alloc {g : Nat} {a w : World} (h : But g a w) (o : Obj) : But g a (w.alloc o) := h.trans (But.of ((Below.refl _ _).alloc (Nat.le_refl _) o))
theorem But.setNew {g : Nat} {a w : World} (h : But g a w) {p : Addr} (hp : a.heap.size ≤ p.block) (u : Value) : But g a (w.setCell p u) :=
  ⟨h.1, h.2.1, h.2.2.1, by have := h.2.2.2.1; simpa [World.setCell] using this, fun b hb hne => (Below.heap_setCell _ _ _ _ (by omega)).trans (h.2.2.2.2 b hb hne)⟩
theorem But.up {g : Nat} {a w w' : World} (h : But g a w) (hb : Below a.heap.size w w') : But g a w' :=
  ⟨hb.os.trans h.1, hb.tape.trans h.2.1, hb.output.trans h.2.2.1, Nat.le_trans h.2.2.2.1 hb.size, fun b hlt hne => (hb.block b hlt).trans (h.2.2.2.2 b hlt hne)⟩
/-- A box of eight cells. -/
theorem Bx.eight {w : World} {g : Nat} {t : TypeId} {a b c d e f i j : Value} (h : Bx w g t #[a, b, c, d, e, f, i, j]) :
    (w.cell? ⟨g, 0, none⟩ = some a ∧ w.cell? ⟨g, 1, none⟩ = some b ∧ w.cell? ⟨g, 2, none⟩ = some c ∧ w.cell? ⟨g, 3, none⟩ = some d) ∧ w.cell? ⟨g, 4, none⟩ = some e ∧ w.cell? ⟨g, 5, none⟩ = some f ∧ w.cell? ⟨g, 6, none⟩ = some i ∧ w.cell? ⟨g, 7, none⟩ = some j :=
  ⟨⟨h.cell 0, h.cell 1, h.cell 2, h.cell 3⟩, h.cell 4, h.cell 5, h.cell 6, h.cell 7⟩
theorem Bx.set5 {w : World} {g : Nat} {t : TypeId} {a b c d e : Value} (h : Bx w g t #[a, b, c, d, e]) (a' b' c' d' e' : Value) :
    Bx (((((w.setCell ⟨g, 0, none⟩ a').setCell ⟨g, 1, none⟩ b').setCell ⟨g, 2, none⟩ c').setCell ⟨g, 3, none⟩ d').setCell ⟨g, 4, none⟩ e') g t #[a', b', c', d', e'] := ((((h.set 0 a').set 1 b').set 2 c').set 3 d').set 4 e'
theorem below_set5 {B : Nat} {a w : World} (h : Below B a w) {g : Nat} (hg : B ≤ g) (v0 v1 v2 v3 v4 : Value) :
    Below B a (((((w.setCell ⟨g, 0, none⟩ v0).setCell ⟨g, 1, none⟩ v1).setCell ⟨g, 2, none⟩ v2).setCell ⟨g, 3, none⟩ v3).setCell ⟨g, 4, none⟩ v4) := ((((h.setCell hg _).setCell hg _).setCell hg _).setCell hg _).setCell hg _
end Go.Proofs.YtcobfoiajdbahaaDoor
