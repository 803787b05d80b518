/- Laws for the walks: a slice of structs of k cells that the call owns; one appended. -/
import Derived.Test.YtcobfoiajdbahaaDoorWByte
import Derived.Laws.AppendOwn
import Derived.OwnWalk
namespace Go.Proofs.YtcobfoiajdbahaaDoor
open Go.RowKit

/-- A slice of structs of k cells that reads as a list. -/
def RowsAt {α : Type} (k : Nat) (cs : α → List Value) (w : World) (a : Option Addr) (l : List α) : Prop :=
  ∀ (i : Nat) (h : i < l.length), ∃ b o, a = some ⟨b, o, none⟩ ∧ b < w.heap.size ∧ ∀ j, j < k → w.cell? ⟨b, o + i * k + j, none⟩ = (cs l[i])[j]?
theorem RowsAt.up {α : Type} {k : Nat} {cs : α → List Value} {w w' : World} {a : Option Addr} {l : List α} (h : RowsAt k cs w a l) (hb : Below w.heap.size w w') : RowsAt k cs w' a l := by
  intro i hi
  obtain ⟨b, o, rfl, hlt, hc⟩ := h i hi
  exact ⟨b, o, rfl, Nat.lt_of_lt_of_le hlt hb.size, fun j hj => (hb.cell (p := ⟨b, o + i * k + j, none⟩) hlt).trans (hc j hj)⟩
theorem flat_at {α : Type} (k : Nat) (cs : α → List Value) (hk : ∀ x, (cs x).length = k) : ∀ (l : List α) (i j : Nat) (h : i < l.length), j < k → (l.flatMap cs)[i * k + j]? = (cs l[i])[j]?
  | [], i, j, h, _ => by simp at h
  | x :: l, 0, j, h, hj => by
    rw [List.flatMap_cons, List.getElem?_append_left (by rw [hk]; omega)]
    simp
  | x :: l, i + 1, j, h, hj => by
    rw [List.flatMap_cons, List.getElem?_append_right (by rw [hk, Nat.add_mul]; omega), hk, show (i + 1) * k + j - k = i * k + j by rw [Nat.add_mul]; omega]
    rw [flat_at k cs hk l i j (by simpa using h) hj]
    simp
theorem flat_len {α : Type} (k : Nat) (cs : α → List Value) (hk : ∀ x, (cs x).length = k) : ∀ (l : List α), (l.flatMap cs).length = l.length * k
  | [] => by simp
  | x :: l => by rw [List.flatMap_cons, List.length_append, hk, flat_len k cs hk l, List.length_cons, Nat.add_mul]; omega
theorem rows_new {α : Type} (k : Nat) (cs : α → List Value) (hk : ∀ x, (cs x).length = k) (w : World) (l : List α) (A : Array Value) (t : TypeId) (h : A = (l.flatMap cs).toArray) : RowsAt k cs (w.alloc (.cells A t)) (some ⟨w.heap.size, 0, none⟩) l := by
  intro i hi
  subst h
  refine ⟨w.heap.size, 0, rfl, by simp, fun j hj => ?_⟩
  rw [World.cell?_alloc_new, Nat.zero_add, ← flat_at k cs hk l i j hi hj]
  simp
/-- The slice value v owns the structs l. -/
def OwnR {α : Type} (e : TypeId) (k : Nat) (cs : α → List Value) (w : World) (B : Nat) (v : Value) (l : List α) : Prop := w.ownsRow B e k v l.length (l.flatMap cs)
section
variable {α : Type} {e : TypeId} {k : Nat} {cs : α → List Value} {w w' : World} {B : Nat} {v : Value} {l : List α}
theorem ownR_nil (w : World) (B : Nat) : OwnR e k cs w B (.slice none 0 0) ([] : List α) := World.ownsRow_nil w B _ k
theorem OwnR.alloc (h : OwnR e k cs w B v l) (o : Obj) : OwnR e k cs (w.alloc o) B v l := World.ownsRow.alloc h o
theorem OwnR.up (h : OwnR e k cs w B v l) (hb : Below w.heap.size w w') : OwnR e k cs w' B v l := by
  obtain ⟨h1, h2⟩ := h
  refine ⟨h1, ?_⟩
  rcases h2 with h2 | ⟨g, cap, cur, e1, e2, e3, e4⟩
  · exact .inl h2
  · have hg : g < w.heap.size := by
      rcases Nat.lt_or_ge g w.heap.size with h | h
      · exact h
      · rw [Array.getElem?_eq_none h] at e3; cases e3
    exact .inr ⟨g, cap, cur, e1, e2, (hb.block g hg).trans e3, e4⟩
theorem OwnR.is (hk : ∀ x, (cs x).length = k) (h : OwnR e k cs w B v l) : ∃ a c, v = .slice a l.length c ∧ RowsAt k cs w a l ∧ (a = none → l = []) := by
  obtain ⟨_, ⟨rfl, h0⟩ | ⟨g, cap, cur, rfl, _, hg, hnc, _, hcs, htake⟩⟩ := h
  · refine ⟨none, 0, by rw [h0], fun i hi => ?_, fun _ => List.length_eq_zero_iff.1 h0⟩
    rw [h0] at hi; omega
  · refine ⟨some ⟨g, 0, none⟩, cap, rfl, fun i hi => ⟨g, 0, rfl, ?_, fun j hj => ?_⟩, fun h => by cases h⟩
    · rcases Nat.lt_or_ge g w.heap.size with h | h
      · exact h
      · rw [Array.getElem?_eq_none h] at hg; cases hg
    · have hlt : i * k + j < l.length * k := by
        have : (i + 1) * k ≤ l.length * k := Nat.mul_le_mul_right k hi
        rw [Nat.add_mul] at this
        omega
      have : cur.toList[i * k + j]? = (cs l[i])[j]? := by
        rw [← flat_at k cs hk l i j hi hj, ← htake, List.getElem?_take, if_pos hlt]
      simp only [World.cell?, hg, Nat.zero_add]
      simpa using this

theorem OwnR.low {B' : Nat} (h : OwnR e k cs w B v l) (hB : B' ≤ B) : OwnR e k cs w B' v l := by
  obtain ⟨h1, h2⟩ := h
  refine ⟨h1, ?_⟩
  rcases h2 with h2 | ⟨g, cap, cur, e1, e2, e3⟩
  · exact .inl h2
  · exact .inr ⟨g, cap, cur, e1, Nat.le_trans hB e2, e3⟩
theorem OwnR.at {a : Option Addr} {n c : Nat} (h : OwnR e k cs w B (.slice a n c) l) (hk : ∀ x, (cs x).length = k) : RowsAt k cs w a l := by
  obtain ⟨a', c', he, hr, _⟩ := h.is hk
  injection he with h1
  rw [h1]
  exact hr
/-- 'append(l, x)': the new one lies in the last block. -/
theorem wpList_pushR {P : Program} {ops : Array Oper} {rest : List Oper} {o : Oper} {a : Act} {Q : Exit → Act → World → Prop} (hgd : o.guard = none) (s x : Operand) (t : TypeId)
    (ho : o.op = .call { callee := .builtin .append, args := #[s, x], argTypes := #[t, t] })
    (i : TypeInfo) (z : Value) (bytes : Nat) (ht : P.underlying t = some (.slice e)) (hi : P.info? e = some i) (hz : i.zero = some z)
    (hsize : i.size = k) (hby : i.bytes = bytes) (hzs : z.cells.size = k) (hsz : 0 < k) (hk : ∀ x, (cs x).length = k) (hone : ∀ x, ∀ u ∈ cs x, u.oneCell' = true)
    (c : α) (hs : a.eval s = v) (hown : OwnR e k cs w B v l) (hl : l.length < 100000) (hbb : bytes ≤ 100000)
    (A : Array Value) (hA : A = (cs c).toArray)
    (hx : a.eval x = .slice (some ⟨w.heap.size, 0, none⟩) 1 1) (hB : B ≤ w.heap.size)
    (h : ∀ v' w', OwnR e k cs w' B v' (l ++ [c]) → Below B w w' → wpList P ops Q rest (a.put o.dst v') w') :
    wpList P ops Q (o :: rest) a (w.alloc (.cells A e)) := by
  subst hA
  refine wpList_append_own _ hgd s x t ho B e i z k bytes ht hi hz hsize hby hzs hsz v l.length (l.flatMap cs) hs (World.ownsRow.alloc hown _)
    ⟨w.heap.size, 0, none⟩ 1 1 (cs c) hx (by rw [hk]; omega) ?_ ?_ ?_ ?_ ?_ ?_
  · intro j u hj
    have e2 : Addr.add ⟨w.heap.size, 0, none⟩ j = ⟨w.heap.size, j, none⟩ := by
      unfold Addr.add
      split
      · rename_i h; subst h; rfl
      · simp
    rw [e2, World.cell?_alloc_new]
    simpa using hj
  · exact hone c
  · unfold maxLen; omega
  · have : (l.length + 1) * bytes ≤ 100000 * 100000 := Nat.mul_le_mul (by omega) hbb
    omega
  · simp; omega
  · intro v' w' h1 h2 _
    refine h v' w' ?_ ?_
    · unfold OwnR
      simpa using h1
    · exact ((Below.refl B w).alloc hB _).grown h2 (by simp; omega) (fun q hq => (World.ownsRow.lt (World.ownsRow.alloc hown (.cells (cs c).toArray e)) q hq).1)
/-- The same as one step of a region that draws its order. -/
theorem step_pushR {P : Program} {ops : Array Oper} {o : Oper} {a : Act} {K : Act → World → Prop} {Q : Exit → Act → World → Prop} {E : Prop} (hgd : o.guard = none) (s x : Operand) (t : TypeId)
    (ho : o.op = .call { callee := .builtin .append, args := #[s, x], argTypes := #[t, t] })
    (i : TypeInfo) (z : Value) (bytes : Nat) (ht : P.underlying t = some (.slice e)) (hi : P.info? e = some i) (hz : i.zero = some z)
    (hsize : i.size = k) (hby : i.bytes = bytes) (hzs : z.cells.size = k) (hsz : 0 < k) (hk : ∀ x, (cs x).length = k) (hone : ∀ x, ∀ u ∈ cs x, u.oneCell' = true)
    (c : α) (hs : a.eval s = v) (hown : OwnR e k cs w B v l) (hl : l.length < 100000) (hbb : bytes ≤ 100000)
    (g : Nat) (A : Array Value) (f : Nat × Nat) (hg : w.heap[g]? = some (.cells A e f)) (hA : A = (cs c).toArray)
    (hx : a.eval x = .slice (some ⟨g, 0, none⟩) 1 1) (hB : B ≤ w.heap.size)
    (h : ∀ v' w', OwnR e k cs w' B v' (l ++ [c]) → Below B w w' → K (a.put o.dst v') w') :
    if Region.wanted o (yielded ops a.tmps) = true then Oper.wp P o a w K Q else E := by
  subst hA
  have hw : Region.wanted o (yielded ops a.tmps) = true := by simp [Region.wanted, hgd]
  rw [if_pos hw]
  refine wp_append_own _ s x t ho B e i z k bytes ht hi hz hsize hby hzs hsz v l.length (l.flatMap cs) hs hown
    ⟨g, 0, none⟩ 1 1 (cs c) hx (by rw [hk]; omega) ?_ ?_ ?_ ?_ hB ?_
  · intro j u hj
    have e2 : Addr.add ⟨g, 0, none⟩ j = ⟨g, j, none⟩ := by
      unfold Addr.add
      split
      · rename_i h; subst h; rfl
      · simp
    rw [e2]
    simp only [World.cell?, hg]
    simpa using hj
  · exact hone c
  · unfold maxLen; omega
  · have : (l.length + 1) * bytes ≤ 100000 * 100000 := Nat.mul_le_mul (by omega) hbb
    omega
  · intro v' w' h1 h2 _
    refine h v' w' ?_ ?_
    · unfold OwnR
      simpa using h1
    · exact (Below.refl B w).grown h2 hB (fun q hq => (World.ownsRow.lt hown q hq).1)
end
end Go.Proofs.YtcobfoiajdbahaaDoor
