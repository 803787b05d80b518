/- Acts that a call owns: their draws, rows of acts, append. -/
import Derived.Test.YtnflbgindcejjaaDoorWSCrash
import Derived.Test.YtnflbgindcejjaaDoorWOwnG
namespace Go.Proofs.YtnflbgindcejjaaDoor
open Go.RowKit
set_option linter.unusedVariables false
set_option linter.unusedSimpArgs false

theorem cell_heap {w w' : World} {g : Nat} (h : w'.heap[g]? = w.heap[g]?) (j : Nat) : w'.cell? ⟨g, j, none⟩ = w.cell? ⟨g, j, none⟩ := by simp only [World.cell?, h]
theorem frozen_heap {w w' : World} {g : Nat} (h : w'.heap[g]? = w.heap[g]?) (j : Nat) : w'.frozen? ⟨g, j, none⟩ = w.frozen? ⟨g, j, none⟩ := by simp only [World.frozen?, h]
theorem lt_heap {w : World} {g : Nat} {o : Obj} (h : w.heap[g]? = some o) : g < w.heap.size := by
  rcases Nat.lt_or_ge g w.heap.size with hh | hh
  · exact hh
  · rw [Array.getElem?_eq_none hh] at h; cases h
theorem OwnG.same {w w' : World} {B : Nat} {v : Value} {l : List UInt8} (h : OwnG w B v l) (hk : ∀ b cur fz, B ≤ b → w.heap[b]? = some (.cells cur 5 fz) → w'.heap[b]? = some (.cells cur 5 fz)) : OwnG w' B v l := by
  obtain ⟨g, cap, rfl, h1, h2, h3, h4, ⟨cur, fz, hty⟩, h5, h6, h7⟩ := h
  have hty' := hk g cur fz h1 hty
  have he : w'.heap[g]? = w.heap[g]? := hty'.trans hty.symm
  exact ⟨g, cap, rfl, h1, lt_heap hty', h3, h4, ⟨cur, fz, hty'⟩, fun j hj => (cell_heap he j).trans (h5 j hj), fun j hj => by rw [cell_heap he]; exact h6 j hj, fun j hj => by rw [frozen_heap he]; exact h7 j hj⟩
/-- An act's draws: none, or bytes that the call owns. -/
def Dr (w : World) (B : Nat) (v : Value) (l : List UInt8) : Prop := (v = .slice none 0 0 ∧ l = []) ∨ OwnG w B v l
theorem Dr.nil (w : World) (B : Nat) : Dr w B (.slice none 0 0) [] := .inl ⟨rfl, rfl⟩
section
variable {w w' : World} {B : Nat} {v : Value} {l : List UInt8}
theorem Dr.same (h : Dr w B v l) (hk : ∀ b cur fz, B ≤ b → w.heap[b]? = some (.cells cur 5 fz) → w'.heap[b]? = some (.cells cur 5 fz)) : Dr w' B v l := h.elim .inl fun h => .inr (h.same hk)
theorem Dr.up (h : Dr w B v l) (hb : Below w.heap.size w w') : Dr w' B v l := h.same fun b _ _ _ hc => (hb.block b (lt_heap hc)).trans hc
theorem Dr.keptT (h : Dr w B v l) {e : TypeId} (hk : KeptT e w w') (he : 5 ≠ e) : Dr w' B v l := h.same fun b _ _ _ hc => hk _ _ _ _ he hc
theorem Dr.but (h : Dr w B v l) {g : Nat} {t : TypeId} {c : Array Value} (hx : Bx w g t c) (ht : t ≠ 5) (hb : But g w w') : Dr w' B v l := h.same fun b cur fz _ hc => by
  have hne : b ≠ g := by
    intro hh
    subst hh
    unfold Bx at hx
    rw [hx] at hc
    injection hc with hc
    injection hc with _ hc
    exact ht hc
  exact (hb.2.2.2.2 b (lt_heap hc) hne).trans hc
theorem Dr.other (h : Dr w B v l) {g : Nat} (hg : g < B) (i : Nat) (u : Value) : Dr (w.setCell ⟨g, i, none⟩ u) B v l := h.same fun b _ _ hB hc => (Below.heap_setCell _ _ _ _ (by show b ≠ g; omega)).trans hc
theorem Dr.alloc (h : Dr w B v l) (o : Obj) : Dr (w.alloc o) B v l := h.up ((Below.refl _ _).alloc (Nat.le_refl _) o)
theorem Dr.low (h : Dr w B v l) {B' : Nat} (hB : B' ≤ B) : Dr w B' v l := by
  rcases h with h | ⟨g, cap, rfl, h1, h2⟩
  · exact .inl h
  · exact .inr ⟨g, cap, rfl, Nat.le_trans hB h1, h2⟩
theorem Dr.is (h : Dr w B v l) : ∃ a c, v = .slice a l.length c := by
  rcases h with ⟨rfl, rfl⟩ | ⟨g, cap, rfl, _⟩
  · exact ⟨_, _, rfl⟩
  · exact ⟨_, _, rfl⟩
end

/-- An act and where its slices lie. -/
structure AcR where
  x : P.Ac
  da : Option Addr
  dc : Nat
  a : Option Addr
  k : Nat
  b : Option Addr
  m : Nat
def acCells (r : AcR) : List Value := [.int .u8 r.x.kind, V64 r.x.n, S r.x.text, .slice r.da r.x.draws.length r.dc, .int .i64 r.x.cr.names, .slice r.a r.x.cr.keep.length r.k, .slice r.b r.x.cr.spoil.length r.m]
theorem acCells_len (r : AcR) : (acCells r).length = 7 := rfl
theorem acCells_one (r : AcR) : ∀ u ∈ acCells r, u.oneCell' = true := by
  intro u hu
  simp only [acCells, List.mem_cons, List.not_mem_nil, or_false] at hu
  rcases hu with rfl | rfl | rfl | rfl | rfl | rfl | rfl <;> rfl
abbrev OwnActs (w : World) (B : Nat) (v : Value) (l : List AcR) : Prop := OwnR 32 7 acCells w B v l
theorem infoAct : (Tryd.prog.info? 32).map (fun i => (i.zero, i.size, i.bytes)) = some (some (.agg #[.int .u8 0, .int .u64 0, .string ByteArray.empty, .slice none 0 0, .int .i64 0, .slice none 0 0, .slice none 0 0]), 7, 112) := by kernel_rfl
theorem wpList_pushAct {ops : Array Oper} {rest : List Oper} {o : Oper} {a : Act} {w : World} {Q : Exit → Act → World → Prop} (hgd : o.guard = none) (s x : Operand)
    (ho : o.op = .call { callee := .builtin .append, args := #[s, x], argTypes := #[36, 36] }) (B : Nat) (v : Value) (l : List AcR) (c : AcR) (hs : a.eval s = v) (hown : OwnActs w B v l) (hl : l.length < 100000)
    (g : Nat) (A : Array Value) (f : Nat × Nat) (hg : w.heap[g]? = some (.cells A 32 f)) (hA : A = (acCells c).toArray) (hx : a.eval x = .slice (some ⟨g, 0, none⟩) 1 1) (hB : B ≤ w.heap.size)
    (h : ∀ v' w', OwnActs w' B v' (l ++ [c]) → Below B w w' → KeptT 32 w w' → wpList Tryd.prog ops Q rest (a.put o.dst v') w') :
    wpList Tryd.prog ops Q (o :: rest) a w := by
  obtain ⟨i, hq, h1, h2, h3⟩ := info_parts infoAct
  exact wpList_pushR2 hgd s x 36 ho i _ 112 Tryd.underlying36 hq h1 h2 h3 rfl (by decide) acCells_len acCells_one c hs hown hl (by decide) g A f hg hA hx hB h
/-- An act whose slices the call owns. -/
def AcOwn (w : World) (B : Nat) (r : AcR) : Prop := Dr w B (.slice r.da r.x.draws.length r.dc) r.x.draws ∧ OwnInts w B (.slice r.a r.x.cr.keep.length r.k) r.x.cr.keep ∧ OwnSpots w B (.slice r.b r.x.cr.spoil.length r.m) r.x.cr.spoil
section
variable {w w' : World} {B : Nat} {r : AcR}
theorem AcOwn.up (h : AcOwn w B r) (hb : Below w.heap.size w w') : AcOwn w' B r := ⟨h.1.up hb, h.2.1.up hb, h.2.2.up hb⟩
theorem AcOwn.keptT (h : AcOwn w B r) {e : TypeId} (hk : KeptT e w w') (h1 : 5 ≠ e) (h2 : 3 ≠ e) (h3 : 26 ≠ e) : AcOwn w' B r := ⟨h.1.keptT hk h1, h.2.1.keptT hk h2, h.2.2.keptT hk h3⟩
theorem AcOwn.but (h : AcOwn w B r) {g : Nat} {t : TypeId} {c : Array Value} (hx : Bx w g t c) (h1 : t ≠ 5) (h2 : t ≠ 3) (h3 : t ≠ 26) (hb : But g w w') : AcOwn w' B r := ⟨h.1.but hx h1 hb, h.2.1.but hx h2 hb, h.2.2.but hx h3 hb⟩
theorem AcOwn.low (h : AcOwn w B r) {B' : Nat} (hB : B' ≤ B) : AcOwn w B' r := ⟨h.1.low hB, h.2.1.low hB, h.2.2.low hB⟩
theorem AcOwn.other (h : AcOwn w B r) {g : Nat} (hg : g < B) (i : Nat) (u : Value) : AcOwn (w.setCell ⟨g, i, none⟩ u) B r := ⟨h.1.other hg i u, h.2.1.other hg i u, h.2.2.other hg i u⟩
theorem AcOwn.alloc (h : AcOwn w B r) (o : Obj) : AcOwn (w.alloc o) B r := h.up ((Below.refl _ _).alloc (Nat.le_refl _) o)
end
/-- What reading an act gives. -/
def ActDid (g : Nat) (q : P.Qs) (w : World) (e : Ending) (w' : World) : Prop := ∃ (r : AcR) (q' : P.Qs), Hid (P.qAct q = (r.x, q')) ∧ e = .returned (.agg (acCells r).toArray) ∧ AcOwn w' w.heap.size r ∧ RdX w' g q' ∧ But g w w' ∧ q'.1.length ≤ q.1.length
/-- A box of seven cells. -/
theorem Bx.sevenF {w : World} {g : Nat} {t : TypeId} {a b c d e f i : Value} (h : Bx w g t #[a, b, c, d, e, f, i]) :
    (w.cell? ⟨g, 0, none⟩ = some a ∧ w.cell? ⟨g, 1, none⟩ = some b ∧ w.cell? ⟨g, 2, none⟩ = some c ∧ w.cell? ⟨g, 3, none⟩ = some d ∧ w.cell? ⟨g, 4, none⟩ = some e ∧ w.cell? ⟨g, 5, none⟩ = some f ∧ w.cell? ⟨g, 6, none⟩ = some i) ∧
    w.frozen? ⟨g, 0, none⟩ = false ∧ w.frozen? ⟨g, 1, none⟩ = false ∧ w.frozen? ⟨g, 2, none⟩ = false ∧ w.frozen? ⟨g, 3, none⟩ = false ∧ w.frozen? ⟨g, 4, none⟩ = false ∧ w.frozen? ⟨g, 5, none⟩ = false ∧ w.frozen? ⟨g, 6, none⟩ = false :=
  ⟨⟨h.cell 0, h.cell 1, h.cell 2, h.cell 3, h.cell 4, h.cell 5, h.cell 6⟩, h.frozen 0, h.frozen 1, h.frozen 2, h.frozen 3, h.frozen 4, h.frozen 5, h.frozen 6⟩
/-- Seven cells written again. -/
theorem Bx.set7 {w : World} {g : Nat} {t : TypeId} {a b c d e f i : Value} (h : Bx w g t #[a, b, c, d, e, f, i]) (a' b' c' d' e' f' i' : Value) :
    Bx (((((((w.setCell ⟨g, 0, none⟩ a').setCell ⟨g, 1, none⟩ b').setCell ⟨g, 2, none⟩ c').setCell ⟨g, 3, none⟩ d').setCell ⟨g, 4, none⟩ e').setCell ⟨g, 5, none⟩ f').setCell ⟨g, 6, none⟩ i') g t #[a', b', c', d', e', f', i'] := by
  have h0 : Bx _ g t #[a', b, c, d, e, f, i] := h.set 0 a'
  have h1 : Bx _ g t #[a', b', c, d, e, f, i] := h0.set 1 b'
  have h2 : Bx _ g t #[a', b', c', d, e, f, i] := h1.set 2 c'
  have h3 : Bx _ g t #[a', b', c', d', e, f, i] := h2.set 3 d'
  have h4 : Bx _ g t #[a', b', c', d', e', f, i] := h3.set 4 e'
  have h5 : Bx _ g t #[a', b', c', d', e', f', i] := h4.set 5 f'
  exact h5.set 6 i'
theorem Bx.other7 {w : World} {g g' : Nat} {t : TypeId} {cs : Array Value} (h : Bx w g' t cs) (hne : g ≠ g') (a' b' c' d' e' f' i' : Value) :
    Bx (((((((w.setCell ⟨g, 0, none⟩ a').setCell ⟨g, 1, none⟩ b').setCell ⟨g, 2, none⟩ c').setCell ⟨g, 3, none⟩ d').setCell ⟨g, 4, none⟩ e').setCell ⟨g, 5, none⟩ f').setCell ⟨g, 6, none⟩ i') g' t cs := ((((((h.other hne 0 a').other hne 1 b').other hne 2 c').other hne 3 d').other hne 4 e').other hne 5 f').other hne 6 i'
theorem AcOwn.other7 {w : World} {g B : Nat} {r : AcR} (h : AcOwn w B r) (hne : g < B) (a' b' c' d' e' f' i' : Value) :
    AcOwn (((((((w.setCell ⟨g, 0, none⟩ a').setCell ⟨g, 1, none⟩ b').setCell ⟨g, 2, none⟩ c').setCell ⟨g, 3, none⟩ d').setCell ⟨g, 4, none⟩ e').setCell ⟨g, 5, none⟩ f').setCell ⟨g, 6, none⟩ i') B r := ((((((h.other hne 0 a').other hne 1 b').other hne 2 c').other hne 3 d').other hne 4 e').other hne 5 f').other hne 6 i'
theorem But.new7 {w0 w : World} {g q : Nat} (h : But g w0 w) (hq : w0.heap.size ≤ q) (a' b' c' d' e' f' i' : Value) :
    But g w0 (((((((w.setCell ⟨q, 0, none⟩ a').setCell ⟨q, 1, none⟩ b').setCell ⟨q, 2, none⟩ c').setCell ⟨q, 3, none⟩ d').setCell ⟨q, 4, none⟩ e').setCell ⟨q, 5, none⟩ f').setCell ⟨q, 6, none⟩ i') := ((((((h.setNew hq a').setNew hq b').setNew hq c').setNew hq d').setNew hq e').setNew hq f').setNew hq i'
end Go.Proofs.YtnflbgindcejjaaDoor
