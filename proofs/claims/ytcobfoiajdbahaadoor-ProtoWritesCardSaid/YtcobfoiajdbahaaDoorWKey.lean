/- Laws for the walks: worlds between which some blocks alone have changed; a slice of bytes that is read: its beginning, a text put behind it, as a string. -/
import Derived.Test.YtcobfoiajdbahaaDoorWOwn
import Derived.Test.YtcobfoiajdbahaaDoorWBut
import Derived.Lib.AppendStr
import Derived.Lib.AppendIntMem
import Derived.Deep.Upon
namespace Go.Proofs.YtcobfoiajdbahaaDoor
open Go.RowKit
set_option linter.unusedVariables false

/-! ### Worlds between which blocks of a kind alone have changed, and new ones have come -/
def ButS (p : Nat → Prop) (w w' : World) : Prop := w'.os = w.os ∧ w'.tape = w.tape ∧ w'.output = w.output ∧ w.heap.size ≤ w'.heap.size ∧ ∀ b, b < w.heap.size → ¬ p b → w'.heap[b]? = w.heap[b]?
section
variable {p q : Nat → Prop} {a b w w' : World}
theorem ButS.refl (p : Nat → Prop) (w : World) : ButS p w w := ⟨rfl, rfl, rfl, Nat.le_refl _, fun _ _ _ => rfl⟩
theorem ButS.size (h : ButS p a b) : a.heap.size ≤ b.heap.size := h.2.2.2.1
theorem ButS.mono (h : ButS p a b) (hpq : ∀ i, i < a.heap.size → p i → q i) : ButS q a b := ⟨h.1, h.2.1, h.2.2.1, h.2.2.2.1, fun i hi hq => h.2.2.2.2 i hi (fun hp => hq (hpq i hi hp))⟩
theorem ButS.trans (h : ButS p a b) (k : ButS q b w) (hpq : ∀ i, i < a.heap.size → q i → p i) : ButS p a w :=
  ⟨k.1.trans h.1, k.2.1.trans h.2.1, k.2.2.1.trans h.2.2.1, Nat.le_trans h.2.2.2.1 k.2.2.2.1, fun i hi hp => (k.2.2.2.2 i (Nat.lt_of_lt_of_le hi h.2.2.2.1) (fun hq => hp (hpq i hi hq))).trans (h.2.2.2.2 i hi hp)⟩
theorem ButS.of (h : Below a.heap.size a b) : ButS p a b := ⟨h.os, h.tape, h.output, h.size, fun i hi _ => h.block i hi⟩
theorem ButS.up (h : ButS p a b) (hb : Below b.heap.size b w) : ButS p a w := h.trans (ButS.of (p := p) hb) (fun _ _ h => h)
theorem ButS.grown {r : Option Nat} (h : a.grownBy b r) (hp : ∀ i, some i = r → p i) : ButS p a b := ⟨h.os, h.tape, h.output, h.size, fun i hi hn => h.block i hi (fun e => hn (hp i e))⟩
theorem ButS.set {g : Nat} (hg : p g) (w : World) (i : Nat) (v : Value) : ButS p w (w.setCell ⟨g, i, none⟩ v) :=
  ⟨rfl, rfl, rfl, by simp [World.setCell], fun b _ hn => Below.heap_setCell _ _ _ _ (fun e => hn (by rw [show b = g from e]; exact hg))⟩
theorem ButS.below {B : Nat} (h : ButS p a b) (hp : ∀ i, p i → B ≤ i) (hB : B ≤ a.heap.size) : Below B a b :=
  ⟨h.1, h.2.1, h.2.2.1, h.2.2.2.1, fun i hi => h.2.2.2.2 i (by omega) (fun hh => by have := hp i hh; omega)⟩
theorem Bx.butS {g : Nat} {t : TypeId} {cs : Array Value} (h : Bx a g t cs) (hb : ButS p a b) (hn : ¬ p g) : Bx b g t cs := (hb.2.2.2.2 g h.lt hn).trans h
theorem OwnR.butS {α : Type} {e : TypeId} {k : Nat} {cs : α → List Value} {B : Nat} {v : Value} {l : List α} (h : OwnR e k cs a B v l) (hb : ButS p a b) (hn : ∀ g, v.ownBlock = some g → ¬ p g) : OwnR e k cs b B v l := by
  obtain ⟨h1, h2⟩ := h
  refine ⟨h1, ?_⟩
  rcases h2 with h2 | ⟨q, cap, cur, rfl, e2, e3, e4⟩
  · exact .inl h2
  · have hq : q < a.heap.size := by
      rcases Nat.lt_or_ge q a.heap.size with h | h
      · exact h
      · rw [Array.getElem?_eq_none h] at e3; cases e3
    exact .inr ⟨q, cap, cur, rfl, e2, (hb.2.2.2.2 q hq (hn q rfl)).trans e3, e4⟩
theorem Own.butS {B : Nat} {v : Value} {l : List UInt8} (h : Own a B v l) (hb : ButS p a b) (hn : ∀ g, v.ownBlock = some g → ¬ p g) : Own b B v l := by
  obtain ⟨h1, h2⟩ := h
  refine ⟨h1, ?_⟩
  rcases h2 with h2 | ⟨q, cap, cur, rfl, e2, e3, e4⟩
  · exact .inl h2
  · have hq : q < a.heap.size := by
      rcases Nat.lt_or_ge q a.heap.size with h | h
      · exact h
      · rw [Array.getElem?_eq_none h] at e3; cases e3
    exact .inr ⟨q, cap, cur, rfl, e2, (hb.2.2.2.2 q hq (hn q rfl)).trans e3, e4⟩
end

/-! ### Blocks of rows and bytes that the call owns: which they are not -/
theorem OwnR.lt {α : Type} {e : TypeId} {k : Nat} {cs : α → List Value} {w : World} {B : Nat} {v : Value} {l : List α} (h : OwnR e k cs w B v l) {g : Nat} (hg : v.ownBlock = some g) : B ≤ g ∧ g < w.heap.size ∧ ∃ cur, Bx w g e cur := by
  rcases h.2 with ⟨rfl, _⟩ | ⟨q, cap, cur, rfl, e2, e3, _⟩
  · cases hg
  · simp only [Value.ownBlock, Option.some.injEq] at hg
    subst hg
    exact ⟨e2, Bx.lt (w := w) (t := e) (cs := cur) e3, cur, e3⟩
theorem Own.lt {w : World} {B : Nat} {v : Value} {l : List UInt8} (h : Own w B v l) {g : Nat} (hg : v.ownBlock = some g) : B ≤ g ∧ g < w.heap.size ∧ ∃ cur, Bx w g 5 cur := by
  rcases h.2 with ⟨rfl, _⟩ | ⟨q, cap, cur, rfl, e2, e3, _⟩
  · cases hg
  · simp only [Value.ownBlock, Option.some.injEq] at hg
    subst hg
    exact ⟨e2, Bx.lt (w := w) (t := 5) (cs := cur) e3, cur, e3⟩
theorem bx_ne {w : World} {g h : Nat} {t u : TypeId} {A B : Array Value} (hx : Bx w g t A) (hy : Bx w h u B) (ht : t ≠ u) : g ≠ h := by
  rintro rfl
  unfold Bx at hx hy
  rw [hx] at hy
  injection hy with h1
  injection h1 with h2 h3
  exact ht h3
theorem Own.upO {w w' : World} {B : Nat} {v : Value} {l : List UInt8} (h : Own w B v l) (hb : Below w.heap.size w w') : Own w' B v l := by
  refine ⟨h.1, ?_⟩
  rcases h.2 with hn | ⟨g, cap, cur, rfl, hB, hg, rest⟩
  · exact .inl hn
  · exact .inr ⟨g, cap, cur, rfl, hB, (Bx.up (w := w) (w' := w') (t := 5) (cs := cur) hg hb), rest⟩
theorem Own.isO {w : World} {B : Nat} {v : Value} {l : List UInt8} (h : Own w B v l) : ∃ a c, v = .slice a l.length c ∧ (a = none → l = []) := by
  rcases h.2 with ⟨rfl, h0⟩ | ⟨g, cap, cur, rfl, _⟩
  · exact ⟨none, 0, by rw [h0], fun _ => List.length_eq_zero_iff.1 h0⟩
  · exact ⟨_, _, rfl, fun h => by cases h⟩

/-- 'append(b, s...)', s a string: one operation. -/
theorem wp_appOwn {o : Oper} {a : Act} {w : World} {K : Act → World → Prop} {Q : Exit → Act → World → Prop} (s x : Operand)
    (ho : o.op = .call { callee := .builtin .append, args := #[s, x], argTypes := #[85, 9] }) (B : Nat) (v : Value) (l m : List UInt8) (hs : a.eval s = v) (hown : Own w B v l) (hx : a.eval x = S m) (hl : l.length + m.length ≤ 140737488355328) (hB : B ≤ w.heap.size)
    (h : ∀ v' w', Own w' B v' (l ++ m) → w.grownBy w' v.ownBlock → (v'.ownBlock = v.ownBlock ∨ ∀ g, v'.ownBlock = some g → w.heap.size ≤ g) → K (a.put o.dst v') w') : Oper.wp Tryd.prog o a w K Q := by
  have hi := info8
  cases hq : Tryd.prog.info? 5 with
  | none => rw [hq] at hi; cases hi
  | some i =>
    rw [hq] at hi
    simp only [Option.map_some, Option.some.injEq, Prod.mk.injEq] at hi
    have hmz : (ByteArray.mk m.toArray).size = m.length := by show m.toArray.size = _; simp
    obtain ⟨v', w', hr, h2, h3, _⟩ := Lib.run_append_own_string (P := Tryd.prog) w B 85 9 o.type 5 i Tryd.underlying85 Tryd.underlying9 hq hi.1 hi.2.1 hi.2.2 v l.length (l.map u8V) hown ⟨m.toArray⟩
      (by rw [hmz]; unfold maxLen; omega) (by rw [hmz]; omega) hB
    have hsn : v'.ownBlock = v.ownBlock ∨ ∀ g, v'.ownBlock = some g → w.heap.size ≤ g := by
      rcases hown.2 with ⟨rfl, h0⟩ | ⟨g, cap, cur, rfl, hBg, hg, hnc, hcm, hcs, htake⟩
      · obtain ⟨v2, w2, hr', h2', _, _⟩ := Lib.run_append_own_string (P := Tryd.prog) w w.heap.size 85 9 o.type 5 i Tryd.underlying85 Tryd.underlying9 hq hi.1 hi.2.1 hi.2.2 (.slice none 0 0) 0 [] (World.ownsRow_nil w w.heap.size _ 1) ⟨m.toArray⟩
          (by rw [hmz]; unfold maxLen; omega) (by rw [hmz]; omega) (Nat.le_refl _)
        rw [hr'] at hr
        injection hr with e1 _
        subst e1
        exact .inr fun q hq' => (h2'.lt q hq').1
      · by_cases hroom : l.length + m.length ≤ cap
        · have hr' := Lib.run_append_room_string (P := Tryd.prog) (w := w) 85 9 o.type 5 i Tryd.underlying85 Tryd.underlying9 hq hi.2.1 g l.length cap cur hg ⟨m.toArray⟩ (by rw [hmz]; exact hroom) (by rw [hmz]; omega)
          rw [hr'] at hr
          injection hr with e1 _
          rw [← e1]
          exact .inl rfl
        · have hr' := Lib.run_append_grow_string (P := Tryd.prog) w 85 9 o.type 5 i (.int .u8 0) Tryd.underlying85 Tryd.underlying9 hq hi.1 ⟨g, 0, none⟩ l.length cap (cur.toList.take l.length) (by rw [hi.2.1]; simp; omega)
            (fun j u hu => by
              have hjl : j < l.length := by
                rcases Nat.lt_or_ge j l.length with h | h
                · exact h
                · rw [List.getElem?_take, if_neg (by omega)] at hu; cases hu
              rw [List.getElem?_take, if_pos hjl] at hu
              rw [show (⟨g, 0, none⟩ : Addr).add j = ⟨g, j, none⟩ by unfold Addr.add; split <;> simp_all]
              simp only [World.cell?, hg]
              simpa using hu)
            ⟨m.toArray⟩ (by rw [hmz]; omega) (by rw [hmz]; omega) (by rw [hmz, hi.2.2]; exact growslice_fits (by omega) (by omega))
          rw [hr'] at hr
          injection hr with e1 _
          rw [← e1]
          exact .inr fun q hq' => by
            simp only [Value.ownBlock, Option.some.injEq] at hq'
            omega
    unfold Oper.wp execOp
    simp only [ho, resolve, invoke, builtin, Sem.run_bind, Sem.run_pure, Result.andThen_ok, List.map_toArray, List.map_cons, List.map_nil, hs, hx, hr]
    refine h v' w' ?_ h3 hsn
    unfold Own
    rw [show Lib.strCells ⟨m.toArray⟩ = m.map u8V by rw [Lib.strCells_toArray]; rfl, hmz] at h2
    simpa using h2
theorem wpList_appOwn {ops : Array Oper} {rest : List Oper} {o : Oper} {a : Act} {w : World} {Q : Exit → Act → World → Prop} (hgd : o.guard = none) (s x : Operand)
    (ho : o.op = .call { callee := .builtin .append, args := #[s, x], argTypes := #[85, 9] }) (B : Nat) (v : Value) (l m : List UInt8) (hs : a.eval s = v) (hown : Own w B v l) (hx : a.eval x = S m) (hl : l.length + m.length ≤ 140737488355328) (hB : B ≤ w.heap.size)
    (h : ∀ v' w', Own w' B v' (l ++ m) → w.grownBy w' v.ownBlock → (v'.ownBlock = v.ownBlock ∨ ∀ g, v'.ownBlock = some g → w.heap.size ≤ g) → wpList Tryd.prog ops Q rest (a.put o.dst v') w') :
    wpList Tryd.prog ops Q (o :: rest) a w :=
  wpList_plain hgd fun _ hK => wp_appOwn s x ho B v l m hs hown hx hl hB fun v' w' h1 h2 h3 => hK _ _ (h v' w' h1 h2 h3)
theorem step_appOwn {ops : Array Oper} {o : Oper} {a : Act} {w : World} {K : Act → World → Prop} {Q : Exit → Act → World → Prop} {E : Prop} (hgd : o.guard = none) (s x : Operand)
    (ho : o.op = .call { callee := .builtin .append, args := #[s, x], argTypes := #[85, 9] }) (B : Nat) (v : Value) (l m : List UInt8) (hs : a.eval s = v) (hown : Own w B v l) (hx : a.eval x = S m) (hl : l.length + m.length ≤ 140737488355328) (hB : B ≤ w.heap.size)
    (h : ∀ v' w', Own w' B v' (l ++ m) → w.grownBy w' v.ownBlock → (v'.ownBlock = v.ownBlock ∨ ∀ g, v'.ownBlock = some g → w.heap.size ≤ g) → K (a.put o.dst v') w') :
    if Region.wanted o (yielded ops a.tmps) = true then Oper.wp Tryd.prog o a w K Q else E := by
  have hw : Region.wanted o (yielded ops a.tmps) = true := by simp [Region.wanted, hgd]
  rw [if_pos hw]
  exact wp_appOwn s x ho B v l m hs hown hx hl hB h

/-! ### A row of one more that the call owns, with what it leaves -/
section
variable {α : Type} {e : TypeId} {k : Nat} {cs : α → List Value} {w : World} {B : Nat} {v : Value} {l : List α}
theorem wp_pushG {P : Program} {o : Oper} {a : Act} {K : Act → World → Prop} {Q : Exit → Act → World → Prop} (s x : Operand) (t : TypeId)
    (ho : o.op = .call { callee := .builtin .append, args := #[s, x], argTypes := #[t, t] })
    (i : TypeInfo) (z : Value) (bytes : Nat) (ht : P.underlying t = some (.slice e)) (hi : P.info? e = some i) (hz : i.zero = some z)
    (hsize : i.size = k) (hby : i.bytes = bytes) (hzs : z.cells.size = k) (hsz : 0 < k) (hk : ∀ x, (cs x).length = k) (hone : ∀ x, ∀ u ∈ cs x, u.oneCell' = true)
    (c : α) (hs : a.eval s = v) (hown : OwnR e k cs w B v l) (hl : l.length < 1000000) (hbb : bytes ≤ 100000)
    (g : Nat) (A : Array Value) (f : Nat × Nat) (hg : w.heap[g]? = some (.cells A e f)) (hA : A = (cs c).toArray)
    (hx : a.eval x = .slice (some ⟨g, 0, none⟩) 1 1) (hB : B ≤ w.heap.size)
    (h : ∀ v' w', OwnR e k cs w' B v' (l ++ [c]) → w.grownBy w' v.ownBlock → K (a.put o.dst v') w') : Oper.wp P o a w K Q := by
  subst hA
  refine wp_append_own _ s x t ho B e i z k bytes ht hi hz hsize hby hzs hsz v l.length (l.flatMap cs) hs hown
    ⟨g, 0, none⟩ 1 1 (cs c) hx (by rw [hk]; omega) ?_ ?_ ?_ ?_ hB ?_
  · intro j u hj
    have e2 : Addr.add ⟨g, 0, none⟩ j = ⟨g, j, none⟩ := by
      unfold Addr.add
      split
      · rename_i h; subst h; rfl
      · simp
    rw [e2]
    simp only [World.cell?, hg]
    simpa using hj
  · exact hone c
  · unfold maxLen; omega
  · have : (l.length + 1) * bytes ≤ 1000000 * 100000 := Nat.mul_le_mul (by omega) hbb
    omega
  · intro v' w' h1 h2 _
    refine h v' w' ?_ h2
    unfold OwnR
    simpa using h1
end

/-! ### A slice of bytes that is read -/
def KeyV (w : World) (v : Value) (k : List UInt8) : Prop :=
  (v = .slice none 0 0 ∧ k = []) ∨ ∃ g c, v = .slice (some ⟨g, 0, none⟩) k.length c ∧ k.length ≤ c ∧ (∃ cur fz, w.heap[g]? = some (.cells cur 5 fz)) ∧ BytesAt w g k
theorem lt_of_cells {w : World} {g : Nat} {o : Obj} (h : w.heap[g]? = some o) : g < w.heap.size := by
  rcases Nat.lt_or_ge g w.heap.size with hh | hh
  · exact hh
  · rw [Array.getElem?_eq_none hh] at h; cases h
theorem KeyV.ne {w : World} {v : Value} {k : List UInt8} (h : KeyV w v k) {b : Nat} {t : TypeId} {cs : Array Value} (hx : Bx w b t cs) (ht : t ≠ 5) : v.ownBlock ≠ some b := by
  rcases h with ⟨rfl, _⟩ | ⟨g, c, rfl, _, ⟨cur, fz, hg⟩, _⟩
  · intro h; cases h
  · intro h
    simp only [Value.ownBlock, Option.some.injEq] at h
    subst h
    unfold Bx at hx
    rw [hx] at hg
    injection hg with hg
    injection hg with _ hg
    exact ht hg
theorem keyV_nil (w : World) : KeyV w (.slice none 0 0) [] := .inl ⟨rfl, rfl⟩
theorem KeyV.keep {w w' : World} {v : Value} {k : List UInt8} (h : KeyV w v k) (hs : w.heap.size ≤ w'.heap.size) (hb : ∀ g, v.ownBlock = some g → w'.heap[g]? = w.heap[g]?) : KeyV w' v k := by
  rcases h with h | ⟨g, c, rfl, h1, h2, h3⟩
  · exact .inl h
  · obtain ⟨cur, fz, h2⟩ := h2
    refine .inr ⟨g, c, rfl, h1, ⟨cur, fz, (hb g rfl).trans h2⟩, fun j hj => ?_⟩
    rw [World.cell?_of_block (a := ⟨g, j, none⟩) (hb g rfl)]
    exact h3 j hj
theorem KeyV.lt {w : World} {v : Value} {k : List UInt8} (h : KeyV w v k) {g : Nat} (hg : v.ownBlock = some g) : g < w.heap.size := by
  rcases h with ⟨rfl, _⟩ | ⟨g', c, rfl, h1, h2, h3⟩
  · cases hg
  · simp only [Value.ownBlock, Option.some.injEq] at hg
    subst hg
    obtain ⟨_, _, h2⟩ := h2
    exact lt_of_cells h2
theorem KeyV.up {w w' : World} {v : Value} {k : List UInt8} (h : KeyV w v k) (hb : Below w.heap.size w w') : KeyV w' v k := h.keep hb.size fun _ hg => hb.block _ (h.lt hg)
theorem KeyV.butS {w w' : World} {v : Value} {k : List UInt8} {p : Nat → Prop} (h : KeyV w v k) (hb : ButS p w w') (hn : ∀ g, v.ownBlock = some g → ¬ p g) : KeyV w' v k := h.keep hb.size fun g hg => hb.2.2.2.2 g (h.lt hg) (hn g hg)
theorem KeyV.is {w : World} {v : Value} {k : List UInt8} (h : KeyV w v k) : ∃ a c, v = .slice a k.length c ∧ (a = none → k = []) ∧ k.length ≤ c := by
  rcases h with ⟨rfl, rfl⟩ | ⟨g, c, rfl, h1, _⟩
  · exact ⟨none, 0, rfl, fun _ => rfl, Nat.le_refl _⟩
  · exact ⟨_, _, rfl, fun h => (by cases h), h1⟩
theorem KeyV.of {w : World} {B : Nat} {v : Value} {l : List UInt8} (h : Own w B v l) : KeyV w v l := by
  obtain ⟨hlen, h⟩ := h
  rcases h with ⟨rfl, h0⟩ | ⟨g, cap, cur, rfl, _, hg, hnc, _, _, htake⟩
  · exact .inl ⟨rfl, List.length_eq_zero_iff.1 h0⟩
  · refine .inr ⟨g, cap, rfl, hnc, ⟨cur, _, hg⟩, fun j hj => ?_⟩
    have : cur.toList[j]? = some (u8V l[j]) := by
      have := congrArg (fun q : List Value => q[j]?) htake
      simp only [List.getElem?_take, Nat.mul_one] at this
      rw [if_pos hj] at this
      rw [this]
      simp [hj]
    simp only [World.cell?, hg]
    simpa [u8V] using this
set_option maxRecDepth 100000 in
theorem KeyV.string {w : World} {v : Value} {l : List UInt8} (h : KeyV w v l) : (convert 85 9 v).run Tryd.prog w = .ok (S l) w := by
  rcases h with ⟨rfl, rfl⟩ | ⟨g, cap, rfl, _, _, hc⟩
  · have hr := run_convert_bytes_nil (P := Tryd.prog) (w := w) 85 5 Tryd.underlying85 Tryd.underlying5 0 0
    exact hr 9 Tryd.underlying9
  · have hr := run_convert_bytes_arg (P := Tryd.prog) (w := w) 85 5 Tryd.underlying85 Tryd.underlying5 g 0 l.length cap (l.map fun b => (b.toNat : Int)) (by simp) (fun i hi => by
      rw [Nat.zero_add, hc i hi]
      simp [hi]) 9 Tryd.underlying9
    rw [hr]
    have e1 : strOfNums (l.map fun b => (b.toNat : Int)) = ⟨l.toArray⟩ := by
      unfold strOfNums
      congr 2
      rw [List.map_map]
      conv => rhs; rw [← List.map_id l]
      apply List.map_congr_left
      intro b _
      simp
    rw [e1]
/-- 'string(b)'. -/
theorem wpList_strKey {ops : Array Oper} {Q : Exit → Act → World → Prop} {a : Act} {w : World} {rest : List Oper} {d : Option Tmp} {ty : TypeId} {pos : String} {aft : Array Edge} {x : Operand} {v : Value} {l : List UInt8} (hx : a.eval x = v) (hown : KeyV w v l)
    (h : wpList Tryd.prog ops Q rest (a.put d (S l)) w) : wpList Tryd.prog ops Q (⟨d, .convert 85 9 x, ty, pos, aft, none⟩ :: rest) a w := by
  refine wpList_plain rfl fun K hK => ?_
  have hrun := hown.string
  unfold Oper.wp execOp
  simp only [hx, Sem.run_bind, hrun, Result.andThen_ok, Sem.run_pure]
  exact hK _ _ h

/-- 'append(k[:n:n], s...)'. -/
theorem wp_appKey {o : Oper} {a : Act} {w : World} {K : Act → World → Prop} {Q : Exit → Act → World → Prop} (s x : Operand)
    (ho : o.op = .call { callee := .builtin .append, args := #[s, x], argTypes := #[85, 9] }) (v : Value) (k m : List UInt8) (ao : Option Addr) (n c : Nat) (hv : v = .slice ao k.length c) (hn : n ≤ k.length)
    (hs : a.eval s = .slice ao n n) (hown : KeyV w v k) (hx : a.eval x = S m) (hl : k.length + m.length ≤ 1000000)
    (h : ∀ v' w', KeyV w' v' (k.take n ++ m) → Below w.heap.size w w' → (v'.ownBlock = v.ownBlock ∨ ∀ g, v'.ownBlock = some g → w.heap.size ≤ g) → K (a.put o.dst v') w') : Oper.wp Tryd.prog o a w K Q := by
  have hi := info8
  cases hq : Tryd.prog.info? 5 with
  | none => rw [hq] at hi; cases hi
  | some i =>
    rw [hq] at hi
    simp only [Option.map_some, Option.some.injEq, Prod.mk.injEq] at hi
    have hmz : (ByteArray.mk m.toArray).size = m.length := by show m.toArray.size = _; simp
    rcases hown with ⟨rfl, rfl⟩ | ⟨g, c', hv', hc, hlt, hat⟩
    · injection hv with h1 h2 h3
      subst h1
      obtain rfl : n = 0 := by simpa using hn
      obtain ⟨v', w', hr, h2, h3, _⟩ := Lib.run_append_own_string (P := Tryd.prog) w w.heap.size 85 9 o.type 5 i Tryd.underlying85 Tryd.underlying9 hq hi.1 hi.2.1 hi.2.2 (.slice none 0 0) 0 [] (World.ownsRow_nil w w.heap.size _ 1) ⟨m.toArray⟩
        (by rw [hmz]; unfold maxLen; simp at hl; omega) (by rw [hmz]; simp at hl; omega) (Nat.le_refl _)
      unfold Oper.wp execOp
      simp only [ho, resolve, invoke, builtin, Sem.run_bind, Sem.run_pure, Result.andThen_ok, List.map_toArray, List.map_cons, List.map_nil, hs, hx, hr]
      have hO : Own w' w.heap.size v' m := by
        unfold Own
        rw [show Lib.strCells ⟨m.toArray⟩ = m.map u8V by rw [Lib.strCells_toArray]; rfl, hmz] at h2
        simpa using h2
      refine h v' w' (by simpa using KeyV.of hO) ((Below.refl _ _).grown h3 (Nat.le_refl _) (fun q hq => by cases hq)) (.inr fun q hq => (hO.lt hq).1)
    · subst hv
      injection hv' with h1 h2 h3
      subst h1 h3
      by_cases hm : m = []
      · subst hm
        have hr := run_append_room_src (P := Tryd.prog) (w := w) 85 9 o.type 5 i Tryd.underlying85 hq g 0 n n (.string ⟨#[]⟩) 0 (Go.byteCells ⟨#[]⟩)
          (by rw [hi.2.1]; exact Src.ofString (P := Tryd.prog) w Tryd.underlying9 ⟨#[]⟩) (Nat.le_refl _) (fun j hj => by simp [Go.byteCells] at hj) (fun j hj => by simp [Go.byteCells] at hj)
        unfold Oper.wp execOp
        simp only [ho, resolve, invoke, builtin, Sem.run_bind, Sem.run_pure, Result.andThen_ok, List.map_toArray, List.map_cons, List.map_nil, hs, hx]
        have hx' : (S ([] : List UInt8)) = .string ⟨#[]⟩ := rfl
        rw [hx', hr]
        have hw : w.setCells g (0 + n * i.size) (Go.byteCells ⟨#[]⟩) = w := rfl
        simp only [hw, Nat.add_zero]
        refine h _ w (.inr ⟨g, n, ?_, ?_, hlt, fun j hj => ?_⟩) (Below.refl _ _) (.inl rfl)
        · rw [List.append_nil, List.length_take, Nat.min_eq_left hn]
        · rw [List.append_nil, List.length_take, Nat.min_eq_left hn]; exact Nat.le_refl _
        · have hj' : j < n := by simp at hj; omega
          rw [hat j (by omega)]
          simp
      · have hm1 : 1 ≤ m.length := by cases m; exact absurd rfl hm; simp
        have hr := Lib.run_append_grow_string (P := Tryd.prog) w 85 9 o.type 5 i (.int .u8 0) Tryd.underlying85 Tryd.underlying9 hq hi.1 ⟨g, 0, none⟩ n n ((k.take n).map u8V) (by rw [hi.2.1]; simp; omega)
          (fun j u hu => by
            have hjl : j < n := by
              rcases Nat.lt_or_ge j n with h | h
              · exact h
              · rw [List.getElem?_eq_none (by simp; omega)] at hu; cases hu
            rw [show (⟨g, 0, none⟩ : Addr).add j = ⟨g, j, none⟩ by unfold Addr.add; split <;> simp_all, hat j (by omega)]
            simp [hjl, show j < k.length by omega] at hu
            rw [← hu]; rfl)
          ⟨m.toArray⟩ (by rw [hmz]; omega) (by rw [hmz]; omega) (by rw [hmz, hi.2.2]; exact growslice_fits (by omega) (by omega))
        rw [hmz] at hr
        have hge := grownCap_ge w (n + m.length) n 5
        generalize grownCap w (n + m.length) n 5 = cap' at *
        unfold Oper.wp execOp
        simp only [ho, resolve, invoke, builtin, Sem.run_bind, Sem.run_pure, Result.andThen_ok, List.map_toArray, List.map_cons, List.map_nil, hs, hx, hr]
        have hstr : Lib.strCells ⟨m.toArray⟩ = m.map u8V := by rw [Lib.strCells_toArray]; rfl
        generalize hrw : ((k.take n).map u8V).toArray ++ (Lib.strCells ⟨m.toArray⟩).toArray ++ Builtin.zeroCells (Value.int IntKind.u8 0).cells (cap' - (n + m.length)) = rw' at *
        have hcell : ∀ j, (w.drew.alloc (.cells rw' 5)).cell? ⟨w.heap.size, j, none⟩ = rw'[j]? := fun j => by
          have h := World.cell?_alloc_new w.drew rw' 5 j
          rwa [World.size_drew] at h
        have hlen : (k.take n ++ m).length = n + m.length := by rw [List.length_append, List.length_take, Nat.min_eq_left hn]
        refine h _ _ (.inr ⟨w.heap.size, cap', by rw [hlen], by rw [hlen]; exact hge, ⟨rw', (0, 0), by show (w.heap.push _)[w.heap.size]? = _; simp⟩, fun j hj => ?_⟩) ((Below.refl _ _).drew.alloc (Nat.le_refl _) _) (.inr fun q hq => by
          simp only [Value.ownBlock, Option.some.injEq] at hq
          omega)
        rw [hcell, ← hrw, hstr]
        have : ((k.take n).map u8V).toArray ++ (m.map u8V).toArray = ((k.take n ++ m).map u8V).toArray := by simp
        rw [this, Array.getElem?_append_left (by simpa using hj), List.getElem?_toArray, List.getElem?_map, List.getElem?_eq_getElem hj]
        rfl
theorem wpList_appKey {ops : Array Oper} {rest : List Oper} {o : Oper} {a : Act} {w : World} {Q : Exit → Act → World → Prop} (hgd : o.guard = none) (s x : Operand)
    (ho : o.op = .call { callee := .builtin .append, args := #[s, x], argTypes := #[85, 9] }) (v : Value) (k m : List UInt8) (ao : Option Addr) (n c : Nat) (hv : v = .slice ao k.length c) (hn : n ≤ k.length)
    (hs : a.eval s = .slice ao n n) (hown : KeyV w v k) (hx : a.eval x = S m) (hl : k.length + m.length ≤ 1000000)
    (h : ∀ v' w', KeyV w' v' (k.take n ++ m) → Below w.heap.size w w' → (v'.ownBlock = v.ownBlock ∨ ∀ g, v'.ownBlock = some g → w.heap.size ≤ g) → wpList Tryd.prog ops Q rest (a.put o.dst v') w') :
    wpList Tryd.prog ops Q (o :: rest) a w :=
  wpList_plain hgd fun _ hK => wp_appKey s x ho v k m ao n c hv hn hs hown hx hl fun v' w' h1 h2 h3 => hK _ _ (h v' w' h1 h2 h3)
end Go.Proofs.YtcobfoiajdbahaaDoor
