/- The builder of a block in memory. -/
import Derived.Test.YthaiekilifoegaaWKey
import Derived.Test.YthaiekilifoegaaWVar
import Derived.Test.YthaiekilifoegaaPBlock
import Derived.Laws.Externs
namespace Go.Proofs.Ythaiekilifoegaa
open Go.RowKit
set_option linter.unusedVariables false

abbrev numCells (n : Nat) : List Value := [V64 n]
theorem numCells_len (n : Nat) : (numCells n).length = 1 := rfl
theorem numCells_one (n : Nat) : ∀ u ∈ numCells n, u.oneCell' = true := by
  intro u hu
  simp only [numCells, List.mem_singleton] at hu
  subst hu
  rfl
/-- The slice value v owns the numbers l. -/
abbrev OwnNums (w : World) (B : Nat) (v : Value) (l : List Nat) : Prop := OwnR 55 1 numCells w B v l
theorem NumsAt.of {w : World} {a : Option Addr} {l : List Nat} (h : RowsAt 1 numCells w a l) : NumsAt w a l := by
  intro i hi
  obtain ⟨b, o, rfl, hlt, hc⟩ := h i hi
  exact ⟨b, o, rfl, hlt, by have := hc 0 (by decide); rw [Nat.mul_one, Nat.add_zero] at this; rw [this]; rfl⟩
theorem infoU64 : (Try.prog.info? 55).map (fun i => (i.zero, i.size, i.bytes)) = some (some (.int .u64 0), 1, 8) := by kernel_rfl
theorem info_three {o : Option TypeInfo} {z : Value} {k b : Nat} (h : o.map (fun i => (i.zero, i.size, i.bytes)) = some (some z, k, b)) : ∃ i, o = some i ∧ i.zero = some z ∧ i.size = k ∧ i.bytes = b := by
  cases o with
  | none => cases h
  | some i =>
    simp only [Option.map_some, Option.some.injEq, Prod.mk.injEq] at h
    exact ⟨i, rfl, h.1, h.2.1, h.2.2⟩
/-- 'append(b, n)' of numbers, as one step of a region that draws. -/
theorem wp_pushNum {o : Oper} {a : Act} {w : World} {K : Act → World → Prop} {Q : Exit → Act → World → Prop} (s x : Operand)
    (ho : o.op = .call { callee := .builtin .append, args := #[s, x], argTypes := #[24, 24] }) (B : Nat) (v : Value) (l : List Nat) (c : Nat) (hs : a.eval s = v) (hown : OwnNums w B v l) (hl : l.length < 1000000)
    (g : Nat) (A : Array Value) (f : Nat × Nat) (hg : w.heap[g]? = some (.cells A 55 f)) (hA : A = (numCells c).toArray) (hx : a.eval x = .slice (some ⟨g, 0, none⟩) 1 1) (hB : B ≤ w.heap.size)
    (h : ∀ v' w', OwnNums w' B v' (l ++ [c]) → w.grownBy w' v.ownBlock → K (a.put o.dst v') w') :
    Oper.wp Try.prog o a w K Q := by
  obtain ⟨i, hq, h1, h2, h3⟩ := info_three infoU64
  exact wp_pushG s x 24 ho i _ 8 Try.underlying24 hq h1 h2 h3 rfl (by decide) numCells_len numCells_one c hs hown hl (by decide) g A f hg hA hx hB h
theorem step_pushNum {ops : Array Oper} {o : Oper} {a : Act} {w : World} {K : Act → World → Prop} {Q : Exit → Act → World → Prop} {E : Prop} (hgd : o.guard = none) (s x : Operand)
    (ho : o.op = .call { callee := .builtin .append, args := #[s, x], argTypes := #[24, 24] }) (B : Nat) (v : Value) (l : List Nat) (c : Nat) (hs : a.eval s = v) (hown : OwnNums w B v l) (hl : l.length < 1000000)
    (g : Nat) (A : Array Value) (f : Nat × Nat) (hg : w.heap[g]? = some (.cells A 55 f)) (hA : A = (numCells c).toArray) (hx : a.eval x = .slice (some ⟨g, 0, none⟩) 1 1) (hB : B ≤ w.heap.size)
    (h : ∀ v' w', OwnNums w' B v' (l ++ [c]) → w.grownBy w' v.ownBlock → K (a.put o.dst v') w') :
    if Region.wanted o (yielded ops a.tmps) = true then Oper.wp Try.prog o a w K Q else E := by
  have hw : Region.wanted o (yielded ops a.tmps) = true := by simp [Region.wanted, hgd]
  rw [if_pos hw]
  exact wp_pushNum s x ho B v l c hs hown hl g A f hg hA hx hB h

/-- The blocks of a builder. -/
def Blks (g : Nat) (vb vs : Value) (b : Nat) : Prop := b = g ∨ vb.ownBlock = some b ∨ vs.ownBlock = some b
def Blk2 (g : Nat) (vb : Value) (b : Nat) : Prop := b = g ∨ vb.ownBlock = some b
/-- The builder in box g: its bytes, its numbers, how many entries, the last key. -/
structure BldR (w : World) (B g : Nat) (vb vs : Value) (n : Nat) (last bs : List UInt8) (ns : List Nat) : Prop where
  hg : B ≤ g
  box : Bx w g 26 #[vb, vs, .int .i64 n, S last]
  own : Own w B vb bs
  nums : OwnNums w B vs ns
section
variable {w w' : World} {B g n : Nat} {vb vs : Value} {last bs : List UInt8} {ns : List Nat}
theorem Bx.four {a b c d : Value} {t : TypeId} (h : Bx w g t #[a, b, c, d]) : (w.cell? ⟨g, 0, none⟩ = some a ∧ w.cell? ⟨g, 1, none⟩ = some b ∧ w.cell? ⟨g, 2, none⟩ = some c ∧ w.cell? ⟨g, 3, none⟩ = some d) ∧ ∀ i, w.frozen? ⟨g, i, none⟩ = false :=
  ⟨⟨h.cell 0, h.cell 1, h.cell 2, h.cell 3⟩, h.frozen⟩
theorem BldR.up (h : BldR w B g vb vs n last bs ns) (hb : Below w.heap.size w w') : BldR w' B g vb vs n last bs ns := ⟨h.hg, h.box.up hb, h.own.upO hb, h.nums.up hb⟩
theorem BldR.nb (h : BldR w B g vb vs n last bs ns) : vb.ownBlock ≠ some g := fun e => by
  obtain ⟨_, _, cur, hx⟩ := h.own.lt e
  exact bx_ne hx h.box (by decide) rfl
theorem BldR.nn (h : BldR w B g vb vs n last bs ns) : vs.ownBlock ≠ some g := fun e => by
  obtain ⟨_, _, cur, hx⟩ := h.nums.lt e
  exact bx_ne hx h.box (by decide) rfl
theorem BldR.two (h : BldR w B g vb vs n last bs ns) {b : Nat} (h1 : vb.ownBlock = some b) : vs.ownBlock ≠ some b := fun e => by
  obtain ⟨_, _, cur, hx⟩ := h.own.lt h1
  obtain ⟨_, _, cur', hx'⟩ := h.nums.lt e
  exact bx_ne hx hx' (by decide) rfl
theorem BldR.le (h : BldR w B g vb vs n last bs ns) {b : Nat} (hb : Blks g vb vs b) : B ≤ b := by
  rcases hb with rfl | hb | hb
  · exact h.hg
  · exact (h.own.lt hb).1
  · exact (h.nums.lt hb).1
theorem BldR.below (h : BldR w B g vb vs n last bs ns) (hb : ButS (Blks g vb vs) w w') (hB : B ≤ w.heap.size) : Below B w w' := hb.below (fun _ hi => h.le hi) hB
theorem own_set {v : Value} {l : List UInt8} (h : Own w B v l) (hne : v.ownBlock ≠ some g) (i : Nat) (u : Value) : Own (w.setCell ⟨g, i, none⟩ u) B v l :=
  h.butS (ButS.set (p := fun b => b = g) rfl w i u) (fun q hq e => hne (by rw [hq, e]))
theorem nums_set {α : Type} {e : TypeId} {k : Nat} {cs : α → List Value} {v : Value} {l : List α} (h : OwnR e k cs w B v l) (hne : v.ownBlock ≠ some g) (i : Nat) (u : Value) : OwnR e k cs (w.setCell ⟨g, i, none⟩ u) B v l :=
  h.butS (ButS.set (p := fun b => b = g) rfl w i u) (fun q hq e => hne (by rw [hq, e]))
/-- A cell of the box is written. -/
theorem BldR.setN (h : BldR w B g vb vs n last bs ns) (m : Nat) : BldR (w.setCell ⟨g, 2, none⟩ (.int .i64 m)) B g vb vs m last bs ns :=
  ⟨h.hg, h.box.set 2 _, own_set h.own h.nb 2 _, nums_set h.nums h.nn 2 _⟩
theorem BldR.setK (h : BldR w B g vb vs n last bs ns) (k : List UInt8) : BldR (w.setCell ⟨g, 3, none⟩ (S k)) B g vb vs n k bs ns :=
  ⟨h.hg, h.box.set 3 _, own_set h.own h.nb 3 _, nums_set h.nums h.nn 3 _⟩
/-- A number is put behind the others. -/
theorem BldR.pushN (h : BldR w B g vb vs n last bs ns) {vs' : Value} {ns' : List Nat} (hn : OwnNums w' B vs' ns') (hgr : w.grownBy w' vs.ownBlock) :
    BldR (w'.setCell ⟨g, 1, none⟩ vs') B g vb vs' n last bs ns' ∧ Bx w' g 26 #[vb, vs, .int .i64 n, S last] ∧ ButS (Blks g vb vs) w (w'.setCell ⟨g, 1, none⟩ vs') := by
  have hbt : ButS (fun b => vs.ownBlock = some b) w w' := ButS.grown hgr (fun i hi => hi.symm)
  have hbx := h.box.butS hbt h.nn
  have hown := h.own.butS hbt (fun q hq e => h.two hq e)
  have hne : vs'.ownBlock ≠ some g := fun e => by
    obtain ⟨_, _, cur, hx⟩ := hn.lt e
    exact bx_ne hx hbx (by decide) rfl
  exact ⟨⟨h.hg, hbx.set 1 _, own_set hown h.nb 1 _, nums_set hn hne 1 _⟩, hbx, (hbt.mono (fun i _ hi => .inr (.inr hi))).trans (ButS.set (p := Blks g vb vs) (.inl rfl) w' 1 vs') (fun _ _ h => h)⟩
/-- Bytes are put behind the others. -/
theorem BldR.pushB (h : BldR w B g vb vs n last bs ns) {vb' : Value} {bs' : List UInt8} (hn : Own w' B vb' bs') (hgr : w.grownBy w' vb.ownBlock) :
    BldR (w'.setCell ⟨g, 0, none⟩ vb') B g vb' vs n last bs' ns ∧ Bx w' g 26 #[vb, vs, .int .i64 n, S last] ∧ ButS (Blk2 g vb) w (w'.setCell ⟨g, 0, none⟩ vb') := by
  have hbt : ButS (fun b => vb.ownBlock = some b) w w' := ButS.grown hgr (fun i hi => hi.symm)
  have hbx := h.box.butS hbt h.nb
  have hnum := h.nums.butS hbt (fun q hq e => h.two e hq)
  have hne : vb'.ownBlock ≠ some g := fun e => by
    obtain ⟨_, _, cur, hx⟩ := hn.lt e
    exact bx_ne hx hbx (by decide) rfl
  exact ⟨⟨h.hg, hbx.set 0 _, own_set hn hne 0 _, nums_set hnum h.nn 0 _⟩, hbx, (hbt.mono (fun i _ hi => .inr hi)).trans (ButS.set (p := Blk2 g vb) (.inl rfl) w' 0 vb') (fun _ _ h => h)⟩
theorem ButS.chainS {p q : Nat → Prop} {a b c : World} (h : ButS p a b) (k : ButS q b c) (hq : ∀ i, i < a.heap.size → q i → p i) : ButS p a c := h.trans k hq
/-- The numbers' block is the old one or new. -/
theorem own_old {α : Type} {e : TypeId} {k : Nat} {cs : α → List Value} {v : Value} {l : List α} (h : OwnR e k cs w B v l) {b : Nat} {t : TypeId} {c : Array Value} (hx : Bx w b t c) (ht : t ≠ e) : v.ownBlock ≠ some b := fun hh => by
  obtain ⟨_, _, cur, hy⟩ := h.lt hh
  exact bx_ne hx hy ht rfl
end
end Go.Proofs.Ythaiekilifoegaa
