/- Appends of bytes and of acts to slices that the call owns. -/
import Derived.Test.YtnflbgindcejjaaDoorWSLaw
import Derived.Test.YtnflbgindcejjaaDoorWOwnA
namespace Go.Proofs.YtnflbgindcejjaaDoor
open Go.RowKit
set_option linter.unusedVariables false
set_option linter.unusedSimpArgs false

/-- A guarded operation that is wanted goes as one without a guard. -/
theorem wpList_unguardA {P : Program} {ops : Array Oper} {rest : List Oper} {o : Oper} {a : Act} {w : World} {Q : Exit → Act → World → Prop} (hw : Region.wanted o (yielded ops a.tmps) = true)
    (h : wpList P ops Q ({ o with guard := none } :: rest) a w) : wpList P ops Q (o :: rest) a w := by
  unfold wpList at h ⊢
  rw [if_pos hw]
  have h1 : Region.wanted { o with guard := none } (yielded ops a.tmps) = true := rfl
  rw [if_pos h1] at h
  exact h
/-- A byte's cell. -/
def byC (b : UInt8) : List Value := [u8V b]
theorem byC_len (b : UInt8) : (byC b).length = 1 := rfl
theorem byC_one (b : UInt8) : ∀ u ∈ byC b, u.oneCell' = true := by
  intro u hu
  obtain rfl := List.mem_singleton.1 hu
  rfl
theorem own_rows {w : World} {B : Nat} {v : Value} {l : List UInt8} : Own w B v l ↔ OwnR 5 1 byC w B v l := by
  unfold Own OwnR
  rw [show l.flatMap byC = l.map u8V by induction l with | nil => rfl | cons b l ih => simp [List.flatMap_cons, ih, byC]]
/-- 'append(b, c...)' of bytes. -/
theorem wpList_appB {ops : Array Oper} {rest : List Oper} {o : Oper} {a : Act} {w : World} {Q : Exit → Act → World → Prop} (hgd : o.guard = none) (s x : Operand)
    (ho : o.op = .call { callee := .builtin .append, args := #[s, x], argTypes := #[30, 30] }) (B : Nat) (v : Value) (l m : List UInt8) (hs : a.eval s = v) (hown : OwnR 5 1 byC w B v l) (hl : l.length + m.length ≤ 1000000)
    (b : Option Addr) (n c : Nat) (hx : a.eval x = .slice b n c) (hn : n = m.length) (hm : RowsAt 1 byC w b m) (hB : B ≤ w.heap.size)
    (h : ∀ v' w', OwnR 5 1 byC w' B v' (l ++ m) → Below B w w' → KeptT 5 w w' → wpList Tryd.prog ops Q rest (a.put o.dst v') w') :
    wpList Tryd.prog ops Q (o :: rest) a w := by
  obtain ⟨i, hq, h1, h2, h3⟩ := info_parts info8
  exact wpList_appR hgd s x 30 ho i _ 1 Tryd.underlying30 hq h1 h2 h3 rfl (by decide) byC_len byC_one m hs hown hl (by decide) b n c hx hn hm hB h
/-- 'append(l, m...)' of acts. -/
theorem wpList_appActs {ops : Array Oper} {rest : List Oper} {o : Oper} {a : Act} {w : World} {Q : Exit → Act → World → Prop} (hgd : o.guard = none) (s x : Operand)
    (ho : o.op = .call { callee := .builtin .append, args := #[s, x], argTypes := #[36, 36] }) (B : Nat) (v : Value) (l m : List AcR) (hs : a.eval s = v) (hown : OwnActs w B v l) (hl : l.length + m.length ≤ 1000000)
    (b : Option Addr) (n c : Nat) (hx : a.eval x = .slice b n c) (hn : n = m.length) (hm : RowsAt 7 acCells w b m) (hB : B ≤ w.heap.size)
    (h : ∀ v' w', OwnActs w' B v' (l ++ m) → Below B w w' → KeptT 32 w w' → wpList Tryd.prog ops Q rest (a.put o.dst v') w') :
    wpList Tryd.prog ops Q (o :: rest) a w := by
  obtain ⟨i, hq, h1, h2, h3⟩ := info_parts infoAct
  exact wpList_appR hgd s x 36 ho i _ 112 Tryd.underlying36 hq h1 h2 h3 rfl (by decide) acCells_len acCells_one m hs hown hl (by decide) b n c hx hn hm hB h
end Go.Proofs.YtnflbgindcejjaaDoor
