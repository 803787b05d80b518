/- The walks of slices.Clone (tables, numbers), of slices.Contains, and of what join's Drop asks. -/
import Derived.Test.YthpgigjplknomaaWOwnA
import Derived.Test.YthpgigjplknomaaWEdDec
import Derived.Lib.SliceRun
namespace Go.Proofs.Ythpgigjplknomaa
open Go.RowKit
set_option linter.unusedVariables false

theorem wpList_appTabs {ops : Array Oper} {rest : List Oper} {o : Oper} {a : Act} {w : World} {Q : Exit → Act → World → Prop} (hgd : o.guard = none) (s x : Operand)
    (ho : o.op = .call { callee := .builtin .append, args := #[s, x], argTypes := #[25, 25] }) (B : Nat) (v : Value) (l m : List P.Tab) (hs : a.eval s = v) (hown : OwnTabs w B v l) (hl : l.length + m.length ≤ 1000000)
    (b : Option Addr) (n c : Nat) (hx : a.eval x = .slice b n c) (hn : n = m.length) (hm : TabsAt w b m) (hB : B ≤ w.heap.size)
    (h : ∀ v' w', OwnTabs w' B v' (l ++ m) → Below B w w' → KeptT 31 w w' → wpList Try.prog ops Q rest (a.put o.dst v') w') :
    wpList Try.prog ops Q (o :: rest) a w := by
  obtain ⟨i, hq, h1, h2, h3⟩ := info_parts infoTab
  exact wpList_appR hgd s x 25 ho i _ 80 Try.underlying25 hq h1 h2 h3 rfl (by decide) tabCells_len tabCells_one m hs hown hl (by decide) b n c hx hn hm hB h
theorem NumsAt.rows {w : World} {a : Option Addr} {l : List Nat} (h : NumsAt w a l) : RowsAt 1 numCells w a l := by
  intro i hi
  obtain ⟨b, o, rfl, hlt, hc⟩ := h i hi
  refine ⟨b, o, rfl, hlt, fun j hj => ?_⟩
  obtain rfl : j = 0 := by omega
  rw [Nat.mul_one, Nat.add_zero]
  exact hc
theorem wpList_appNums {ops : Array Oper} {rest : List Oper} {o : Oper} {a : Act} {w : World} {Q : Exit → Act → World → Prop} (hgd : o.guard = none) (s x : Operand)
    (ho : o.op = .call { callee := .builtin .append, args := #[s, x], argTypes := #[26, 26] }) (B : Nat) (v : Value) (l m : List Nat) (hs : a.eval s = v) (hown : OwnNums w B v l) (hl : l.length + m.length ≤ 1000000)
    (b : Option Addr) (n c : Nat) (hx : a.eval x = .slice b n c) (hn : n = m.length) (hm : NumsAt w b m) (hB : B ≤ w.heap.size)
    (h : ∀ v' w', OwnNums w' B v' (l ++ m) → Below B w w' → KeptT 27 w w' → wpList Try.prog ops Q rest (a.put o.dst v') w') :
    wpList Try.prog ops Q (o :: rest) a w := by
  obtain ⟨i, hq, h1, h2, h3⟩ := info_parts infoU64
  exact wpList_appR hgd s x 26 ho i _ 8 Try.underlying26 hq h1 h2 h3 rfl (by decide) numCells_len numCells_one m hs hown hl (by decide) b n c hx hn hm.rows hB h

set_option maxRecDepth 100000 in
set_option maxHeartbeats 1000000 in
theorem clone_tabs (a : Option Addr) (n c : Nat) (l : List P.Tab) (hn : n = l.length) (w : World) (hl : l.length ≤ 1000000) (hp : TabsAt w a l) :
    Calls Try.prog 37 #[.slice a n c] w fun e w' => ∃ v, e = .returned v ∧ OwnTabs w' w.heap.size v l ∧ Below w.heap.size w w' := by
  subst hn
  have HP := Lib.hid hp
  cases a with
  | none =>
    obtain rfl : l = [] := by
      cases l with
      | nil => rfl
      | cons y r => obtain ⟨b, o, hb, _⟩ := hp 0 (by simp); cases hb
    clear hp HP
    have qT : ∀ (w : World) (a : Option Addr) (n c n' c' : Nat), (binOp .eql 25 (.slice a n c) (.slice none n' c')).run Try.prog w = .ok (.bool a.isNone) w := fun w a n c n' c' => Lib.run_eql_slice_nil w _ _ a n c n' c' Try.underlying25
    go_enter Try.func37, Try.ntmps37
    go_wp2
    go_ret
    exact ⟨_, rfl, ownR_nil _ _, Below.refl _ _⟩
  | some ad =>
    clear hp
    have hO := Lib.hid (show OwnTabs (w.alloc (.cells #[] 31)) w.heap.size (.slice (some ⟨w.heap.size, 0, none⟩) 0 0) [] from OwnR.lit tabCells_len [] #[] rfl (by simp) (Nat.le_refl _) _ _ _ rfl rfl rfl)
    have h0 := Lib.hid ((Below.refl w.heap.size w).alloc (Nat.le_refl _) (.cells #[] 31))
    have qT : ∀ (w : World) (a : Option Addr) (n c n' c' : Nat), (binOp .eql 25 (.slice a n c) (.slice none n' c')).run Try.prog w = .ok (.bool a.isNone) w := fun w a n c n' c' => Lib.run_eql_slice_nil w _ _ a n c n' c' Try.underlying25
    go_enter Try.func37, Try.ntmps37
    go_wp2_with (refine wpList_appTabs rfl _ _ rfl w.heap.size _ [] l rfl hO.out (by simpa using hl) _ _ _ rfl rfl (RowsAt.up HP.out h0.out) h0.out.size ?_; intro v' w1 hown hb hk)
    go_ret
    exact ⟨_, rfl, hown, h0.out.trans hb⟩
set_option maxRecDepth 100000 in
set_option maxHeartbeats 1000000 in
theorem clone_nums (a : Option Addr) (n c : Nat) (l : List Nat) (hn : n = l.length) (w : World) (hl : l.length ≤ 1000000) (hp : NumsAt w a l) :
    Calls Try.prog 38 #[.slice a n c] w fun e w' => ∃ v, e = .returned v ∧ OwnNums w' w.heap.size v l ∧ Below w.heap.size w w' := by
  subst hn
  have HP := Lib.hid hp
  cases a with
  | none =>
    obtain rfl : l = [] := by
      cases l with
      | nil => rfl
      | cons y r => obtain ⟨b, o, hb, _⟩ := hp 0 (by simp); cases hb
    clear hp HP
    have qT : ∀ (w : World) (a : Option Addr) (n c n' c' : Nat), (binOp .eql 26 (.slice a n c) (.slice none n' c')).run Try.prog w = .ok (.bool a.isNone) w := fun w a n c n' c' => Lib.run_eql_slice_nil w _ _ a n c n' c' Try.underlying26
    go_enter Try.func38, Try.ntmps38
    go_wp2
    go_ret
    exact ⟨_, rfl, ownR_nil _ _, Below.refl _ _⟩
  | some ad =>
    clear hp
    have hO := Lib.hid (show OwnNums (w.alloc (.cells #[] 27)) w.heap.size (.slice (some ⟨w.heap.size, 0, none⟩) 0 0) [] from OwnR.lit numCells_len [] #[] rfl (by simp) (Nat.le_refl _) _ _ _ rfl rfl rfl)
    have h0 := Lib.hid ((Below.refl w.heap.size w).alloc (Nat.le_refl _) (.cells #[] 27))
    have qT : ∀ (w : World) (a : Option Addr) (n c n' c' : Nat), (binOp .eql 26 (.slice a n c) (.slice none n' c')).run Try.prog w = .ok (.bool a.isNone) w := fun w a n c n' c' => Lib.run_eql_slice_nil w _ _ a n c n' c' Try.underlying26
    go_enter Try.func38, Try.ntmps38
    go_wp2_with (refine wpList_appNums rfl _ _ rfl w.heap.size _ [] l rfl hO.out (by simpa using hl) _ _ _ rfl rfl (NumsAt.below HP.out h0.out) h0.out.size ?_; intro v' w1 hown hb hk)
    go_ret
    exact ⟨_, rfl, hown, h0.out.trans hb⟩
end Go.Proofs.Ythpgigjplknomaa
