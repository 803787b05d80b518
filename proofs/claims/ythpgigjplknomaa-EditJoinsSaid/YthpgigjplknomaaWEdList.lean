/- Edits that a call owns, in rows of five cells; append to such. -/
import Derived.Test.YthpgigjplknomaaWCopied
import Derived.Test.YthpgigjplknomaaWEdJoins
namespace Go.Proofs.Ythpgigjplknomaa
open Go.RowKit
set_option linter.unusedVariables false

/-- An edit and where its slices lie. -/
structure EdR where
  e : P.Ed
  a : Option Addr
  c : Nat
  b : Option Addr
  d : Nat
def edRCells (r : EdR) : List Value := [.slice r.a r.e.add.length r.c, .slice r.b r.e.drop.length r.d, V64 r.e.log, V64 r.e.seq, V64 r.e.next]
theorem edRCells_len (r : EdR) : (edRCells r).length = 5 := rfl
theorem edRCells_one (r : EdR) : ∀ u ∈ edRCells r, u.oneCell' = true := by
  intro u hu
  simp only [edRCells, List.mem_cons, List.not_mem_nil, or_false] at hu
  rcases hu with rfl | rfl | rfl | rfl | rfl <;> rfl
abbrev OwnEds (w : World) (B : Nat) (v : Value) (l : List EdR) : Prop := OwnR 29 5 edRCells w B v l
abbrev OwnRefEds (w : World) (B : Nat) (v : Value) (l : List EdR) : Prop := OwnR 38 5 edRCells w B v l
theorem infoEd : (Try.prog.info? 29).map (fun i => (i.zero, i.size, i.bytes)) = some (some (.agg #[.slice none 0 0, .slice none 0 0, .int .u64 0, .int .u64 0, .int .u64 0]), 5, 72) := by kernel_rfl
theorem infoRefEd : (Try.prog.info? 38).map (fun i => (i.zero, i.size, i.bytes)) = some (some (.agg #[.slice none 0 0, .slice none 0 0, .int .u64 0, .int .u64 0, .int .u64 0]), 5, 72) := by kernel_rfl
theorem wpList_appEd {ops : Array Oper} {rest : List Oper} {o : Oper} {a : Act} {w : World} {Q : Exit → Act → World → Prop} (hgd : o.guard = none) (s x : Operand)
    (ho : o.op = .call { callee := .builtin .append, args := #[s, x], argTypes := #[33, 33] }) (B : Nat) (v : Value) (l m : List EdR) (hs : a.eval s = v) (hown : OwnEds w B v l) (hl : l.length + m.length ≤ 1000000)
    (b : Option Addr) (n c : Nat) (hx : a.eval x = .slice b n c) (hn : n = m.length) (hm : RowsAt 5 edRCells w b m) (hB : B ≤ w.heap.size)
    (h : ∀ v' w', OwnEds w' B v' (l ++ m) → Below B w w' → KeptT 29 w w' → wpList Try.prog ops Q rest (a.put o.dst v') w') :
    wpList Try.prog ops Q (o :: rest) a w := by
  obtain ⟨i, hq, h1, h2, h3⟩ := info_parts infoEd
  exact wpList_appR hgd s x 33 ho i _ 72 Try.underlying33 hq h1 h2 h3 rfl (by decide) edRCells_len edRCells_one m hs hown hl (by decide) b n c hx hn hm hB h
theorem wpList_appRefEd {ops : Array Oper} {rest : List Oper} {o : Oper} {a : Act} {w : World} {Q : Exit → Act → World → Prop} (hgd : o.guard = none) (s x : Operand)
    (ho : o.op = .call { callee := .builtin .append, args := #[s, x], argTypes := #[49, 49] }) (B : Nat) (v : Value) (l m : List EdR) (hs : a.eval s = v) (hown : OwnRefEds w B v l) (hl : l.length + m.length ≤ 1000000)
    (b : Option Addr) (n c : Nat) (hx : a.eval x = .slice b n c) (hn : n = m.length) (hm : RowsAt 5 edRCells w b m) (hB : B ≤ w.heap.size)
    (h : ∀ v' w', OwnRefEds w' B v' (l ++ m) → Below B w w' → KeptT 38 w w' → wpList Try.prog ops Q rest (a.put o.dst v') w') :
    wpList Try.prog ops Q (o :: rest) a w := by
  obtain ⟨i, hq, h1, h2, h3⟩ := info_parts infoRefEd
  exact wpList_appR hgd s x 49 ho i _ 72 Try.underlying49 hq h1 h2 h3 rfl (by decide) edRCells_len edRCells_one m hs hown hl (by decide) b n c hx hn hm hB h
/-- An edit whose slices the call owns. -/
def EdOwn (w : World) (B : Nat) (r : EdR) : Prop := OwnTabs w B (.slice r.a r.e.add.length r.c) r.e.add ∧ OwnNums w B (.slice r.b r.e.drop.length r.d) r.e.drop
theorem EdOwn.up {w w' : World} {B : Nat} {r : EdR} (h : EdOwn w B r) (hb : Below w.heap.size w w') : EdOwn w' B r := ⟨h.1.up hb, h.2.up hb⟩
theorem EdOwn.kept {w w' : World} {B : Nat} {r : EdR} (h : EdOwn w B r) {e : TypeId} (hk : KeptT e w w') (h1 : 31 ≠ e) (h2 : 27 ≠ e) : EdOwn w' B r := ⟨h.1.keptT hk h1, h.2.keptT hk h2⟩
theorem EdOwn.at {w : World} {B : Nat} {r : EdR} (h : EdOwn w B r) : EdAt w r.a r.b r.e := ⟨h.1.at tabCells_len, NumsAt.of (h.2.at numCells_len)⟩
/-- Rows of edits lie as edits do. -/
theorem edsAt_of {w : World} {a : Option Addr} {l : List EdR} (h : RowsAt 5 edRCells w a l) (hr : ∀ r ∈ l, EdAt w r.a r.b r.e) : EdsAt w a (l.map EdR.e) := by
  intro i hi
  have hil : i < l.length := by simpa using hi
  obtain ⟨b, o, rfl, hlt, hc⟩ := h i hil
  rw [List.getElem_map]
  exact ⟨b, o, rfl, hlt, l[i].a, l[i].c, l[i].b, l[i].d, hc 0 (by decide), hc 1 (by decide), hc 2 (by decide), hc 3 (by decide), hc 4 (by decide), hr _ (List.getElem_mem hil)⟩
/-- What copied answers. -/
theorem copied_row (x : P.Ed) (a b : Option Addr) (n c m d : Nat) (hn : n = x.add.length) (hm : m = x.drop.length) (w : World) (hl : n ≤ 60) (hk : m ≤ 60) (hp : EdAt w a b x) :
    Calls Try.prog 23 #[edV a n c b m d x.log x.seq x.next] w fun e w' => ∃ r : EdR, e = .returned (.agg (edRCells r).toArray) ∧ r.e = x ∧ EdOwn w' w.heap.size r ∧ Below w.heap.size w w' := by
  refine (copied_any x a b n c m d hn hm w hl hk hp).mono ?_
  rintro e w' ⟨va, vb, rfl, h1, h2, hb⟩
  obtain ⟨a1, c1, rfl, _, _⟩ := h1.is tabCells_len
  obtain ⟨a2, c2, rfl, _, _⟩ := h2.is numCells_len
  exact ⟨⟨x, a1, c1, a2, c2⟩, rfl, rfl, ⟨h1, h2⟩, hb⟩
end Go.Proofs.Ythpgigjplknomaa
