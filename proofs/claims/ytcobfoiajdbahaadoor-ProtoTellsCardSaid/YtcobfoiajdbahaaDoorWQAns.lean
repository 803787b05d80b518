/- Answers in memory: rows, events and prefixes in slices; stores into a box as single operations, loads of one in a region that draws its order. -/
import Derived.Test.YtcobfoiajdbahaaDoorWQTell
import Derived.Test.YtcobfoiajdbahaaDoorWQRd
import Derived.Test.YtcobfoiajdbahaaDoorWQBox
namespace Go.Proofs.YtcobfoiajdbahaaDoor
open Go.RowKit
set_option linter.unusedVariables false
set_option linter.unusedSimpArgs false
def rwC (r : P.Rw) : List Value := [.int .u8 (r.a.fam : Nat), V64 r.a.hi, V64 r.a.lo, S r.owner, V64 r.til]
def evC (e : P.Ev) : List Value := [.int .i64 e.how, S e.owner, V64 e.at', V64 e.til]
def pxC (p : P.Px) : List Value := [.int .u8 (p.a.fam : Nat), V64 p.a.hi, V64 p.a.lo, .int .i64 p.bits]
theorem rwC_len (r : P.Rw) : (rwC r).length = 5 := rfl
theorem evC_len (r : P.Ev) : (evC r).length = 4 := rfl
theorem pxC_len (r : P.Px) : (pxC r).length = 4 := rfl
/-- An answer's lists, owned. -/
structure OwnAns (w : World) (B : Nat) (a : P.An) (r : Option Addr) (rc : Nat) (v : Option Addr) (vc : Nat) (p : Option Addr) (pc : Nat) : Prop where
  rows : OwnR 80 5 rwC w B (.slice r a.rows.length rc) a.rows
  events : OwnR 82 4 evC w B (.slice v a.events.length vc) a.events
  pools : OwnR 26 4 pxC w B (.slice p a.pools.length pc) a.pools
theorem OwnAns.none (w : World) (B : Nat) (a : P.An) (h1 : a.rows = []) (h2 : a.events = []) (h3 : a.pools = []) : OwnAns w B a none 0 none 0 none 0 :=
  ⟨by rw [h1]; exact ownR_nil w B, by rw [h2]; exact ownR_nil w B, by rw [h3]; exact ownR_nil w B⟩
section
variable {w w' : World} {B : Nat} {a : P.An} {r v p : Option Addr} {rc vc pc : Nat}
theorem OwnAns.up (h : OwnAns w B a r rc v vc p pc) (hb : Below w.heap.size w w') : OwnAns w' B a r rc v vc p pc := ⟨h.1.up hb, h.2.up hb, h.3.up hb⟩
theorem OwnAns.low {B' : Nat} (h : OwnAns w B a r rc v vc p pc) (hB : B' ≤ B) : OwnAns w B' a r rc v vc p pc := ⟨h.1.low hB, h.2.low hB, h.3.low hB⟩
theorem OwnAns.but (h : OwnAns w B a r rc v vc p pc) {g : Nat} {t : TypeId} {c : Array Value} (hx : Bx w g t c) (ht : t ≠ 80 ∧ t ≠ 82 ∧ t ≠ 26) (hb : But g w w') : OwnAns w' B a r rc v vc p pc :=
  ⟨h.1.but hx ht.1 hb, h.2.but hx ht.2.1 hb, h.3.but hx ht.2.2 hb⟩
theorem OwnAns.drew (h : OwnAns w B a r rc v vc p pc) : OwnAns w.drew B a r rc v vc p pc := ⟨h.1, h.2, h.3⟩
end
/-- What told gives. -/
def ToldDid (g : Nat) (q : P.Qs) (op : Nat) (w : World) (e : Ending) (w' : World) : Prop := ∃ r rc v vc p pc, e = .returned (anV (P.qTold op q).1 r rc v vc p pc) ∧ OwnAns w' w.heap.size (P.qTold op q).1 r rc v vc p pc ∧ RdX w' g (P.qTold op q).2 ∧ But g w w'
def ToldOk (op : Nat) : Prop := ∀ (g : Nat) (q : P.Qs) (w : World), q.1.length ≤ 1000000 → RdX w g q → Calls Tryd.prog 67 #[.pointer (some ⟨g, 0, none⟩), .int .u8 (op : Nat)] w (ToldDid g q op w)
theorem wp_stB {P : Program} {op : Oper} {a : Act} {w : World} {K : Act → World → Prop} {Q : Exit → Act → World → Prop} (ty : TypeId) (x y : Operand) (ho : op.op = .store ty x y)
    {g : Nat} {t : TypeId} {cs : Array Value} (hbx : Bx w g t cs) (o : Nat) (vs : Array Value) (hx : a.eval x = .pointer (some ⟨g, o, none⟩)) (hy : a.eval y = .agg vs)
    (n N : Nat) (hvs : vs.size = n) (hN : cs.size = N) (hn : o + n ≤ N) (hi : (P.info? ty).map (·.size) = some n) (h1 : vs.toList.all (·.oneCell') = true)
    {cs' : Array Value} (hcs : (putL o cs.toList vs.toList).toArray = cs')
    (h : ∀ w', Bx w' g t cs' → But g w w' → K (a.put op.dst undef) w') : op.wp P a w K Q := by
  subst hvs hN hcs
  exact wp_store_mid ty x y ho g o vs hx hy (hbx.there hn) hi (by rw [← Array.all_toList]; exact h1) (h _ (Bx.setCells _ _ _ _ hbx) (But.setCells _ _ _ (But.refl g w)))
theorem yieldsB {P : Program} {ops : Array Oper} {S : World → Prop} {op : Oper} {a : Act} (hw : Region.wanted op (yielded ops a.tmps) = true) (ty : TypeId) (x : Operand) (ho : op.op = .load ty x)
    {g : Nat} {t : TypeId} {cs : Array Value} (hx : a.eval x = .pointer (some ⟨g, 0, none⟩)) (hS : ∀ w, S w → Bx w g t cs) {fs : Array Field} (hu : P.underlying ty = some (.struct fs)) (n : Nat) (hi : (P.info? ty).map (·.size) = some n) (hN : cs.size = n) :
    YieldsIf P ops S op (.agg cs) a := by
  have h := yieldsIf_load_mid (P := P) (ops := ops) (S := S) hw ty x ho g 0 hx cs.toList _ (fun w hw => (hS w hw).range) hu rfl (by rw [hi, ← hN]; rfl)
  simpa using h
end Go.Proofs.YtcobfoiajdbahaaDoor
