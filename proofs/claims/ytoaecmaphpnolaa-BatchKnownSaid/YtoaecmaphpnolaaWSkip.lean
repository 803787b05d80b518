/- Laws for the walks: an operation of a region whose guard is false is passed over. -/
import Derived.WalkKit
import Derived.StillTailTactics
import Derived.OrdersHeld
namespace Go.Proofs.Ytoaecmaphpnolaa
open Go.RowKit

theorem wpStill_skip {P : Program} {ops : Array Oper} {w : World} {Q : Act → Prop} {a : Act} {o : Oper} {rest : List Oper} (hw : Region.wanted o (yielded ops a.tmps) = false) (h : wpStill P ops w Q rest (a.put o.dst undef)) : wpStill P ops w Q (o :: rest) a := by
  show if Region.wanted o (yielded ops a.tmps) = true then _ else _
  rw [if_neg (by rw [hw]; exact Bool.false_ne_true)]
  exact h
/-- The same where its slot is empty already. -/
theorem wpStill_skip0 {P : Program} {ops : Array Oper} {w : World} {Q : Act → Prop} {a : Act} {o : Oper} {rest : List Oper} (hw : Region.wanted o (yielded ops a.tmps) = false) (hp : a.put o.dst undef = a) (h : wpStill P ops w Q rest a) : wpStill P ops w Q (o :: rest) a :=
  wpStill_skip hw (by rw [hp]; exact h)
end Go.Proofs.Ytoaecmaphpnolaa
