/- An answer that statements go through, in memory. -/
import Derived.Test.YtcobfoiajdbahaaDoorWQAns
namespace Go.Proofs.YtcobfoiajdbahaaDoor
open Go.RowKit
set_option linter.unusedVariables false
set_option linter.unusedSimpArgs false
/-- An answer that statements go through, in memory. -/
structure AnsAt (w : World) (a : P.An) (r v p : Option Addr) : Prop where
  rows : RowsAt 5 rwC w r a.rows
  events : RowsAt 4 evC w v a.events
  pools : RowsAt 4 pxC w p a.pools
theorem AnsAt.up {w w' : World} {a : P.An} {r v p : Option Addr} (h : AnsAt w a r v p) (hb : Below w.heap.size w w') : AnsAt w' a r v p := ⟨h.1.up hb, h.2.up hb, h.3.up hb⟩
theorem OwnAns.at {w : World} {B : Nat} {a : P.An} {r v p : Option Addr} {rc vc pc : Nat} (h : OwnAns w B a r rc v vc p pc) : AnsAt w a r v p := ⟨h.1.at rwC_len, h.2.at evC_len, h.3.at pxC_len⟩
structure SmallA (a : P.An) : Prop where
  owner : a.owner.length ≤ 2000
  rows : a.rows.length ≤ 40
  events : a.events.length ≤ 40
  pools : a.pools.length ≤ 40
  ros : ∀ y ∈ a.rows, y.owner.length ≤ 2000
  eos : ∀ y ∈ a.events, y.owner.length ≤ 2000
end Go.Proofs.YtcobfoiajdbahaaDoor
