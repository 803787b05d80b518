/- The walk of what the document hears of an answer without lists. -/
import Derived.Test.YtcobfoiajdbahaaDoorWQMay26
namespace Go.Proofs.YtcobfoiajdbahaaDoor
open Go.RowKit
set_option linter.unusedVariables false
set_option linter.unusedSimpArgs false
/-- A document's lists, owned. -/
structure OwnD (w : World) (B : Nat) (a : P.An) (r : Option Addr) (rc : Nat) (v : Option Addr) (vc : Nat) (p : Option Addr) (pc : Nat) : Prop where
  rows : OwnR 57 5 rwC w B (.slice r a.rows.length rc) a.rows
  events : OwnR 126 7 evD w B (.slice v a.events.length vc) a.events
  pools : OwnR 44 4 pxC w B (.slice p a.pools.length pc) a.pools
theorem OwnD.up {w w' : World} {B : Nat} {a : P.An} {r v p : Option Addr} {rc vc pc : Nat} (h : OwnD w B a r rc v vc p pc) (hb : Below w.heap.size w w') : OwnD w' B a r rc v vc p pc := ⟨h.1.up hb, h.2.up hb, h.3.up hb⟩
theorem OwnD.at {w : World} {B : Nat} {a : P.An} {r v p : Option Addr} {rc vc pc : Nat} (h : OwnD w B a r rc v vc p pc) : AnsD w a r v p := ⟨h.1.at rwC_len, h.2.at evD_len, h.3.at pxC_len⟩
end Go.Proofs.YtcobfoiajdbahaaDoor
