/- The walks of the document's takes: of a byte, a text, a number, an address, a prefix. -/
import Derived.Test.YtcobfoiajdbahaaDoorWQRefM
import Derived.Test.YtcobfoiajdbahaaDoorPQ
import Derived.Laws.Bits64
import Derived.Test.YtcobfoiajdbahaaDoorWQRd
import Derived.Test.YtcobfoiajdbahaaDoorWBaseQ
import Derived.Deep.QuietTactic
import Derived.BigQuiet
namespace Go.Proofs.YtcobfoiajdbahaaDoor
open Go.RowKit
set_option linter.unusedVariables false
set_option linter.unusedSimpArgs false
attribute [local go_sem] str_dropS str_takeS
theorem Bx.alloc {w : World} {g : Nat} {t : TypeId} {cs : Array Value} (h : Bx w g t cs) (o : Obj) : Bx (w.alloc o) g t cs := h.up ((Below.refl _ _).alloc (Nat.le_refl _) o)
end Go.Proofs.YtcobfoiajdbahaaDoor
