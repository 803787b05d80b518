/- The walks of num.Big and the document's Big. -/
import Derived.Test.YthpgigjplknomaaWVar
import Derived.Test.YthpgigjplknomaaWText
namespace Go.Proofs.Ythpgigjplknomaa
open Go.RowKit
set_option linter.unusedVariables false

def strLen : Value → Nat
  | .string s => s.size
  | _ => 0
theorem strLen_S (l : List UInt8) : strLen (S l) = l.length := by show l.toArray.size = _; simp

attribute [local go_sem] str_app

end Go.Proofs.Ythpgigjplknomaa
