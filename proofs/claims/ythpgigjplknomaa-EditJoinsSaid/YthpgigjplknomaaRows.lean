/-
  No cell of these rows narrows 'for every input' (looked for: loops, veiled, ifaces, maps, wideKeys, modest, calm, conditions, laid).
  DERIVED. THE GIVEN ROWS OF THIS SEAT. 8 by the template 'for every input the law returns true; each argument reads behind the call as it read before'; 0 by the template 'total and deterministic' (their statements: YthpgigjplknomaaTotals.lean).
  GIVEN WITH THE SEED: the statements are not yours to turn. If you find one false, say at which input.
  Laid BY PROGRAM, IN A SANDBOX (cutbox-rows.mjs): the forced cells as the released guide's own fill.sh prints them over the translation db844e4c0f447bef… (all of the seat's roots in one cut). By AI agents, Wed Nov 11 2026. No macro, syntax, notation, axiom, sorry.
-/
import Derived.Test.YthpgigjplknomaaChecked
import GoSem.Claim
import GoSem.ClaimJoined
import GoSem.ClaimMapViews
import Derived.JoinedTies
import Derived.KernelRfl
namespace Go.Proofs.Ythpgigjplknomaa
/- THE CELL 'sum', in the pinned program and in every row, IS THE sha256 OF THE DUMP (.gsa) THAT YthpgigjplknomaaProg.lean LOADS. Nothing in Lean hashes anything: it is a label: what it is worth is what the hold of that sum in a sandbox is worth. -/
noncomputable def Try.pinned : Pinned := { name := "ythpgigjplknomaa", sum := "db844e4c0f447bef5b5c336252cc249191a7aacee57ff699f40801c16d414fcf", checked := Try.checked }
namespace Rows
def none {H : Type} : Left H := { results := [], args := [] }

/-- 'copyholdlaw13.EditKnown': WHATEVER THE INPUT: true; the input reads as it did. -/
def editKnownSpec : ChangeSpec := { name := "editKnown", fn := fun _ => fun
  | [] => { results := [.lit (.bool true)], args := [] }
  | _ => none }
def editKnownRow : OpenClaim := { program := "ythpgigjplknomaa", sum := "db844e4c0f447bef5b5c336252cc249191a7aacee57ff699f40801c16d414fcf", func := "copyhold/copyholdlaw13.EditKnown", spec := "editKnown", unfollowed := true, recurses := true, apart := false }
def EditKnownSaid : Prop := editKnownRow.holds Try.pinned (OpenSpec.ofChange editKnownSpec)

/-- ITS FALSE NEIGHBOUR: 'it returns false'. Refute it at one input. -/
def editKnownWrong : ChangeSpec := { name := "editKnown", fn := fun _ => fun
  | [] => { results := [.lit (.bool false)], args := [] }
  | _ => none }
def EditKnownWrongFalsely : Prop := editKnownRow.holds Try.pinned (OpenSpec.ofChange editKnownWrong)

/-- 'copyholdlaw13.EditLong': WHATEVER THE INPUT: true; the input reads as it did. -/
def editLongSpec : ChangeSpec := { name := "editLong", fn := fun _ => fun
  | [] => { results := [.lit (.bool true)], args := [] }
  | _ => none }
def editLongRow : OpenClaim := { program := "ythpgigjplknomaa", sum := "db844e4c0f447bef5b5c336252cc249191a7aacee57ff699f40801c16d414fcf", func := "copyhold/copyholdlaw13.EditLong", spec := "editLong", unfollowed := true, recurses := true, apart := false }
def EditLongSaid : Prop := editLongRow.holds Try.pinned (OpenSpec.ofChange editLongSpec)

/-- ITS FALSE NEIGHBOUR: 'it returns false'. Refute it at one input. -/
def editLongWrong : ChangeSpec := { name := "editLong", fn := fun _ => fun
  | [] => { results := [.lit (.bool false)], args := [] }
  | _ => none }
def EditLongWrongFalsely : Prop := editLongRow.holds Try.pinned (OpenSpec.ofChange editLongWrong)

/-- 'copyholdlaw13.EditPuts': WHATEVER THE INPUT: true; the input reads as it did. -/
def editPutsSpec : ChangeSpec := { name := "editPuts", fn := fun _ => fun
  | [d] => { results := [.lit (.bool true)], args := [d] }
  | _ => none }
def editPutsRow : OpenClaim := { program := "ythpgigjplknomaa", sum := "db844e4c0f447bef5b5c336252cc249191a7aacee57ff699f40801c16d414fcf", func := "copyhold/copyholdlaw13.EditPuts", spec := "editPuts", unfollowed := true, recurses := true, apart := false }
def EditPutsSaid : Prop := editPutsRow.holds Try.pinned (OpenSpec.ofChange editPutsSpec)

/-- ITS FALSE NEIGHBOUR: 'it returns false'. Refute it at one input. -/
def editPutsWrong : ChangeSpec := { name := "editPuts", fn := fun _ => fun
  | [d] => { results := [.lit (.bool false)], args := [d] }
  | _ => none }
def EditPutsWrongFalsely : Prop := editPutsRow.holds Try.pinned (OpenSpec.ofChange editPutsWrong)

/-- 'copyholdlaw13.EditReads': WHATEVER THE INPUT: true; the input reads as it did. -/
def editReadsSpec : ChangeSpec := { name := "editReads", fn := fun _ => fun
  | [d] => { results := [.lit (.bool true)], args := [d] }
  | _ => none }
def editReadsRow : OpenClaim := { program := "ythpgigjplknomaa", sum := "db844e4c0f447bef5b5c336252cc249191a7aacee57ff699f40801c16d414fcf", func := "copyhold/copyholdlaw13.EditReads", spec := "editReads", unfollowed := true, recurses := true, apart := false }
def EditReadsSaid : Prop := editReadsRow.holds Try.pinned (OpenSpec.ofChange editReadsSpec)

/-- ITS FALSE NEIGHBOUR: 'it returns false'. Refute it at one input. -/
def editReadsWrong : ChangeSpec := { name := "editReads", fn := fun _ => fun
  | [d] => { results := [.lit (.bool false)], args := [d] }
  | _ => none }
def EditReadsWrongFalsely : Prop := editReadsRow.holds Try.pinned (OpenSpec.ofChange editReadsWrong)

/-- 'copyholdlaw13.EditJoinTells': WHATEVER THE INPUT: true; the input reads as it did. -/
def editJoinTellsSpec : ChangeSpec := { name := "editJoinTells", fn := fun _ => fun
  | [d] => { results := [.lit (.bool true)], args := [d] }
  | _ => none }
def editJoinTellsRow : OpenClaim := { program := "ythpgigjplknomaa", sum := "db844e4c0f447bef5b5c336252cc249191a7aacee57ff699f40801c16d414fcf", func := "copyhold/copyholdlaw13.EditJoinTells", spec := "editJoinTells", unfollowed := true, recurses := true, apart := false }
def EditJoinTellsSaid : Prop := editJoinTellsRow.holds Try.pinned (OpenSpec.ofChange editJoinTellsSpec)

/-- ITS FALSE NEIGHBOUR: 'it returns false'. Refute it at one input. -/
def editJoinTellsWrong : ChangeSpec := { name := "editJoinTells", fn := fun _ => fun
  | [d] => { results := [.lit (.bool false)], args := [d] }
  | _ => none }
def EditJoinTellsWrongFalsely : Prop := editJoinTellsRow.holds Try.pinned (OpenSpec.ofChange editJoinTellsWrong)

/-- 'copyholdlaw13.EditJoins': WHATEVER THE INPUT: true; the input reads as it did. -/
def editJoinsSpec : ChangeSpec := { name := "editJoins", fn := fun _ => fun
  | [d1, d2] => { results := [.lit (.bool true)], args := [d1, d2] }
  | _ => none }
def editJoinsRow : OpenClaim := { program := "ythpgigjplknomaa", sum := "db844e4c0f447bef5b5c336252cc249191a7aacee57ff699f40801c16d414fcf", func := "copyhold/copyholdlaw13.EditJoins", spec := "editJoins", unfollowed := true, recurses := true, apart := false }
def EditJoinsSaid : Prop := editJoinsRow.holds Try.pinned (OpenSpec.ofChange editJoinsSpec)

/-- ITS FALSE NEIGHBOUR: 'it returns false'. Refute it at one input. -/
def editJoinsWrong : ChangeSpec := { name := "editJoins", fn := fun _ => fun
  | [d1, d2] => { results := [.lit (.bool false)], args := [d1, d2] }
  | _ => none }
def EditJoinsWrongFalsely : Prop := editJoinsRow.holds Try.pinned (OpenSpec.ofChange editJoinsWrong)

/-- 'copyholdlaw13.EditBack': WHATEVER THE INPUT: true; the input reads as it did. -/
def editBackSpec : ChangeSpec := { name := "editBack", fn := fun _ => fun
  | [d1, d2, d3] => { results := [.lit (.bool true)], args := [d1, d2, d3] }
  | _ => none }
def editBackRow : OpenClaim := { program := "ythpgigjplknomaa", sum := "db844e4c0f447bef5b5c336252cc249191a7aacee57ff699f40801c16d414fcf", func := "copyhold/copyholdlaw13.EditBack", spec := "editBack", unfollowed := true, recurses := true, apart := false }
def EditBackSaid : Prop := editBackRow.holds Try.pinned (OpenSpec.ofChange editBackSpec)

/-- ITS FALSE NEIGHBOUR: 'it returns false'. Refute it at one input. -/
def editBackWrong : ChangeSpec := { name := "editBack", fn := fun _ => fun
  | [d1, d2, d3] => { results := [.lit (.bool false)], args := [d1, d2, d3] }
  | _ => none }
def EditBackWrongFalsely : Prop := editBackRow.holds Try.pinned (OpenSpec.ofChange editBackWrong)

/-- 'copyholdlaw13.EditOnly': WHATEVER THE INPUT: true; the input reads as it did. -/
def editOnlySpec : ChangeSpec := { name := "editOnly", fn := fun _ => fun
  | [d] => { results := [.lit (.bool true)], args := [d] }
  | _ => none }
def editOnlyRow : OpenClaim := { program := "ythpgigjplknomaa", sum := "db844e4c0f447bef5b5c336252cc249191a7aacee57ff699f40801c16d414fcf", func := "copyhold/copyholdlaw13.EditOnly", spec := "editOnly", unfollowed := true, recurses := true, apart := false }
def EditOnlySaid : Prop := editOnlyRow.holds Try.pinned (OpenSpec.ofChange editOnlySpec)

/-- ITS FALSE NEIGHBOUR: 'it returns false'. Refute it at one input. -/
def editOnlyWrong : ChangeSpec := { name := "editOnly", fn := fun _ => fun
  | [d] => { results := [.lit (.bool false)], args := [d] }
  | _ => none }
def EditOnlyWrongFalsely : Prop := editOnlyRow.holds Try.pinned (OpenSpec.ofChange editOnlyWrong)

/- THE SECOND FORM. 'bulk': how many values and letters a reading holds, each counted each time it is reached (what is shared counts as often as it is met; a slice's spare places count too). A statement '..UptoSaid' is the law's where the arguments, and the package variables that the reading takes, are together of bulk at most 1048576: NARROWER than '..Said'. Prove '..Said' where nothing that the law and all that it calls make is longer than what came in: it says more and counts as full. Else prove '..UptoSaid'. A law counts once. -/
mutual
def uptoBulk {H : Type} : DataW H → Nat
  | .lit (.string bytes) => bytes.length + 1
  | .lit _ => 1
  | .nil => 1
  | .ptr d => uptoBulk d + 1
  | .slice elems spare => uptoBulkAll elems + uptoBulkAll spare + 1
  | .agg parts => uptoBulkAll parts + 1
  | .iface _ d => uptoBulk d + 1
  | .map entries => uptoBulkEntries entries + 1
  | .held _ => 1
def uptoBulkAll {H : Type} : List (DataW H) → Nat
  | [] => 0
  | d :: r => uptoBulk d + uptoBulkAll r
def uptoBulkEntries {H : Type} : List (Lit × DataW H) → Nat
  | [] => 0
  | x :: r => uptoBulkEntry x + uptoBulkEntries r
def uptoBulkEntry {H : Type} : Lit × DataW H → Nat
  | (.string bytes, d) => bytes.length + uptoBulk d + 1
  | (_, d) => uptoBulk d + 1
 end
def uptoSmall : (H : Type) → List (DataW H) → Bool := fun _ ds => decide (uptoBulkAll ds ≤ 1048576)
def OpenSpec.upto (s : _root_.Go.ChangeSpec) : _root_.Go.OpenSpec := { _root_.Go.OpenSpec.ofChange s with cond := some uptoSmall }

/-- 'copyholdlaw13.EditKnown', WHERE WHAT IT READS IS OF BULK AT MOST 1048576: true; the input reads as it did. -/
def editKnownUptoRow : OpenClaim := { program := "ythpgigjplknomaa", sum := "db844e4c0f447bef5b5c336252cc249191a7aacee57ff699f40801c16d414fcf", func := "copyhold/copyholdlaw13.EditKnown", spec := "editKnown", unfollowed := true, recurses := true, apart := false, narrowed := true }
def EditKnownUptoSaid : Prop := editKnownUptoRow.holds Try.pinned (OpenSpec.upto editKnownSpec)

/-- 'copyholdlaw13.EditLong', WHERE WHAT IT READS IS OF BULK AT MOST 1048576: true; the input reads as it did. -/
def editLongUptoRow : OpenClaim := { program := "ythpgigjplknomaa", sum := "db844e4c0f447bef5b5c336252cc249191a7aacee57ff699f40801c16d414fcf", func := "copyhold/copyholdlaw13.EditLong", spec := "editLong", unfollowed := true, recurses := true, apart := false, narrowed := true }
def EditLongUptoSaid : Prop := editLongUptoRow.holds Try.pinned (OpenSpec.upto editLongSpec)

/-- 'copyholdlaw13.EditPuts', WHERE WHAT IT READS IS OF BULK AT MOST 1048576: true; the input reads as it did. -/
def editPutsUptoRow : OpenClaim := { program := "ythpgigjplknomaa", sum := "db844e4c0f447bef5b5c336252cc249191a7aacee57ff699f40801c16d414fcf", func := "copyhold/copyholdlaw13.EditPuts", spec := "editPuts", unfollowed := true, recurses := true, apart := false, narrowed := true }
def EditPutsUptoSaid : Prop := editPutsUptoRow.holds Try.pinned (OpenSpec.upto editPutsSpec)

/-- 'copyholdlaw13.EditReads', WHERE WHAT IT READS IS OF BULK AT MOST 1048576: true; the input reads as it did. -/
def editReadsUptoRow : OpenClaim := { program := "ythpgigjplknomaa", sum := "db844e4c0f447bef5b5c336252cc249191a7aacee57ff699f40801c16d414fcf", func := "copyhold/copyholdlaw13.EditReads", spec := "editReads", unfollowed := true, recurses := true, apart := false, narrowed := true }
def EditReadsUptoSaid : Prop := editReadsUptoRow.holds Try.pinned (OpenSpec.upto editReadsSpec)

/-- 'copyholdlaw13.EditJoinTells', WHERE WHAT IT READS IS OF BULK AT MOST 1048576: true; the input reads as it did. -/
def editJoinTellsUptoRow : OpenClaim := { program := "ythpgigjplknomaa", sum := "db844e4c0f447bef5b5c336252cc249191a7aacee57ff699f40801c16d414fcf", func := "copyhold/copyholdlaw13.EditJoinTells", spec := "editJoinTells", unfollowed := true, recurses := true, apart := false, narrowed := true }
def EditJoinTellsUptoSaid : Prop := editJoinTellsUptoRow.holds Try.pinned (OpenSpec.upto editJoinTellsSpec)

/-- 'copyholdlaw13.EditJoins', WHERE WHAT IT READS IS OF BULK AT MOST 1048576: true; the input reads as it did. -/
def editJoinsUptoRow : OpenClaim := { program := "ythpgigjplknomaa", sum := "db844e4c0f447bef5b5c336252cc249191a7aacee57ff699f40801c16d414fcf", func := "copyhold/copyholdlaw13.EditJoins", spec := "editJoins", unfollowed := true, recurses := true, apart := false, narrowed := true }
def EditJoinsUptoSaid : Prop := editJoinsUptoRow.holds Try.pinned (OpenSpec.upto editJoinsSpec)

/-- 'copyholdlaw13.EditBack', WHERE WHAT IT READS IS OF BULK AT MOST 1048576: true; the input reads as it did. -/
def editBackUptoRow : OpenClaim := { program := "ythpgigjplknomaa", sum := "db844e4c0f447bef5b5c336252cc249191a7aacee57ff699f40801c16d414fcf", func := "copyhold/copyholdlaw13.EditBack", spec := "editBack", unfollowed := true, recurses := true, apart := false, narrowed := true }
def EditBackUptoSaid : Prop := editBackUptoRow.holds Try.pinned (OpenSpec.upto editBackSpec)

/-- 'copyholdlaw13.EditOnly', WHERE WHAT IT READS IS OF BULK AT MOST 1048576: true; the input reads as it did. -/
def editOnlyUptoRow : OpenClaim := { program := "ythpgigjplknomaa", sum := "db844e4c0f447bef5b5c336252cc249191a7aacee57ff699f40801c16d414fcf", func := "copyhold/copyholdlaw13.EditOnly", spec := "editOnly", unfollowed := true, recurses := true, apart := false, narrowed := true }
def EditOnlyUptoSaid : Prop := editOnlyUptoRow.holds Try.pinned (OpenSpec.upto editOnlySpec)

end Rows
end Go.Proofs.Ythpgigjplknomaa
