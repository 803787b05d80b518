/-
  No cell of these rows narrows 'for every input' (looked for: loops, veiled, ifaces, maps, wideKeys, modest, calm, conditions, laid).
  DERIVED. THE GIVEN ROWS OF THIS SEAT. 6 by the template 'for every input the law returns true; each argument reads behind the call as it read before'; 0 by the template 'total and deterministic' (their statements: YthaiekilifoegaaTotals.lean).
  GIVEN WITH THE SEED: the statements are not yours to turn. If you find one false, say at which input.
  Laid BY PROGRAM, IN A SANDBOX (cutbox-rows.mjs): the forced cells as the released guide's own fill.sh prints them over the translation dad22c3e00bbd7fc… (all of the seat's roots in one cut). By AI agents, Wed Nov 11 2026. No macro, syntax, notation, axiom, sorry.
-/
import Derived.Test.YthaiekilifoegaaChecked
import GoSem.Claim
import GoSem.ClaimJoined
import GoSem.ClaimMapViews
import Derived.JoinedTies
import Derived.KernelRfl
namespace Go.Proofs.Ythaiekilifoegaa
/- THE CELL 'sum', in the pinned program and in every row, IS THE sha256 OF THE DUMP (.gsa) THAT YthaiekilifoegaaProg.lean LOADS. Nothing in Lean hashes anything: it is a label: what it is worth is what the hold of that sum in a sandbox is worth. -/
noncomputable def Try.pinned : Pinned := { name := "ythaiekilifoegaa", sum := "dad22c3e00bbd7fc6e39687551cad2caa24c6e1c9d890377384be26e024d4ab1", checked := Try.checked }
namespace Rows
def none {H : Type} : Left H := { results := [], args := [] }

/-- 'copyholdlaw11.BlockKnown': WHATEVER THE INPUT: true; the input reads as it did. -/
def blockKnownSpec : ChangeSpec := { name := "blockKnown", fn := fun _ => fun
  | [] => { results := [.lit (.bool true)], args := [] }
  | _ => none }
def blockKnownRow : OpenClaim := { program := "ythaiekilifoegaa", sum := "dad22c3e00bbd7fc6e39687551cad2caa24c6e1c9d890377384be26e024d4ab1", func := "copyhold/copyholdlaw11.BlockKnown", spec := "blockKnown", unfollowed := true, recurses := true, apart := false }
def BlockKnownSaid : Prop := blockKnownRow.holds Try.pinned (OpenSpec.ofChange blockKnownSpec)

/-- ITS FALSE NEIGHBOUR: 'it returns false'. Refute it at one input. -/
def blockKnownWrong : ChangeSpec := { name := "blockKnown", fn := fun _ => fun
  | [] => { results := [.lit (.bool false)], args := [] }
  | _ => none }
def BlockKnownWrongFalsely : Prop := blockKnownRow.holds Try.pinned (OpenSpec.ofChange blockKnownWrong)

/-- 'copyholdlaw11.BlockBuilds': WHATEVER THE INPUT: true; the input reads as it did. -/
def blockBuildsSpec : ChangeSpec := { name := "blockBuilds", fn := fun _ => fun
  | [d] => { results := [.lit (.bool true)], args := [d] }
  | _ => none }
def blockBuildsRow : OpenClaim := { program := "ythaiekilifoegaa", sum := "dad22c3e00bbd7fc6e39687551cad2caa24c6e1c9d890377384be26e024d4ab1", func := "copyhold/copyholdlaw11.BlockBuilds", spec := "blockBuilds", unfollowed := true, recurses := true, apart := false }
def BlockBuildsSaid : Prop := blockBuildsRow.holds Try.pinned (OpenSpec.ofChange blockBuildsSpec)

/-- ITS FALSE NEIGHBOUR: 'it returns false'. Refute it at one input. -/
def blockBuildsWrong : ChangeSpec := { name := "blockBuilds", fn := fun _ => fun
  | [d] => { results := [.lit (.bool false)], args := [d] }
  | _ => none }
def BlockBuildsWrongFalsely : Prop := blockBuildsRow.holds Try.pinned (OpenSpec.ofChange blockBuildsWrong)

/-- 'copyholdlaw11.BlockOpens': WHATEVER THE INPUT: true; the input reads as it did. -/
def blockOpensSpec : ChangeSpec := { name := "blockOpens", fn := fun _ => fun
  | [d1, d2] => { results := [.lit (.bool true)], args := [d1, d2] }
  | _ => none }
def blockOpensRow : OpenClaim := { program := "ythaiekilifoegaa", sum := "dad22c3e00bbd7fc6e39687551cad2caa24c6e1c9d890377384be26e024d4ab1", func := "copyhold/copyholdlaw11.BlockOpens", spec := "blockOpens", unfollowed := true, recurses := true, apart := false }
def BlockOpensSaid : Prop := blockOpensRow.holds Try.pinned (OpenSpec.ofChange blockOpensSpec)

/-- ITS FALSE NEIGHBOUR: 'it returns false'. Refute it at one input. -/
def blockOpensWrong : ChangeSpec := { name := "blockOpens", fn := fun _ => fun
  | [d1, d2] => { results := [.lit (.bool false)], args := [d1, d2] }
  | _ => none }
def BlockOpensWrongFalsely : Prop := blockOpensRow.holds Try.pinned (OpenSpec.ofChange blockOpensWrong)

/-- 'copyholdlaw11.BlockBack': WHATEVER THE INPUT: true; the input reads as it did. -/
def blockBackSpec : ChangeSpec := { name := "blockBack", fn := fun _ => fun
  | [d1, d2] => { results := [.lit (.bool true)], args := [d1, d2] }
  | _ => none }
def blockBackRow : OpenClaim := { program := "ythaiekilifoegaa", sum := "dad22c3e00bbd7fc6e39687551cad2caa24c6e1c9d890377384be26e024d4ab1", func := "copyhold/copyholdlaw11.BlockBack", spec := "blockBack", unfollowed := true, recurses := true, apart := false }
def BlockBackSaid : Prop := blockBackRow.holds Try.pinned (OpenSpec.ofChange blockBackSpec)

/-- ITS FALSE NEIGHBOUR: 'it returns false'. Refute it at one input. -/
def blockBackWrong : ChangeSpec := { name := "blockBack", fn := fun _ => fun
  | [d1, d2] => { results := [.lit (.bool false)], args := [d1, d2] }
  | _ => none }
def BlockBackWrongFalsely : Prop := blockBackRow.holds Try.pinned (OpenSpec.ofChange blockBackWrong)

/-- 'copyholdlaw11.BlockOnly': WHATEVER THE INPUT: true; the input reads as it did. -/
def blockOnlySpec : ChangeSpec := { name := "blockOnly", fn := fun _ => fun
  | [d] => { results := [.lit (.bool true)], args := [d] }
  | _ => none }
def blockOnlyRow : OpenClaim := { program := "ythaiekilifoegaa", sum := "dad22c3e00bbd7fc6e39687551cad2caa24c6e1c9d890377384be26e024d4ab1", func := "copyhold/copyholdlaw11.BlockOnly", spec := "blockOnly", unfollowed := true, recurses := true, apart := false }
def BlockOnlySaid : Prop := blockOnlyRow.holds Try.pinned (OpenSpec.ofChange blockOnlySpec)

/-- ITS FALSE NEIGHBOUR: 'it returns false'. Refute it at one input. -/
def blockOnlyWrong : ChangeSpec := { name := "blockOnly", fn := fun _ => fun
  | [d] => { results := [.lit (.bool false)], args := [d] }
  | _ => none }
def BlockOnlyWrongFalsely : Prop := blockOnlyRow.holds Try.pinned (OpenSpec.ofChange blockOnlyWrong)

/-- 'copyholdlaw11.BlockGrows': WHATEVER THE INPUT: true; the input reads as it did. -/
def blockGrowsSpec : ChangeSpec := { name := "blockGrows", fn := fun _ => fun
  | [d] => { results := [.lit (.bool true)], args := [d] }
  | _ => none }
def blockGrowsRow : OpenClaim := { program := "ythaiekilifoegaa", sum := "dad22c3e00bbd7fc6e39687551cad2caa24c6e1c9d890377384be26e024d4ab1", func := "copyhold/copyholdlaw11.BlockGrows", spec := "blockGrows", unfollowed := true, recurses := true, apart := false }
def BlockGrowsSaid : Prop := blockGrowsRow.holds Try.pinned (OpenSpec.ofChange blockGrowsSpec)

/-- ITS FALSE NEIGHBOUR: 'it returns false'. Refute it at one input. -/
def blockGrowsWrong : ChangeSpec := { name := "blockGrows", fn := fun _ => fun
  | [d] => { results := [.lit (.bool false)], args := [d] }
  | _ => none }
def BlockGrowsWrongFalsely : Prop := blockGrowsRow.holds Try.pinned (OpenSpec.ofChange blockGrowsWrong)

/- THE SECOND FORM. 'bulk': how many values and letters a reading holds, each counted each time it is reached (what is shared counts as often as it is met; a slice's spare places count too). A statement '..UptoSaid' is the law's where the arguments, and the package variables that the reading takes, are together of bulk at most 1048576: NARROWER than '..Said'. Prove '..Said' where nothing that the law and all that it calls make is longer than what came in: it says more and counts as full. Else prove '..UptoSaid'. A law counts once. -/
mutual
def uptoBulk {H : Type} : DataW H → Nat
  | .lit (.string bytes) => bytes.length + 1
  | .lit _ => 1
  | .nil => 1
  | .ptr d => uptoBulk d + 1
  | .slice elems spare => uptoBulkAll elems + uptoBulkAll spare + 1
  | .agg parts => uptoBulkAll parts + 1
  | .iface _ d => uptoBulk d + 1
  | .map entries => uptoBulkEntries entries + 1
  | .held _ => 1
def uptoBulkAll {H : Type} : List (DataW H) → Nat
  | [] => 0
  | d :: r => uptoBulk d + uptoBulkAll r
def uptoBulkEntries {H : Type} : List (Lit × DataW H) → Nat
  | [] => 0
  | x :: r => uptoBulkEntry x + uptoBulkEntries r
def uptoBulkEntry {H : Type} : Lit × DataW H → Nat
  | (.string bytes, d) => bytes.length + uptoBulk d + 1
  | (_, d) => uptoBulk d + 1
 end
def uptoSmall : (H : Type) → List (DataW H) → Bool := fun _ ds => decide (uptoBulkAll ds ≤ 1048576)
def OpenSpec.upto (s : _root_.Go.ChangeSpec) : _root_.Go.OpenSpec := { _root_.Go.OpenSpec.ofChange s with cond := some uptoSmall }

/-- 'copyholdlaw11.BlockKnown', WHERE WHAT IT READS IS OF BULK AT MOST 1048576: true; the input reads as it did. -/
def blockKnownUptoRow : OpenClaim := { program := "ythaiekilifoegaa", sum := "dad22c3e00bbd7fc6e39687551cad2caa24c6e1c9d890377384be26e024d4ab1", func := "copyhold/copyholdlaw11.BlockKnown", spec := "blockKnown", unfollowed := true, recurses := true, apart := false, narrowed := true }
def BlockKnownUptoSaid : Prop := blockKnownUptoRow.holds Try.pinned (OpenSpec.upto blockKnownSpec)

/-- 'copyholdlaw11.BlockBuilds', WHERE WHAT IT READS IS OF BULK AT MOST 1048576: true; the input reads as it did. -/
def blockBuildsUptoRow : OpenClaim := { program := "ythaiekilifoegaa", sum := "dad22c3e00bbd7fc6e39687551cad2caa24c6e1c9d890377384be26e024d4ab1", func := "copyhold/copyholdlaw11.BlockBuilds", spec := "blockBuilds", unfollowed := true, recurses := true, apart := false, narrowed := true }
def BlockBuildsUptoSaid : Prop := blockBuildsUptoRow.holds Try.pinned (OpenSpec.upto blockBuildsSpec)

/-- 'copyholdlaw11.BlockOpens', WHERE WHAT IT READS IS OF BULK AT MOST 1048576: true; the input reads as it did. -/
def blockOpensUptoRow : OpenClaim := { program := "ythaiekilifoegaa", sum := "dad22c3e00bbd7fc6e39687551cad2caa24c6e1c9d890377384be26e024d4ab1", func := "copyhold/copyholdlaw11.BlockOpens", spec := "blockOpens", unfollowed := true, recurses := true, apart := false, narrowed := true }
def BlockOpensUptoSaid : Prop := blockOpensUptoRow.holds Try.pinned (OpenSpec.upto blockOpensSpec)

/-- 'copyholdlaw11.BlockBack', WHERE WHAT IT READS IS OF BULK AT MOST 1048576: true; the input reads as it did. -/
def blockBackUptoRow : OpenClaim := { program := "ythaiekilifoegaa", sum := "dad22c3e00bbd7fc6e39687551cad2caa24c6e1c9d890377384be26e024d4ab1", func := "copyhold/copyholdlaw11.BlockBack", spec := "blockBack", unfollowed := true, recurses := true, apart := false, narrowed := true }
def BlockBackUptoSaid : Prop := blockBackUptoRow.holds Try.pinned (OpenSpec.upto blockBackSpec)

/-- 'copyholdlaw11.BlockOnly', WHERE WHAT IT READS IS OF BULK AT MOST 1048576: true; the input reads as it did. -/
def blockOnlyUptoRow : OpenClaim := { program := "ythaiekilifoegaa", sum := "dad22c3e00bbd7fc6e39687551cad2caa24c6e1c9d890377384be26e024d4ab1", func := "copyhold/copyholdlaw11.BlockOnly", spec := "blockOnly", unfollowed := true, recurses := true, apart := false, narrowed := true }
def BlockOnlyUptoSaid : Prop := blockOnlyUptoRow.holds Try.pinned (OpenSpec.upto blockOnlySpec)

/-- 'copyholdlaw11.BlockGrows', WHERE WHAT IT READS IS OF BULK AT MOST 1048576: true; the input reads as it did. -/
def blockGrowsUptoRow : OpenClaim := { program := "ythaiekilifoegaa", sum := "dad22c3e00bbd7fc6e39687551cad2caa24c6e1c9d890377384be26e024d4ab1", func := "copyhold/copyholdlaw11.BlockGrows", spec := "blockGrows", unfollowed := true, recurses := true, apart := false, narrowed := true }
def BlockGrowsUptoSaid : Prop := blockGrowsUptoRow.holds Try.pinned (OpenSpec.upto blockGrowsSpec)

end Rows
end Go.Proofs.Ythaiekilifoegaa
