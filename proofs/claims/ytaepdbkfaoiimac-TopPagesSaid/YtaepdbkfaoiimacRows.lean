/-
  No cell of these rows narrows 'for every input' (looked for: loops, veiled, ifaces, maps, wideKeys, modest, calm, conditions, laid).
  DERIVED. THE GIVEN ROWS OF THIS SEAT. 8 by the template 'for every input the law returns true; each argument reads behind the call as it read before'; 0 by the template 'total and deterministic' (their statements: YtaepdbkfaoiimacTotals.lean).
  GIVEN WITH THE SEED: the statements are not yours to turn. If you find one false, say at which input.
  Laid BY PROGRAM, IN A SANDBOX (cutbox-rows.mjs): the forced cells as the released guide's own fill.sh prints them over the translation 79d5efdcad9baf3a… (all of the seat's roots in one cut). By AI agents, Wed Nov 11 2026. No macro, syntax, notation, axiom, sorry.
-/
import Derived.Test.YtaepdbkfaoiimacChecked
import GoSem.Claim
import GoSem.ClaimJoined
import GoSem.ClaimMapViews
import Derived.JoinedTies
import Derived.KernelRfl
namespace Go.Proofs.Ytaepdbkfaoiimac
/- THE CELL 'sum', in the pinned program and in every row, IS THE sha256 OF THE DUMP (.gsa) THAT YtaepdbkfaoiimacProg.lean LOADS. Nothing in Lean hashes anything: it is a label: what it is worth is what the hold of that sum in a sandbox is worth. -/
noncomputable def Try.pinned : Pinned := { name := "ytaepdbkfaoiimac", sum := "79d5efdcad9baf3a27cb9b3cc49d12893c24a3bd5b0e8b783bd97a9406877c60", checked := Try.checked }
namespace Rows
def none {H : Type} : Left H := { results := [], args := [] }

/-- 'tidegatetop.TopLast': WHATEVER THE INPUT: true; the input reads as it did. -/
def topLastSpec : ChangeSpec := { name := "topLast", fn := fun _ => fun
  | [d1, d2] => { results := [.lit (.bool true)], args := [d1, d2] }
  | _ => none }
def topLastRow : OpenClaim := { program := "ytaepdbkfaoiimac", sum := "79d5efdcad9baf3a27cb9b3cc49d12893c24a3bd5b0e8b783bd97a9406877c60", func := "tidegate/tidegatetop.TopLast", spec := "topLast", inPlace := ["internal/abi.NoEscape", "internal/bytealg.MakeNoZero", "internal/bytealg.abigen_runtime_cmpstring"], unfollowed := true, recurses := true, apart := false }
def TopLastSaid : Prop := topLastRow.holds Try.pinned (OpenSpec.ofChange topLastSpec)

/-- ITS FALSE NEIGHBOUR: 'it returns false'. Refute it at one input. -/
def topLastWrong : ChangeSpec := { name := "topLast", fn := fun _ => fun
  | [d1, d2] => { results := [.lit (.bool false)], args := [d1, d2] }
  | _ => none }
def TopLastWrongFalsely : Prop := topLastRow.holds Try.pinned (OpenSpec.ofChange topLastWrong)

/-- 'tidegatetop.TopOthers': WHATEVER THE INPUT: true; the input reads as it did. -/
def topOthersSpec : ChangeSpec := { name := "topOthers", fn := fun _ => fun
  | [d1, d2, d3] => { results := [.lit (.bool true)], args := [d1, d2, d3] }
  | _ => none }
def topOthersRow : OpenClaim := { program := "ytaepdbkfaoiimac", sum := "79d5efdcad9baf3a27cb9b3cc49d12893c24a3bd5b0e8b783bd97a9406877c60", func := "tidegate/tidegatetop.TopOthers", spec := "topOthers", inPlace := ["internal/abi.NoEscape", "internal/bytealg.MakeNoZero", "internal/bytealg.abigen_runtime_cmpstring"], unfollowed := true, recurses := true, apart := false }
def TopOthersSaid : Prop := topOthersRow.holds Try.pinned (OpenSpec.ofChange topOthersSpec)

/-- ITS FALSE NEIGHBOUR: 'it returns false'. Refute it at one input. -/
def topOthersWrong : ChangeSpec := { name := "topOthers", fn := fun _ => fun
  | [d1, d2, d3] => { results := [.lit (.bool false)], args := [d1, d2, d3] }
  | _ => none }
def TopOthersWrongFalsely : Prop := topOthersRow.holds Try.pinned (OpenSpec.ofChange topOthersWrong)

/-- 'tidegatetop.TopRefuse': WHATEVER THE INPUT: true; the input reads as it did. -/
def topRefuseSpec : ChangeSpec := { name := "topRefuse", fn := fun _ => fun
  | [d1, d2] => { results := [.lit (.bool true)], args := [d1, d2] }
  | _ => none }
def topRefuseRow : OpenClaim := { program := "ytaepdbkfaoiimac", sum := "79d5efdcad9baf3a27cb9b3cc49d12893c24a3bd5b0e8b783bd97a9406877c60", func := "tidegate/tidegatetop.TopRefuse", spec := "topRefuse", inPlace := ["internal/abi.NoEscape", "internal/bytealg.MakeNoZero", "internal/bytealg.abigen_runtime_cmpstring"], unfollowed := true, recurses := true, apart := false }
def TopRefuseSaid : Prop := topRefuseRow.holds Try.pinned (OpenSpec.ofChange topRefuseSpec)

/-- ITS FALSE NEIGHBOUR: 'it returns false'. Refute it at one input. -/
def topRefuseWrong : ChangeSpec := { name := "topRefuse", fn := fun _ => fun
  | [d1, d2] => { results := [.lit (.bool false)], args := [d1, d2] }
  | _ => none }
def TopRefuseWrongFalsely : Prop := topRefuseRow.holds Try.pinned (OpenSpec.ofChange topRefuseWrong)

/-- 'tidegatetop.TopFull': WHATEVER THE INPUT: true; the input reads as it did. -/
def topFullSpec : ChangeSpec := { name := "topFull", fn := fun _ => fun
  | [d1, d2] => { results := [.lit (.bool true)], args := [d1, d2] }
  | _ => none }
def topFullRow : OpenClaim := { program := "ytaepdbkfaoiimac", sum := "79d5efdcad9baf3a27cb9b3cc49d12893c24a3bd5b0e8b783bd97a9406877c60", func := "tidegate/tidegatetop.TopFull", spec := "topFull", inPlace := ["internal/abi.NoEscape", "internal/bytealg.MakeNoZero", "internal/bytealg.abigen_runtime_cmpstring"], unfollowed := true, recurses := true, apart := false }
def TopFullSaid : Prop := topFullRow.holds Try.pinned (OpenSpec.ofChange topFullSpec)

/-- ITS FALSE NEIGHBOUR: 'it returns false'. Refute it at one input. -/
def topFullWrong : ChangeSpec := { name := "topFull", fn := fun _ => fun
  | [d1, d2] => { results := [.lit (.bool false)], args := [d1, d2] }
  | _ => none }
def TopFullWrongFalsely : Prop := topFullRow.holds Try.pinned (OpenSpec.ofChange topFullWrong)

/-- 'tidegatetop.TopAsked': WHATEVER THE INPUT: true; the input reads as it did. -/
def topAskedSpec : ChangeSpec := { name := "topAsked", fn := fun _ => fun
  | [d1, d2] => { results := [.lit (.bool true)], args := [d1, d2] }
  | _ => none }
def topAskedRow : OpenClaim := { program := "ytaepdbkfaoiimac", sum := "79d5efdcad9baf3a27cb9b3cc49d12893c24a3bd5b0e8b783bd97a9406877c60", func := "tidegate/tidegatetop.TopAsked", spec := "topAsked", inPlace := ["internal/abi.NoEscape", "internal/bytealg.MakeNoZero", "internal/bytealg.abigen_runtime_cmpstring"], unfollowed := true, recurses := true, apart := false }
def TopAskedSaid : Prop := topAskedRow.holds Try.pinned (OpenSpec.ofChange topAskedSpec)

/-- ITS FALSE NEIGHBOUR: 'it returns false'. Refute it at one input. -/
def topAskedWrong : ChangeSpec := { name := "topAsked", fn := fun _ => fun
  | [d1, d2] => { results := [.lit (.bool false)], args := [d1, d2] }
  | _ => none }
def TopAskedWrongFalsely : Prop := topAskedRow.holds Try.pinned (OpenSpec.ofChange topAskedWrong)

/-- 'tidegatetop.TopPages': WHATEVER THE INPUT: true; the input reads as it did. -/
def topPagesSpec : ChangeSpec := { name := "topPages", fn := fun _ => fun
  | [d1, d2] => { results := [.lit (.bool true)], args := [d1, d2] }
  | _ => none }
def topPagesRow : OpenClaim := { program := "ytaepdbkfaoiimac", sum := "79d5efdcad9baf3a27cb9b3cc49d12893c24a3bd5b0e8b783bd97a9406877c60", func := "tidegate/tidegatetop.TopPages", spec := "topPages", inPlace := ["internal/abi.NoEscape", "internal/bytealg.MakeNoZero", "internal/bytealg.abigen_runtime_cmpstring"], unfollowed := true, recurses := true, apart := false }
def TopPagesSaid : Prop := topPagesRow.holds Try.pinned (OpenSpec.ofChange topPagesSpec)

/-- ITS FALSE NEIGHBOUR: 'it returns false'. Refute it at one input. -/
def topPagesWrong : ChangeSpec := { name := "topPages", fn := fun _ => fun
  | [d1, d2] => { results := [.lit (.bool false)], args := [d1, d2] }
  | _ => none }
def TopPagesWrongFalsely : Prop := topPagesRow.holds Try.pinned (OpenSpec.ofChange topPagesWrong)

/-- 'tidegatetop.TopFew': WHATEVER THE INPUT: true; the input reads as it did. -/
def topFewSpec : ChangeSpec := { name := "topFew", fn := fun _ => fun
  | [d] => { results := [.lit (.bool true)], args := [d] }
  | _ => none }
def topFewRow : OpenClaim := { program := "ytaepdbkfaoiimac", sum := "79d5efdcad9baf3a27cb9b3cc49d12893c24a3bd5b0e8b783bd97a9406877c60", func := "tidegate/tidegatetop.TopFew", spec := "topFew", inPlace := ["internal/abi.NoEscape", "internal/bytealg.MakeNoZero", "internal/bytealg.abigen_runtime_cmpstring"], unfollowed := true, recurses := true, apart := false }
def TopFewSaid : Prop := topFewRow.holds Try.pinned (OpenSpec.ofChange topFewSpec)

/-- ITS FALSE NEIGHBOUR: 'it returns false'. Refute it at one input. -/
def topFewWrong : ChangeSpec := { name := "topFew", fn := fun _ => fun
  | [d] => { results := [.lit (.bool false)], args := [d] }
  | _ => none }
def TopFewWrongFalsely : Prop := topFewRow.holds Try.pinned (OpenSpec.ofChange topFewWrong)

/-- 'tidegatetop.TopOld': WHATEVER THE INPUT: true; the input reads as it did. -/
def topOldSpec : ChangeSpec := { name := "topOld", fn := fun _ => fun
  | [d] => { results := [.lit (.bool true)], args := [d] }
  | _ => none }
def topOldRow : OpenClaim := { program := "ytaepdbkfaoiimac", sum := "79d5efdcad9baf3a27cb9b3cc49d12893c24a3bd5b0e8b783bd97a9406877c60", func := "tidegate/tidegatetop.TopOld", spec := "topOld", inPlace := ["internal/abi.NoEscape", "internal/bytealg.MakeNoZero", "internal/bytealg.abigen_runtime_cmpstring"], unfollowed := true, recurses := true, apart := false }
def TopOldSaid : Prop := topOldRow.holds Try.pinned (OpenSpec.ofChange topOldSpec)

/-- ITS FALSE NEIGHBOUR: 'it returns false'. Refute it at one input. -/
def topOldWrong : ChangeSpec := { name := "topOld", fn := fun _ => fun
  | [d] => { results := [.lit (.bool false)], args := [d] }
  | _ => none }
def TopOldWrongFalsely : Prop := topOldRow.holds Try.pinned (OpenSpec.ofChange topOldWrong)

/- THE SECOND FORM. 'bulk': how many values and letters a reading holds, each counted each time it is reached (what is shared counts as often as it is met; a slice's spare places count too). A statement '..UptoSaid' is the law's where the arguments, and the package variables that the reading takes, are together of bulk at most 1048576: NARROWER than '..Said'. Prove '..Said' where nothing that the law and all that it calls make is longer than what came in: it says more and counts as full. Else prove '..UptoSaid'. A law counts once. -/
mutual
def uptoBulk {H : Type} : DataW H → Nat
  | .lit (.string bytes) => bytes.length + 1
  | .lit _ => 1
  | .nil => 1
  | .ptr d => uptoBulk d + 1
  | .slice elems spare => uptoBulkAll elems + uptoBulkAll spare + 1
  | .agg parts => uptoBulkAll parts + 1
  | .iface _ d => uptoBulk d + 1
  | .map entries => uptoBulkEntries entries + 1
  | .held _ => 1
def uptoBulkAll {H : Type} : List (DataW H) → Nat
  | [] => 0
  | d :: r => uptoBulk d + uptoBulkAll r
def uptoBulkEntries {H : Type} : List (Lit × DataW H) → Nat
  | [] => 0
  | x :: r => uptoBulkEntry x + uptoBulkEntries r
def uptoBulkEntry {H : Type} : Lit × DataW H → Nat
  | (.string bytes, d) => bytes.length + uptoBulk d + 1
  | (_, d) => uptoBulk d + 1
 end
def uptoSmall : (H : Type) → List (DataW H) → Bool := fun _ ds => decide (uptoBulkAll ds ≤ 1048576)
def OpenSpec.upto (s : _root_.Go.ChangeSpec) : _root_.Go.OpenSpec := { _root_.Go.OpenSpec.ofChange s with cond := some uptoSmall }

/-- 'tidegatetop.TopLast', WHERE WHAT IT READS IS OF BULK AT MOST 1048576: true; the input reads as it did. -/
def topLastUptoRow : OpenClaim := { program := "ytaepdbkfaoiimac", sum := "79d5efdcad9baf3a27cb9b3cc49d12893c24a3bd5b0e8b783bd97a9406877c60", func := "tidegate/tidegatetop.TopLast", spec := "topLast", inPlace := ["internal/abi.NoEscape", "internal/bytealg.MakeNoZero", "internal/bytealg.abigen_runtime_cmpstring"], unfollowed := true, recurses := true, apart := false, narrowed := true }
def TopLastUptoSaid : Prop := topLastUptoRow.holds Try.pinned (OpenSpec.upto topLastSpec)

/-- 'tidegatetop.TopOthers', WHERE WHAT IT READS IS OF BULK AT MOST 1048576: true; the input reads as it did. -/
def topOthersUptoRow : OpenClaim := { program := "ytaepdbkfaoiimac", sum := "79d5efdcad9baf3a27cb9b3cc49d12893c24a3bd5b0e8b783bd97a9406877c60", func := "tidegate/tidegatetop.TopOthers", spec := "topOthers", inPlace := ["internal/abi.NoEscape", "internal/bytealg.MakeNoZero", "internal/bytealg.abigen_runtime_cmpstring"], unfollowed := true, recurses := true, apart := false, narrowed := true }
def TopOthersUptoSaid : Prop := topOthersUptoRow.holds Try.pinned (OpenSpec.upto topOthersSpec)

/-- 'tidegatetop.TopRefuse', WHERE WHAT IT READS IS OF BULK AT MOST 1048576: true; the input reads as it did. -/
def topRefuseUptoRow : OpenClaim := { program := "ytaepdbkfaoiimac", sum := "79d5efdcad9baf3a27cb9b3cc49d12893c24a3bd5b0e8b783bd97a9406877c60", func := "tidegate/tidegatetop.TopRefuse", spec := "topRefuse", inPlace := ["internal/abi.NoEscape", "internal/bytealg.MakeNoZero", "internal/bytealg.abigen_runtime_cmpstring"], unfollowed := true, recurses := true, apart := false, narrowed := true }
def TopRefuseUptoSaid : Prop := topRefuseUptoRow.holds Try.pinned (OpenSpec.upto topRefuseSpec)

/-- 'tidegatetop.TopFull', WHERE WHAT IT READS IS OF BULK AT MOST 1048576: true; the input reads as it did. -/
def topFullUptoRow : OpenClaim := { program := "ytaepdbkfaoiimac", sum := "79d5efdcad9baf3a27cb9b3cc49d12893c24a3bd5b0e8b783bd97a9406877c60", func := "tidegate/tidegatetop.TopFull", spec := "topFull", inPlace := ["internal/abi.NoEscape", "internal/bytealg.MakeNoZero", "internal/bytealg.abigen_runtime_cmpstring"], unfollowed := true, recurses := true, apart := false, narrowed := true }
def TopFullUptoSaid : Prop := topFullUptoRow.holds Try.pinned (OpenSpec.upto topFullSpec)

/-- 'tidegatetop.TopAsked', WHERE WHAT IT READS IS OF BULK AT MOST 1048576: true; the input reads as it did. -/
def topAskedUptoRow : OpenClaim := { program := "ytaepdbkfaoiimac", sum := "79d5efdcad9baf3a27cb9b3cc49d12893c24a3bd5b0e8b783bd97a9406877c60", func := "tidegate/tidegatetop.TopAsked", spec := "topAsked", inPlace := ["internal/abi.NoEscape", "internal/bytealg.MakeNoZero", "internal/bytealg.abigen_runtime_cmpstring"], unfollowed := true, recurses := true, apart := false, narrowed := true }
def TopAskedUptoSaid : Prop := topAskedUptoRow.holds Try.pinned (OpenSpec.upto topAskedSpec)

/-- 'tidegatetop.TopPages', WHERE WHAT IT READS IS OF BULK AT MOST 1048576: true; the input reads as it did. -/
def topPagesUptoRow : OpenClaim := { program := "ytaepdbkfaoiimac", sum := "79d5efdcad9baf3a27cb9b3cc49d12893c24a3bd5b0e8b783bd97a9406877c60", func := "tidegate/tidegatetop.TopPages", spec := "topPages", inPlace := ["internal/abi.NoEscape", "internal/bytealg.MakeNoZero", "internal/bytealg.abigen_runtime_cmpstring"], unfollowed := true, recurses := true, apart := false, narrowed := true }
def TopPagesUptoSaid : Prop := topPagesUptoRow.holds Try.pinned (OpenSpec.upto topPagesSpec)

/-- 'tidegatetop.TopFew', WHERE WHAT IT READS IS OF BULK AT MOST 1048576: true; the input reads as it did. -/
def topFewUptoRow : OpenClaim := { program := "ytaepdbkfaoiimac", sum := "79d5efdcad9baf3a27cb9b3cc49d12893c24a3bd5b0e8b783bd97a9406877c60", func := "tidegate/tidegatetop.TopFew", spec := "topFew", inPlace := ["internal/abi.NoEscape", "internal/bytealg.MakeNoZero", "internal/bytealg.abigen_runtime_cmpstring"], unfollowed := true, recurses := true, apart := false, narrowed := true }
def TopFewUptoSaid : Prop := topFewUptoRow.holds Try.pinned (OpenSpec.upto topFewSpec)

/-- 'tidegatetop.TopOld', WHERE WHAT IT READS IS OF BULK AT MOST 1048576: true; the input reads as it did. -/
def topOldUptoRow : OpenClaim := { program := "ytaepdbkfaoiimac", sum := "79d5efdcad9baf3a27cb9b3cc49d12893c24a3bd5b0e8b783bd97a9406877c60", func := "tidegate/tidegatetop.TopOld", spec := "topOld", inPlace := ["internal/abi.NoEscape", "internal/bytealg.MakeNoZero", "internal/bytealg.abigen_runtime_cmpstring"], unfollowed := true, recurses := true, apart := false, narrowed := true }
def TopOldUptoSaid : Prop := topOldUptoRow.holds Try.pinned (OpenSpec.upto topOldSpec)

end Rows
end Go.Proofs.Ytaepdbkfaoiimac
