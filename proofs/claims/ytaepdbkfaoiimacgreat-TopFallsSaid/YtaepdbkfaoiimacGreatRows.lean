/-
  No cell of these rows narrows 'for every input' (looked for: loops, veiled, ifaces, maps, wideKeys, modest, calm, conditions, laid).
  DERIVED. THE GIVEN ROWS OF THIS SEAT. 4 by the template 'for every input the law returns true; each argument reads behind the call as it read before'; 0 by the template 'total and deterministic' (their statements: YtaepdbkfaoiimacGreatTotals.lean).
  GIVEN WITH THE SEED: the statements are not yours to turn. If you find one false, say at which input.
  Laid BY PROGRAM, IN A SANDBOX (cutbox-rows.mjs): the forced cells as the released guide's own fill.sh prints them over the translation 4fe4b701c49135cf… (all of the seat's roots in one cut). By AI agents, Wed Nov 11 2026. No macro, syntax, notation, axiom, sorry.
-/
import Derived.Test.YtaepdbkfaoiimacGreatChecked
import GoSem.Claim
import GoSem.ClaimJoined
import GoSem.ClaimMapViews
import Derived.JoinedTies
import Derived.KernelRfl
namespace Go.Proofs.YtaepdbkfaoiimacGreat
/- THE CELL 'sum', in the pinned program and in every row, IS THE sha256 OF THE DUMP (.gsa) THAT YtaepdbkfaoiimacGreatProg.lean LOADS. Nothing in Lean hashes anything: it is a label: what it is worth is what the hold of that sum in a sandbox is worth. -/
noncomputable def Tryz.pinned : Pinned := { name := "ytaepdbkfaoiimacgreat", sum := "4fe4b701c49135cf8914ee26ed29a81ccfd752706ba48c11977797d8014b8e72", checked := Tryz.checked }
namespace Rows
def none {H : Type} : Left H := { results := [], args := [] }

/-- 'tidegatetop.TopFall': WHATEVER THE INPUT: true; the input reads as it did. -/
def topFallSpec : ChangeSpec := { name := "topFall", fn := fun _ => fun
  | [d1, d2, d3, d4] => { results := [.lit (.bool true)], args := [d1, d2, d3, d4] }
  | _ => none }
def topFallRow : OpenClaim := { program := "ytaepdbkfaoiimacgreat", sum := "4fe4b701c49135cf8914ee26ed29a81ccfd752706ba48c11977797d8014b8e72", func := "tidegate/tidegatetop.TopFall", spec := "topFall", inPlace := ["internal/abi.NoEscape", "internal/bytealg.MakeNoZero", "internal/bytealg.abigen_runtime_cmpstring"], unfollowed := true, recurses := true, apart := false }
def TopFallSaid : Prop := topFallRow.holds Tryz.pinned (OpenSpec.ofChange topFallSpec)

/-- ITS FALSE NEIGHBOUR: 'it returns false'. Refute it at one input. -/
def topFallWrong : ChangeSpec := { name := "topFall", fn := fun _ => fun
  | [d1, d2, d3, d4] => { results := [.lit (.bool false)], args := [d1, d2, d3, d4] }
  | _ => none }
def TopFallWrongFalsely : Prop := topFallRow.holds Tryz.pinned (OpenSpec.ofChange topFallWrong)

/-- 'tidegatetop.TopFalls': WHATEVER THE INPUT: true; the input reads as it did. -/
def topFallsSpec : ChangeSpec := { name := "topFalls", fn := fun _ => fun
  | [d] => { results := [.lit (.bool true)], args := [d] }
  | _ => none }
def topFallsRow : OpenClaim := { program := "ytaepdbkfaoiimacgreat", sum := "4fe4b701c49135cf8914ee26ed29a81ccfd752706ba48c11977797d8014b8e72", func := "tidegate/tidegatetop.TopFalls", spec := "topFalls", inPlace := ["internal/abi.NoEscape", "internal/bytealg.MakeNoZero", "internal/bytealg.abigen_runtime_cmpstring"], unfollowed := true, recurses := true, apart := false }
def TopFallsSaid : Prop := topFallsRow.holds Tryz.pinned (OpenSpec.ofChange topFallsSpec)

/-- ITS FALSE NEIGHBOUR: 'it returns false'. Refute it at one input. -/
def topFallsWrong : ChangeSpec := { name := "topFalls", fn := fun _ => fun
  | [d] => { results := [.lit (.bool false)], args := [d] }
  | _ => none }
def TopFallsWrongFalsely : Prop := topFallsRow.holds Tryz.pinned (OpenSpec.ofChange topFallsWrong)

/-- 'tidegatetop.TopLaid': WHATEVER THE INPUT: true; the input reads as it did. -/
def topLaidSpec : ChangeSpec := { name := "topLaid", fn := fun _ => fun
  | [d1, d2] => { results := [.lit (.bool true)], args := [d1, d2] }
  | _ => none }
def topLaidRow : OpenClaim := { program := "ytaepdbkfaoiimacgreat", sum := "4fe4b701c49135cf8914ee26ed29a81ccfd752706ba48c11977797d8014b8e72", func := "tidegate/tidegatetop.TopLaid", spec := "topLaid", inPlace := ["internal/abi.NoEscape", "internal/bytealg.MakeNoZero", "internal/bytealg.abigen_runtime_cmpstring"], unfollowed := true, recurses := true, apart := false }
def TopLaidSaid : Prop := topLaidRow.holds Tryz.pinned (OpenSpec.ofChange topLaidSpec)

/-- ITS FALSE NEIGHBOUR: 'it returns false'. Refute it at one input. -/
def topLaidWrong : ChangeSpec := { name := "topLaid", fn := fun _ => fun
  | [d1, d2] => { results := [.lit (.bool false)], args := [d1, d2] }
  | _ => none }
def TopLaidWrongFalsely : Prop := topLaidRow.holds Tryz.pinned (OpenSpec.ofChange topLaidWrong)

/-- 'tidegatetop.TopOpen': WHATEVER THE INPUT: true; the input reads as it did. -/
def topOpenSpec : ChangeSpec := { name := "topOpen", fn := fun _ => fun
  | [d] => { results := [.lit (.bool true)], args := [d] }
  | _ => none }
def topOpenRow : OpenClaim := { program := "ytaepdbkfaoiimacgreat", sum := "4fe4b701c49135cf8914ee26ed29a81ccfd752706ba48c11977797d8014b8e72", func := "tidegate/tidegatetop.TopOpen", spec := "topOpen", inPlace := ["internal/abi.NoEscape", "internal/bytealg.MakeNoZero", "internal/bytealg.abigen_runtime_cmpstring"], unfollowed := true, recurses := true, apart := false }
def TopOpenSaid : Prop := topOpenRow.holds Tryz.pinned (OpenSpec.ofChange topOpenSpec)

/-- ITS FALSE NEIGHBOUR: 'it returns false'. Refute it at one input. -/
def topOpenWrong : ChangeSpec := { name := "topOpen", fn := fun _ => fun
  | [d] => { results := [.lit (.bool false)], args := [d] }
  | _ => none }
def TopOpenWrongFalsely : Prop := topOpenRow.holds Tryz.pinned (OpenSpec.ofChange topOpenWrong)

/- THE SECOND FORM. 'bulk': how many values and letters a reading holds, each counted each time it is reached (what is shared counts as often as it is met; a slice's spare places count too). A statement '..UptoSaid' is the law's where the arguments, and the package variables that the reading takes, are together of bulk at most 1048576: NARROWER than '..Said'. Prove '..Said' where nothing that the law and all that it calls make is longer than what came in: it says more and counts as full. Else prove '..UptoSaid'. A law counts once. -/
mutual
def uptoBulk {H : Type} : DataW H → Nat
  | .lit (.string bytes) => bytes.length + 1
  | .lit _ => 1
  | .nil => 1
  | .ptr d => uptoBulk d + 1
  | .slice elems spare => uptoBulkAll elems + uptoBulkAll spare + 1
  | .agg parts => uptoBulkAll parts + 1
  | .iface _ d => uptoBulk d + 1
  | .map entries => uptoBulkEntries entries + 1
  | .held _ => 1
def uptoBulkAll {H : Type} : List (DataW H) → Nat
  | [] => 0
  | d :: r => uptoBulk d + uptoBulkAll r
def uptoBulkEntries {H : Type} : List (Lit × DataW H) → Nat
  | [] => 0
  | x :: r => uptoBulkEntry x + uptoBulkEntries r
def uptoBulkEntry {H : Type} : Lit × DataW H → Nat
  | (.string bytes, d) => bytes.length + uptoBulk d + 1
  | (_, d) => uptoBulk d + 1
 end
def uptoSmall : (H : Type) → List (DataW H) → Bool := fun _ ds => decide (uptoBulkAll ds ≤ 1048576)
def OpenSpec.upto (s : _root_.Go.ChangeSpec) : _root_.Go.OpenSpec := { _root_.Go.OpenSpec.ofChange s with cond := some uptoSmall }

/-- 'tidegatetop.TopFall', WHERE WHAT IT READS IS OF BULK AT MOST 1048576: true; the input reads as it did. -/
def topFallUptoRow : OpenClaim := { program := "ytaepdbkfaoiimacgreat", sum := "4fe4b701c49135cf8914ee26ed29a81ccfd752706ba48c11977797d8014b8e72", func := "tidegate/tidegatetop.TopFall", spec := "topFall", inPlace := ["internal/abi.NoEscape", "internal/bytealg.MakeNoZero", "internal/bytealg.abigen_runtime_cmpstring"], unfollowed := true, recurses := true, apart := false, narrowed := true }
def TopFallUptoSaid : Prop := topFallUptoRow.holds Tryz.pinned (OpenSpec.upto topFallSpec)

/-- 'tidegatetop.TopFalls', WHERE WHAT IT READS IS OF BULK AT MOST 1048576: true; the input reads as it did. -/
def topFallsUptoRow : OpenClaim := { program := "ytaepdbkfaoiimacgreat", sum := "4fe4b701c49135cf8914ee26ed29a81ccfd752706ba48c11977797d8014b8e72", func := "tidegate/tidegatetop.TopFalls", spec := "topFalls", inPlace := ["internal/abi.NoEscape", "internal/bytealg.MakeNoZero", "internal/bytealg.abigen_runtime_cmpstring"], unfollowed := true, recurses := true, apart := false, narrowed := true }
def TopFallsUptoSaid : Prop := topFallsUptoRow.holds Tryz.pinned (OpenSpec.upto topFallsSpec)

/-- 'tidegatetop.TopLaid', WHERE WHAT IT READS IS OF BULK AT MOST 1048576: true; the input reads as it did. -/
def topLaidUptoRow : OpenClaim := { program := "ytaepdbkfaoiimacgreat", sum := "4fe4b701c49135cf8914ee26ed29a81ccfd752706ba48c11977797d8014b8e72", func := "tidegate/tidegatetop.TopLaid", spec := "topLaid", inPlace := ["internal/abi.NoEscape", "internal/bytealg.MakeNoZero", "internal/bytealg.abigen_runtime_cmpstring"], unfollowed := true, recurses := true, apart := false, narrowed := true }
def TopLaidUptoSaid : Prop := topLaidUptoRow.holds Tryz.pinned (OpenSpec.upto topLaidSpec)

/-- 'tidegatetop.TopOpen', WHERE WHAT IT READS IS OF BULK AT MOST 1048576: true; the input reads as it did. -/
def topOpenUptoRow : OpenClaim := { program := "ytaepdbkfaoiimacgreat", sum := "4fe4b701c49135cf8914ee26ed29a81ccfd752706ba48c11977797d8014b8e72", func := "tidegate/tidegatetop.TopOpen", spec := "topOpen", inPlace := ["internal/abi.NoEscape", "internal/bytealg.MakeNoZero", "internal/bytealg.abigen_runtime_cmpstring"], unfollowed := true, recurses := true, apart := false, narrowed := true }
def TopOpenUptoSaid : Prop := topOpenUptoRow.holds Tryz.pinned (OpenSpec.upto topOpenSpec)

end Rows
end Go.Proofs.YtaepdbkfaoiimacGreat
