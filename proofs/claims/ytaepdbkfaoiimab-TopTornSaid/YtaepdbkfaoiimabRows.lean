/-
  No cell of these rows narrows 'for every input' (looked for: loops, veiled, ifaces, maps, wideKeys, modest, calm, conditions, laid).
  DERIVED. THE GIVEN ROWS OF THIS SEAT. 9 by the template 'for every input the law returns true; each argument reads behind the call as it read before'; 0 by the template 'total and deterministic' (their statements: YtaepdbkfaoiimabTotals.lean).
  GIVEN WITH THE SEED: the statements are not yours to turn. If you find one false, say at which input.
  Laid BY PROGRAM, IN A SANDBOX (cutbox-rows.mjs): the forced cells as the released guide's own fill.sh prints them over the translation 29012d7bd50d0b7d… (all of the seat's roots in one cut). By AI agents, Wed Nov 11 2026. No macro, syntax, notation, axiom, sorry.
-/
import Derived.Test.YtaepdbkfaoiimabChecked
import GoSem.Claim
import GoSem.ClaimJoined
import GoSem.ClaimMapViews
import Derived.JoinedTies
import Derived.KernelRfl
namespace Go.Proofs.Ytaepdbkfaoiimab
/- THE CELL 'sum', in the pinned program and in every row, IS THE sha256 OF THE DUMP (.gsa) THAT YtaepdbkfaoiimabProg.lean LOADS. Nothing in Lean hashes anything: it is a label: what it is worth is what the hold of that sum in a sandbox is worth. -/
noncomputable def Try.pinned : Pinned := { name := "ytaepdbkfaoiimab", sum := "29012d7bd50d0b7d8348b4592591b54de5047f1d307ea91513d739bff6ba15fd", checked := Try.checked }
namespace Rows
def none {H : Type} : Left H := { results := [], args := [] }

/-- 'tidegatetop.TopMerge': WHATEVER THE INPUT: true; the input reads as it did. -/
def topMergeSpec : ChangeSpec := { name := "topMerge", fn := fun _ => fun
  | [d1, d2, d3] => { results := [.lit (.bool true)], args := [d1, d2, d3] }
  | _ => none }
def topMergeRow : OpenClaim := { program := "ytaepdbkfaoiimab", sum := "29012d7bd50d0b7d8348b4592591b54de5047f1d307ea91513d739bff6ba15fd", func := "tidegate/tidegatetop.TopMerge", spec := "topMerge", apart := false }
def TopMergeSaid : Prop := topMergeRow.holds Try.pinned (OpenSpec.ofChange topMergeSpec)

/-- ITS FALSE NEIGHBOUR: 'it returns false'. Refute it at one input. -/
def topMergeWrong : ChangeSpec := { name := "topMerge", fn := fun _ => fun
  | [d1, d2, d3] => { results := [.lit (.bool false)], args := [d1, d2, d3] }
  | _ => none }
def TopMergeWrongFalsely : Prop := topMergeRow.holds Try.pinned (OpenSpec.ofChange topMergeWrong)

/-- 'tidegatetop.TopTower': WHATEVER THE INPUT: true; the input reads as it did. -/
def topTowerSpec : ChangeSpec := { name := "topTower", fn := fun _ => fun
  | [d1, d2, d3, d4] => { results := [.lit (.bool true)], args := [d1, d2, d3, d4] }
  | _ => none }
def topTowerRow : OpenClaim := { program := "ytaepdbkfaoiimab", sum := "29012d7bd50d0b7d8348b4592591b54de5047f1d307ea91513d739bff6ba15fd", func := "tidegate/tidegatetop.TopTower", spec := "topTower", apart := false }
def TopTowerSaid : Prop := topTowerRow.holds Try.pinned (OpenSpec.ofChange topTowerSpec)

/-- ITS FALSE NEIGHBOUR: 'it returns false'. Refute it at one input. -/
def topTowerWrong : ChangeSpec := { name := "topTower", fn := fun _ => fun
  | [d1, d2, d3, d4] => { results := [.lit (.bool false)], args := [d1, d2, d3, d4] }
  | _ => none }
def TopTowerWrongFalsely : Prop := topTowerRow.holds Try.pinned (OpenSpec.ofChange topTowerWrong)

/-- 'tidegatetop.TopEntry': WHATEVER THE INPUT: true; the input reads as it did. -/
def topEntrySpec : ChangeSpec := { name := "topEntry", fn := fun _ => fun
  | [d1, d2] => { results := [.lit (.bool true)], args := [d1, d2] }
  | _ => none }
def topEntryRow : OpenClaim := { program := "ytaepdbkfaoiimab", sum := "29012d7bd50d0b7d8348b4592591b54de5047f1d307ea91513d739bff6ba15fd", func := "tidegate/tidegatetop.TopEntry", spec := "topEntry", apart := false }
def TopEntrySaid : Prop := topEntryRow.holds Try.pinned (OpenSpec.ofChange topEntrySpec)

/-- ITS FALSE NEIGHBOUR: 'it returns false'. Refute it at one input. -/
def topEntryWrong : ChangeSpec := { name := "topEntry", fn := fun _ => fun
  | [d1, d2] => { results := [.lit (.bool false)], args := [d1, d2] }
  | _ => none }
def TopEntryWrongFalsely : Prop := topEntryRow.holds Try.pinned (OpenSpec.ofChange topEntryWrong)

/-- 'tidegatetop.TopManifest': WHATEVER THE INPUT: true; the input reads as it did. -/
def topManifestSpec : ChangeSpec := { name := "topManifest", fn := fun _ => fun
  | [d1, d2] => { results := [.lit (.bool true)], args := [d1, d2] }
  | _ => none }
def topManifestRow : OpenClaim := { program := "ytaepdbkfaoiimab", sum := "29012d7bd50d0b7d8348b4592591b54de5047f1d307ea91513d739bff6ba15fd", func := "tidegate/tidegatetop.TopManifest", spec := "topManifest", apart := false }
def TopManifestSaid : Prop := topManifestRow.holds Try.pinned (OpenSpec.ofChange topManifestSpec)

/-- ITS FALSE NEIGHBOUR: 'it returns false'. Refute it at one input. -/
def topManifestWrong : ChangeSpec := { name := "topManifest", fn := fun _ => fun
  | [d1, d2] => { results := [.lit (.bool false)], args := [d1, d2] }
  | _ => none }
def TopManifestWrongFalsely : Prop := topManifestRow.holds Try.pinned (OpenSpec.ofChange topManifestWrong)

/-- 'tidegatetop.TopOnce': WHATEVER THE INPUT: true; the input reads as it did. -/
def topOnceSpec : ChangeSpec := { name := "topOnce", fn := fun _ => fun
  | [d1, d2] => { results := [.lit (.bool true)], args := [d1, d2] }
  | _ => none }
def topOnceRow : OpenClaim := { program := "ytaepdbkfaoiimab", sum := "29012d7bd50d0b7d8348b4592591b54de5047f1d307ea91513d739bff6ba15fd", func := "tidegate/tidegatetop.TopOnce", spec := "topOnce", inPlace := ["internal/abi.NoEscape", "internal/bytealg.MakeNoZero"], unfollowed := true, recurses := true, apart := false }
def TopOnceSaid : Prop := topOnceRow.holds Try.pinned (OpenSpec.ofChange topOnceSpec)

/-- ITS FALSE NEIGHBOUR: 'it returns false'. Refute it at one input. -/
def topOnceWrong : ChangeSpec := { name := "topOnce", fn := fun _ => fun
  | [d1, d2] => { results := [.lit (.bool false)], args := [d1, d2] }
  | _ => none }
def TopOnceWrongFalsely : Prop := topOnceRow.holds Try.pinned (OpenSpec.ofChange topOnceWrong)

/-- 'tidegatetop.TopTorn': WHATEVER THE INPUT: true; the input reads as it did. -/
def topTornSpec : ChangeSpec := { name := "topTorn", fn := fun _ => fun
  | [d1, d2, d3] => { results := [.lit (.bool true)], args := [d1, d2, d3] }
  | _ => none }
def topTornRow : OpenClaim := { program := "ytaepdbkfaoiimab", sum := "29012d7bd50d0b7d8348b4592591b54de5047f1d307ea91513d739bff6ba15fd", func := "tidegate/tidegatetop.TopTorn", spec := "topTorn", inPlace := ["internal/abi.NoEscape", "internal/bytealg.MakeNoZero"], unfollowed := true, recurses := true, apart := false }
def TopTornSaid : Prop := topTornRow.holds Try.pinned (OpenSpec.ofChange topTornSpec)

/-- ITS FALSE NEIGHBOUR: 'it returns false'. Refute it at one input. -/
def topTornWrong : ChangeSpec := { name := "topTorn", fn := fun _ => fun
  | [d1, d2, d3] => { results := [.lit (.bool false)], args := [d1, d2, d3] }
  | _ => none }
def TopTornWrongFalsely : Prop := topTornRow.holds Try.pinned (OpenSpec.ofChange topTornWrong)

/-- 'tidegatetop.TopNewest': WHATEVER THE INPUT: true; the input reads as it did. -/
def topNewestSpec : ChangeSpec := { name := "topNewest", fn := fun _ => fun
  | [d1, d2, d3] => { results := [.lit (.bool true)], args := [d1, d2, d3] }
  | _ => none }
def topNewestRow : OpenClaim := { program := "ytaepdbkfaoiimab", sum := "29012d7bd50d0b7d8348b4592591b54de5047f1d307ea91513d739bff6ba15fd", func := "tidegate/tidegatetop.TopNewest", spec := "topNewest", inPlace := ["internal/abi.NoEscape", "internal/bytealg.MakeNoZero"], unfollowed := true, recurses := true, apart := false }
def TopNewestSaid : Prop := topNewestRow.holds Try.pinned (OpenSpec.ofChange topNewestSpec)

/-- ITS FALSE NEIGHBOUR: 'it returns false'. Refute it at one input. -/
def topNewestWrong : ChangeSpec := { name := "topNewest", fn := fun _ => fun
  | [d1, d2, d3] => { results := [.lit (.bool false)], args := [d1, d2, d3] }
  | _ => none }
def TopNewestWrongFalsely : Prop := topNewestRow.holds Try.pinned (OpenSpec.ofChange topNewestWrong)

/-- 'tidegatetop.TopTable': WHATEVER THE INPUT: true; the input reads as it did. -/
def topTableSpec : ChangeSpec := { name := "topTable", fn := fun _ => fun
  | [d1, d2, d3] => { results := [.lit (.bool true)], args := [d1, d2, d3] }
  | _ => none }
def topTableRow : OpenClaim := { program := "ytaepdbkfaoiimab", sum := "29012d7bd50d0b7d8348b4592591b54de5047f1d307ea91513d739bff6ba15fd", func := "tidegate/tidegatetop.TopTable", spec := "topTable", inPlace := ["internal/abi.NoEscape", "internal/bytealg.MakeNoZero", "internal/bytealg.abigen_runtime_cmpstring"], unfollowed := true, recurses := true, apart := false }
def TopTableSaid : Prop := topTableRow.holds Try.pinned (OpenSpec.ofChange topTableSpec)

/-- ITS FALSE NEIGHBOUR: 'it returns false'. Refute it at one input. -/
def topTableWrong : ChangeSpec := { name := "topTable", fn := fun _ => fun
  | [d1, d2, d3] => { results := [.lit (.bool false)], args := [d1, d2, d3] }
  | _ => none }
def TopTableWrongFalsely : Prop := topTableRow.holds Try.pinned (OpenSpec.ofChange topTableWrong)

/-- 'tidegatetop.TopUnseen': WHATEVER THE INPUT: true; the input reads as it did. -/
def topUnseenSpec : ChangeSpec := { name := "topUnseen", fn := fun _ => fun
  | [d1, d2] => { results := [.lit (.bool true)], args := [d1, d2] }
  | _ => none }
def topUnseenRow : OpenClaim := { program := "ytaepdbkfaoiimab", sum := "29012d7bd50d0b7d8348b4592591b54de5047f1d307ea91513d739bff6ba15fd", func := "tidegate/tidegatetop.TopUnseen", spec := "topUnseen", inPlace := ["internal/abi.NoEscape", "internal/bytealg.MakeNoZero", "internal/bytealg.abigen_runtime_cmpstring"], unfollowed := true, recurses := true, apart := false }
def TopUnseenSaid : Prop := topUnseenRow.holds Try.pinned (OpenSpec.ofChange topUnseenSpec)

/-- ITS FALSE NEIGHBOUR: 'it returns false'. Refute it at one input. -/
def topUnseenWrong : ChangeSpec := { name := "topUnseen", fn := fun _ => fun
  | [d1, d2] => { results := [.lit (.bool false)], args := [d1, d2] }
  | _ => none }
def TopUnseenWrongFalsely : Prop := topUnseenRow.holds Try.pinned (OpenSpec.ofChange topUnseenWrong)

/- THE SECOND FORM. 'bulk': how many values and letters a reading holds, each counted each time it is reached (what is shared counts as often as it is met; a slice's spare places count too). A statement '..UptoSaid' is the law's where the arguments, and the package variables that the reading takes, are together of bulk at most 1048576: NARROWER than '..Said'. Prove '..Said' where nothing that the law and all that it calls make is longer than what came in: it says more and counts as full. Else prove '..UptoSaid'. A law counts once. -/
mutual
def uptoBulk {H : Type} : DataW H → Nat
  | .lit (.string bytes) => bytes.length + 1
  | .lit _ => 1
  | .nil => 1
  | .ptr d => uptoBulk d + 1
  | .slice elems spare => uptoBulkAll elems + uptoBulkAll spare + 1
  | .agg parts => uptoBulkAll parts + 1
  | .iface _ d => uptoBulk d + 1
  | .map entries => uptoBulkEntries entries + 1
  | .held _ => 1
def uptoBulkAll {H : Type} : List (DataW H) → Nat
  | [] => 0
  | d :: r => uptoBulk d + uptoBulkAll r
def uptoBulkEntries {H : Type} : List (Lit × DataW H) → Nat
  | [] => 0
  | x :: r => uptoBulkEntry x + uptoBulkEntries r
def uptoBulkEntry {H : Type} : Lit × DataW H → Nat
  | (.string bytes, d) => bytes.length + uptoBulk d + 1
  | (_, d) => uptoBulk d + 1
 end
def uptoSmall : (H : Type) → List (DataW H) → Bool := fun _ ds => decide (uptoBulkAll ds ≤ 1048576)
def OpenSpec.upto (s : _root_.Go.ChangeSpec) : _root_.Go.OpenSpec := { _root_.Go.OpenSpec.ofChange s with cond := some uptoSmall }

/-- 'tidegatetop.TopMerge', WHERE WHAT IT READS IS OF BULK AT MOST 1048576: true; the input reads as it did. -/
def topMergeUptoRow : OpenClaim := { program := "ytaepdbkfaoiimab", sum := "29012d7bd50d0b7d8348b4592591b54de5047f1d307ea91513d739bff6ba15fd", func := "tidegate/tidegatetop.TopMerge", spec := "topMerge", apart := false, narrowed := true }
def TopMergeUptoSaid : Prop := topMergeUptoRow.holds Try.pinned (OpenSpec.upto topMergeSpec)

/-- 'tidegatetop.TopTower', WHERE WHAT IT READS IS OF BULK AT MOST 1048576: true; the input reads as it did. -/
def topTowerUptoRow : OpenClaim := { program := "ytaepdbkfaoiimab", sum := "29012d7bd50d0b7d8348b4592591b54de5047f1d307ea91513d739bff6ba15fd", func := "tidegate/tidegatetop.TopTower", spec := "topTower", apart := false, narrowed := true }
def TopTowerUptoSaid : Prop := topTowerUptoRow.holds Try.pinned (OpenSpec.upto topTowerSpec)

/-- 'tidegatetop.TopEntry', WHERE WHAT IT READS IS OF BULK AT MOST 1048576: true; the input reads as it did. -/
def topEntryUptoRow : OpenClaim := { program := "ytaepdbkfaoiimab", sum := "29012d7bd50d0b7d8348b4592591b54de5047f1d307ea91513d739bff6ba15fd", func := "tidegate/tidegatetop.TopEntry", spec := "topEntry", apart := false, narrowed := true }
def TopEntryUptoSaid : Prop := topEntryUptoRow.holds Try.pinned (OpenSpec.upto topEntrySpec)

/-- 'tidegatetop.TopManifest', WHERE WHAT IT READS IS OF BULK AT MOST 1048576: true; the input reads as it did. -/
def topManifestUptoRow : OpenClaim := { program := "ytaepdbkfaoiimab", sum := "29012d7bd50d0b7d8348b4592591b54de5047f1d307ea91513d739bff6ba15fd", func := "tidegate/tidegatetop.TopManifest", spec := "topManifest", apart := false, narrowed := true }
def TopManifestUptoSaid : Prop := topManifestUptoRow.holds Try.pinned (OpenSpec.upto topManifestSpec)

/-- 'tidegatetop.TopOnce', WHERE WHAT IT READS IS OF BULK AT MOST 1048576: true; the input reads as it did. -/
def topOnceUptoRow : OpenClaim := { program := "ytaepdbkfaoiimab", sum := "29012d7bd50d0b7d8348b4592591b54de5047f1d307ea91513d739bff6ba15fd", func := "tidegate/tidegatetop.TopOnce", spec := "topOnce", inPlace := ["internal/abi.NoEscape", "internal/bytealg.MakeNoZero"], unfollowed := true, recurses := true, apart := false, narrowed := true }
def TopOnceUptoSaid : Prop := topOnceUptoRow.holds Try.pinned (OpenSpec.upto topOnceSpec)

/-- 'tidegatetop.TopTorn', WHERE WHAT IT READS IS OF BULK AT MOST 1048576: true; the input reads as it did. -/
def topTornUptoRow : OpenClaim := { program := "ytaepdbkfaoiimab", sum := "29012d7bd50d0b7d8348b4592591b54de5047f1d307ea91513d739bff6ba15fd", func := "tidegate/tidegatetop.TopTorn", spec := "topTorn", inPlace := ["internal/abi.NoEscape", "internal/bytealg.MakeNoZero"], unfollowed := true, recurses := true, apart := false, narrowed := true }
def TopTornUptoSaid : Prop := topTornUptoRow.holds Try.pinned (OpenSpec.upto topTornSpec)

/-- 'tidegatetop.TopNewest', WHERE WHAT IT READS IS OF BULK AT MOST 1048576: true; the input reads as it did. -/
def topNewestUptoRow : OpenClaim := { program := "ytaepdbkfaoiimab", sum := "29012d7bd50d0b7d8348b4592591b54de5047f1d307ea91513d739bff6ba15fd", func := "tidegate/tidegatetop.TopNewest", spec := "topNewest", inPlace := ["internal/abi.NoEscape", "internal/bytealg.MakeNoZero"], unfollowed := true, recurses := true, apart := false, narrowed := true }
def TopNewestUptoSaid : Prop := topNewestUptoRow.holds Try.pinned (OpenSpec.upto topNewestSpec)

/-- 'tidegatetop.TopTable', WHERE WHAT IT READS IS OF BULK AT MOST 1048576: true; the input reads as it did. -/
def topTableUptoRow : OpenClaim := { program := "ytaepdbkfaoiimab", sum := "29012d7bd50d0b7d8348b4592591b54de5047f1d307ea91513d739bff6ba15fd", func := "tidegate/tidegatetop.TopTable", spec := "topTable", inPlace := ["internal/abi.NoEscape", "internal/bytealg.MakeNoZero", "internal/bytealg.abigen_runtime_cmpstring"], unfollowed := true, recurses := true, apart := false, narrowed := true }
def TopTableUptoSaid : Prop := topTableUptoRow.holds Try.pinned (OpenSpec.upto topTableSpec)

/-- 'tidegatetop.TopUnseen', WHERE WHAT IT READS IS OF BULK AT MOST 1048576: true; the input reads as it did. -/
def topUnseenUptoRow : OpenClaim := { program := "ytaepdbkfaoiimab", sum := "29012d7bd50d0b7d8348b4592591b54de5047f1d307ea91513d739bff6ba15fd", func := "tidegate/tidegatetop.TopUnseen", spec := "topUnseen", inPlace := ["internal/abi.NoEscape", "internal/bytealg.MakeNoZero", "internal/bytealg.abigen_runtime_cmpstring"], unfollowed := true, recurses := true, apart := false, narrowed := true }
def TopUnseenUptoSaid : Prop := topUnseenUptoRow.holds Try.pinned (OpenSpec.upto topUnseenSpec)

end Rows
end Go.Proofs.Ytaepdbkfaoiimab
