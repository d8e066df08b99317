/-
  No cell of these rows narrows 'for every input' (looked for: loops, veiled, ifaces, maps, wideKeys, modest, calm, conditions, laid).
  DERIVED. THE GIVEN ROWS OF THIS SEAT. 9 by the template 'for every input the law returns true; each argument reads behind the call as it read before'; 0 by the template 'total and deterministic' (their statements: YtaepdbkfaoiimaaTotals.lean).
  GIVEN WITH THE SEED: the statements are not yours to turn. If you find one false, say at which input.
  Laid BY PROGRAM, IN A SANDBOX (cutbox-rows.mjs): the forced cells as the released guide's own fill.sh prints them over the translation c5e26e0dbe38236b… (all of the seat's roots in one cut). By AI agents, Wed Nov 11 2026. No macro, syntax, notation, axiom, sorry.
-/
import Derived.Test.YtaepdbkfaoiimaaChecked
import GoSem.Claim
import GoSem.ClaimJoined
import GoSem.ClaimMapViews
import Derived.JoinedTies
import Derived.KernelRfl
namespace Go.Proofs.Ytaepdbkfaoiimaa
/- THE CELL 'sum', in the pinned program and in every row, IS THE sha256 OF THE DUMP (.gsa) THAT YtaepdbkfaoiimaaProg.lean LOADS. Nothing in Lean hashes anything: it is a label: what it is worth is what the hold of that sum in a sandbox is worth. -/
noncomputable def Try.pinned : Pinned := { name := "ytaepdbkfaoiimaa", sum := "c5e26e0dbe38236b5fde38357c2ae4ca13377c49afeb098c2900af937390b919", checked := Try.checked }
namespace Rows
def none {H : Type} : Left H := { results := [], args := [] }

/-- 'tidegatelaw.FilterSays': WHATEVER THE INPUT: true; the input reads as it did. -/
def filterSaysSpec : ChangeSpec := { name := "filterSays", fn := fun _ => fun
  | [d1, d2, d3] => { results := [.lit (.bool true)], args := [d1, d2, d3] }
  | _ => none }
def filterSaysRow : OpenClaim := { program := "ytaepdbkfaoiimaa", sum := "c5e26e0dbe38236b5fde38357c2ae4ca13377c49afeb098c2900af937390b919", func := "tidegate/tidegatelaw.FilterSays", spec := "filterSays", apart := false }
def FilterSaysSaid : Prop := filterSaysRow.holds Try.pinned (OpenSpec.ofChange filterSaysSpec)

/-- ITS FALSE NEIGHBOUR: 'it returns false'. Refute it at one input. -/
def filterSaysWrong : ChangeSpec := { name := "filterSays", fn := fun _ => fun
  | [d1, d2, d3] => { results := [.lit (.bool false)], args := [d1, d2, d3] }
  | _ => none }
def FilterSaysWrongFalsely : Prop := filterSaysRow.holds Try.pinned (OpenSpec.ofChange filterSaysWrong)

/-- 'tidegatelaw.MergeSays': WHATEVER THE INPUT: true; the input reads as it did. -/
def mergeSaysSpec : ChangeSpec := { name := "mergeSays", fn := fun _ => fun
  | [d] => { results := [.lit (.bool true)], args := [d] }
  | _ => none }
def mergeSaysRow : OpenClaim := { program := "ytaepdbkfaoiimaa", sum := "c5e26e0dbe38236b5fde38357c2ae4ca13377c49afeb098c2900af937390b919", func := "tidegate/tidegatelaw.MergeSays", spec := "mergeSays", apart := false }
def MergeSaysSaid : Prop := mergeSaysRow.holds Try.pinned (OpenSpec.ofChange mergeSaysSpec)

/-- ITS FALSE NEIGHBOUR: 'it returns false'. Refute it at one input. -/
def mergeSaysWrong : ChangeSpec := { name := "mergeSays", fn := fun _ => fun
  | [d] => { results := [.lit (.bool false)], args := [d] }
  | _ => none }
def MergeSaysWrongFalsely : Prop := mergeSaysRow.holds Try.pinned (OpenSpec.ofChange mergeSaysWrong)

/-- 'tidegatelaw.TowerSays': WHATEVER THE INPUT: true; the input reads as it did. -/
def towerSaysSpec : ChangeSpec := { name := "towerSays", fn := fun _ => fun
  | [d1, d2, d3] => { results := [.lit (.bool true)], args := [d1, d2, d3] }
  | _ => none }
def towerSaysRow : OpenClaim := { program := "ytaepdbkfaoiimaa", sum := "c5e26e0dbe38236b5fde38357c2ae4ca13377c49afeb098c2900af937390b919", func := "tidegate/tidegatelaw.TowerSays", spec := "towerSays", apart := false }
def TowerSaysSaid : Prop := towerSaysRow.holds Try.pinned (OpenSpec.ofChange towerSaysSpec)

/-- ITS FALSE NEIGHBOUR: 'it returns false'. Refute it at one input. -/
def towerSaysWrong : ChangeSpec := { name := "towerSays", fn := fun _ => fun
  | [d1, d2, d3] => { results := [.lit (.bool false)], args := [d1, d2, d3] }
  | _ => none }
def TowerSaysWrongFalsely : Prop := towerSaysRow.holds Try.pinned (OpenSpec.ofChange towerSaysWrong)

/-- 'tidegatelaw.EntrySays': WHATEVER THE INPUT: true; the input reads as it did. -/
def entrySaysSpec : ChangeSpec := { name := "entrySays", fn := fun _ => fun
  | [d1, d2] => { results := [.lit (.bool true)], args := [d1, d2] }
  | _ => none }
def entrySaysRow : OpenClaim := { program := "ytaepdbkfaoiimaa", sum := "c5e26e0dbe38236b5fde38357c2ae4ca13377c49afeb098c2900af937390b919", func := "tidegate/tidegatelaw.EntrySays", spec := "entrySays", apart := false }
def EntrySaysSaid : Prop := entrySaysRow.holds Try.pinned (OpenSpec.ofChange entrySaysSpec)

/-- ITS FALSE NEIGHBOUR: 'it returns false'. Refute it at one input. -/
def entrySaysWrong : ChangeSpec := { name := "entrySays", fn := fun _ => fun
  | [d1, d2] => { results := [.lit (.bool false)], args := [d1, d2] }
  | _ => none }
def EntrySaysWrongFalsely : Prop := entrySaysRow.holds Try.pinned (OpenSpec.ofChange entrySaysWrong)

/-- 'tidegatelaw.ChipSays': WHATEVER THE INPUT: true; the input reads as it did. -/
def chipSaysSpec : ChangeSpec := { name := "chipSays", fn := fun _ => fun
  | [d] => { results := [.lit (.bool true)], args := [d] }
  | _ => none }
def chipSaysRow : OpenClaim := { program := "ytaepdbkfaoiimaa", sum := "c5e26e0dbe38236b5fde38357c2ae4ca13377c49afeb098c2900af937390b919", func := "tidegate/tidegatelaw.ChipSays", spec := "chipSays", inPlace := ["internal/abi.NoEscape", "internal/bytealg.MakeNoZero"], unfollowed := true, recurses := true, apart := false }
def ChipSaysSaid : Prop := chipSaysRow.holds Try.pinned (OpenSpec.ofChange chipSaysSpec)

/-- ITS FALSE NEIGHBOUR: 'it returns false'. Refute it at one input. -/
def chipSaysWrong : ChangeSpec := { name := "chipSays", fn := fun _ => fun
  | [d] => { results := [.lit (.bool false)], args := [d] }
  | _ => none }
def ChipSaysWrongFalsely : Prop := chipSaysRow.holds Try.pinned (OpenSpec.ofChange chipSaysWrong)

/-- 'tidegatelaw.ManifestSays': WHATEVER THE INPUT: true; the input reads as it did. -/
def manifestSaysSpec : ChangeSpec := { name := "manifestSays", fn := fun _ => fun
  | [d1, d2, d3] => { results := [.lit (.bool true)], args := [d1, d2, d3] }
  | _ => none }
def manifestSaysRow : OpenClaim := { program := "ytaepdbkfaoiimaa", sum := "c5e26e0dbe38236b5fde38357c2ae4ca13377c49afeb098c2900af937390b919", func := "tidegate/tidegatelaw.ManifestSays", spec := "manifestSays", inPlace := ["internal/abi.NoEscape", "internal/bytealg.MakeNoZero"], unfollowed := true, recurses := true, apart := false }
def ManifestSaysSaid : Prop := manifestSaysRow.holds Try.pinned (OpenSpec.ofChange manifestSaysSpec)

/-- ITS FALSE NEIGHBOUR: 'it returns false'. Refute it at one input. -/
def manifestSaysWrong : ChangeSpec := { name := "manifestSays", fn := fun _ => fun
  | [d1, d2, d3] => { results := [.lit (.bool false)], args := [d1, d2, d3] }
  | _ => none }
def ManifestSaysWrongFalsely : Prop := manifestSaysRow.holds Try.pinned (OpenSpec.ofChange manifestSaysWrong)

/-- 'tidegatelaw.ScanSays': WHATEVER THE INPUT: true; the input reads as it did. -/
def scanSaysSpec : ChangeSpec := { name := "scanSays", fn := fun _ => fun
  | [d1, d2, d3, d4] => { results := [.lit (.bool true)], args := [d1, d2, d3, d4] }
  | _ => none }
def scanSaysRow : OpenClaim := { program := "ytaepdbkfaoiimaa", sum := "c5e26e0dbe38236b5fde38357c2ae4ca13377c49afeb098c2900af937390b919", func := "tidegate/tidegatelaw.ScanSays", spec := "scanSays", inPlace := ["internal/abi.NoEscape", "internal/bytealg.MakeNoZero"], unfollowed := true, recurses := true, apart := false }
def ScanSaysSaid : Prop := scanSaysRow.holds Try.pinned (OpenSpec.ofChange scanSaysSpec)

/-- ITS FALSE NEIGHBOUR: 'it returns false'. Refute it at one input. -/
def scanSaysWrong : ChangeSpec := { name := "scanSays", fn := fun _ => fun
  | [d1, d2, d3, d4] => { results := [.lit (.bool false)], args := [d1, d2, d3, d4] }
  | _ => none }
def ScanSaysWrongFalsely : Prop := scanSaysRow.holds Try.pinned (OpenSpec.ofChange scanSaysWrong)

/-- 'tidegatetop.TopFilter': WHATEVER THE INPUT: true; the input reads as it did. -/
def topFilterSpec : ChangeSpec := { name := "topFilter", fn := fun _ => fun
  | [d1, d2, d3] => { results := [.lit (.bool true)], args := [d1, d2, d3] }
  | _ => none }
def topFilterRow : OpenClaim := { program := "ytaepdbkfaoiimaa", sum := "c5e26e0dbe38236b5fde38357c2ae4ca13377c49afeb098c2900af937390b919", func := "tidegate/tidegatetop.TopFilter", spec := "topFilter", apart := false }
def TopFilterSaid : Prop := topFilterRow.holds Try.pinned (OpenSpec.ofChange topFilterSpec)

/-- ITS FALSE NEIGHBOUR: 'it returns false'. Refute it at one input. -/
def topFilterWrong : ChangeSpec := { name := "topFilter", fn := fun _ => fun
  | [d1, d2, d3] => { results := [.lit (.bool false)], args := [d1, d2, d3] }
  | _ => none }
def TopFilterWrongFalsely : Prop := topFilterRow.holds Try.pinned (OpenSpec.ofChange topFilterWrong)

/-- 'tidegatelaw.SurveySays': WHATEVER THE INPUT: true; the input reads as it did. -/
def surveySaysSpec : ChangeSpec := { name := "surveySays", fn := fun _ => fun
  | [d] => { results := [.lit (.bool true)], args := [d] }
  | _ => none }
def surveySaysRow : OpenClaim := { program := "ytaepdbkfaoiimaa", sum := "c5e26e0dbe38236b5fde38357c2ae4ca13377c49afeb098c2900af937390b919", func := "tidegate/tidegatelaw.SurveySays", spec := "surveySays", inPlace := ["internal/abi.NoEscape", "internal/bytealg.MakeNoZero"], unfollowed := true, recurses := true, apart := false }
def SurveySaysSaid : Prop := surveySaysRow.holds Try.pinned (OpenSpec.ofChange surveySaysSpec)

/-- ITS FALSE NEIGHBOUR: 'it returns false'. Refute it at one input. -/
def surveySaysWrong : ChangeSpec := { name := "surveySays", fn := fun _ => fun
  | [d] => { results := [.lit (.bool false)], args := [d] }
  | _ => none }
def SurveySaysWrongFalsely : Prop := surveySaysRow.holds Try.pinned (OpenSpec.ofChange surveySaysWrong)

/- THE SECOND FORM. 'bulk': how many values and letters a reading holds, each counted each time it is reached (what is shared counts as often as it is met; a slice's spare places count too). A statement '..UptoSaid' is the law's where the arguments, and the package variables that the reading takes, are together of bulk at most 1048576: NARROWER than '..Said'. Prove '..Said' where nothing that the law and all that it calls make is longer than what came in: it says more and counts as full. Else prove '..UptoSaid'. A law counts once. -/
mutual
def uptoBulk {H : Type} : DataW H → Nat
  | .lit (.string bytes) => bytes.length + 1
  | .lit _ => 1
  | .nil => 1
  | .ptr d => uptoBulk d + 1
  | .slice elems spare => uptoBulkAll elems + uptoBulkAll spare + 1
  | .agg parts => uptoBulkAll parts + 1
  | .iface _ d => uptoBulk d + 1
  | .map entries => uptoBulkEntries entries + 1
  | .held _ => 1
def uptoBulkAll {H : Type} : List (DataW H) → Nat
  | [] => 0
  | d :: r => uptoBulk d + uptoBulkAll r
def uptoBulkEntries {H : Type} : List (Lit × DataW H) → Nat
  | [] => 0
  | x :: r => uptoBulkEntry x + uptoBulkEntries r
def uptoBulkEntry {H : Type} : Lit × DataW H → Nat
  | (.string bytes, d) => bytes.length + uptoBulk d + 1
  | (_, d) => uptoBulk d + 1
 end
def uptoSmall : (H : Type) → List (DataW H) → Bool := fun _ ds => decide (uptoBulkAll ds ≤ 1048576)
def OpenSpec.upto (s : _root_.Go.ChangeSpec) : _root_.Go.OpenSpec := { _root_.Go.OpenSpec.ofChange s with cond := some uptoSmall }

/-- 'tidegatelaw.FilterSays', WHERE WHAT IT READS IS OF BULK AT MOST 1048576: true; the input reads as it did. -/
def filterSaysUptoRow : OpenClaim := { program := "ytaepdbkfaoiimaa", sum := "c5e26e0dbe38236b5fde38357c2ae4ca13377c49afeb098c2900af937390b919", func := "tidegate/tidegatelaw.FilterSays", spec := "filterSays", apart := false, narrowed := true }
def FilterSaysUptoSaid : Prop := filterSaysUptoRow.holds Try.pinned (OpenSpec.upto filterSaysSpec)

/-- 'tidegatelaw.MergeSays', WHERE WHAT IT READS IS OF BULK AT MOST 1048576: true; the input reads as it did. -/
def mergeSaysUptoRow : OpenClaim := { program := "ytaepdbkfaoiimaa", sum := "c5e26e0dbe38236b5fde38357c2ae4ca13377c49afeb098c2900af937390b919", func := "tidegate/tidegatelaw.MergeSays", spec := "mergeSays", apart := false, narrowed := true }
def MergeSaysUptoSaid : Prop := mergeSaysUptoRow.holds Try.pinned (OpenSpec.upto mergeSaysSpec)

/-- 'tidegatelaw.TowerSays', WHERE WHAT IT READS IS OF BULK AT MOST 1048576: true; the input reads as it did. -/
def towerSaysUptoRow : OpenClaim := { program := "ytaepdbkfaoiimaa", sum := "c5e26e0dbe38236b5fde38357c2ae4ca13377c49afeb098c2900af937390b919", func := "tidegate/tidegatelaw.TowerSays", spec := "towerSays", apart := false, narrowed := true }
def TowerSaysUptoSaid : Prop := towerSaysUptoRow.holds Try.pinned (OpenSpec.upto towerSaysSpec)

/-- 'tidegatelaw.EntrySays', WHERE WHAT IT READS IS OF BULK AT MOST 1048576: true; the input reads as it did. -/
def entrySaysUptoRow : OpenClaim := { program := "ytaepdbkfaoiimaa", sum := "c5e26e0dbe38236b5fde38357c2ae4ca13377c49afeb098c2900af937390b919", func := "tidegate/tidegatelaw.EntrySays", spec := "entrySays", apart := false, narrowed := true }
def EntrySaysUptoSaid : Prop := entrySaysUptoRow.holds Try.pinned (OpenSpec.upto entrySaysSpec)

/-- 'tidegatelaw.ChipSays', WHERE WHAT IT READS IS OF BULK AT MOST 1048576: true; the input reads as it did. -/
def chipSaysUptoRow : OpenClaim := { program := "ytaepdbkfaoiimaa", sum := "c5e26e0dbe38236b5fde38357c2ae4ca13377c49afeb098c2900af937390b919", func := "tidegate/tidegatelaw.ChipSays", spec := "chipSays", inPlace := ["internal/abi.NoEscape", "internal/bytealg.MakeNoZero"], unfollowed := true, recurses := true, apart := false, narrowed := true }
def ChipSaysUptoSaid : Prop := chipSaysUptoRow.holds Try.pinned (OpenSpec.upto chipSaysSpec)

/-- 'tidegatelaw.ManifestSays', WHERE WHAT IT READS IS OF BULK AT MOST 1048576: true; the input reads as it did. -/
def manifestSaysUptoRow : OpenClaim := { program := "ytaepdbkfaoiimaa", sum := "c5e26e0dbe38236b5fde38357c2ae4ca13377c49afeb098c2900af937390b919", func := "tidegate/tidegatelaw.ManifestSays", spec := "manifestSays", inPlace := ["internal/abi.NoEscape", "internal/bytealg.MakeNoZero"], unfollowed := true, recurses := true, apart := false, narrowed := true }
def ManifestSaysUptoSaid : Prop := manifestSaysUptoRow.holds Try.pinned (OpenSpec.upto manifestSaysSpec)

/-- 'tidegatelaw.ScanSays', WHERE WHAT IT READS IS OF BULK AT MOST 1048576: true; the input reads as it did. -/
def scanSaysUptoRow : OpenClaim := { program := "ytaepdbkfaoiimaa", sum := "c5e26e0dbe38236b5fde38357c2ae4ca13377c49afeb098c2900af937390b919", func := "tidegate/tidegatelaw.ScanSays", spec := "scanSays", inPlace := ["internal/abi.NoEscape", "internal/bytealg.MakeNoZero"], unfollowed := true, recurses := true, apart := false, narrowed := true }
def ScanSaysUptoSaid : Prop := scanSaysUptoRow.holds Try.pinned (OpenSpec.upto scanSaysSpec)

/-- 'tidegatetop.TopFilter', WHERE WHAT IT READS IS OF BULK AT MOST 1048576: true; the input reads as it did. -/
def topFilterUptoRow : OpenClaim := { program := "ytaepdbkfaoiimaa", sum := "c5e26e0dbe38236b5fde38357c2ae4ca13377c49afeb098c2900af937390b919", func := "tidegate/tidegatetop.TopFilter", spec := "topFilter", apart := false, narrowed := true }
def TopFilterUptoSaid : Prop := topFilterUptoRow.holds Try.pinned (OpenSpec.upto topFilterSpec)

/-- 'tidegatelaw.SurveySays', WHERE WHAT IT READS IS OF BULK AT MOST 1048576: true; the input reads as it did. -/
def surveySaysUptoRow : OpenClaim := { program := "ytaepdbkfaoiimaa", sum := "c5e26e0dbe38236b5fde38357c2ae4ca13377c49afeb098c2900af937390b919", func := "tidegate/tidegatelaw.SurveySays", spec := "surveySays", inPlace := ["internal/abi.NoEscape", "internal/bytealg.MakeNoZero"], unfollowed := true, recurses := true, apart := false, narrowed := true }
def SurveySaysUptoSaid : Prop := surveySaysUptoRow.holds Try.pinned (OpenSpec.upto surveySaysSpec)

end Rows
end Go.Proofs.Ytaepdbkfaoiimaa
