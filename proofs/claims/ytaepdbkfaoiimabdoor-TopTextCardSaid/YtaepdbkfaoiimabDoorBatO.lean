/- Changes as a text: the reference's BatchOf computes the plain one. Conditions: texts of at most a million bytes. -/
import Derived.Test.YtaepdbkfaoiimabDoorBatR
set_option linter.unusedVariables false
set_option linter.unusedSimpArgs false
set_option linter.unnecessarySimpa false
namespace Go.Proofs.YtaepdbkfaoiimabDoor
open Go.RowKit
attribute [local go_sem] bt_idx bt_wrap
def wEnts (xs : List ByteArray) : List Ent := xs.map fun x => entW x.data.toList
theorem wEnts_next {xs : List ByteArray} {k : Nat} {x : ByteArray} (h : xs.take (k + 1) = xs.take k ++ [x]) : wEnts (xs.take (k + 1)) = wEnts (xs.take k) ++ [entW x.data.toList] := by
  unfold wEnts; rw [h, List.map_append]; rfl
end Go.Proofs.YtaepdbkfaoiimabDoor
