/- The contracts of package merge: Two, All, Live. Conditions: lists of at most a million entries. -/
import Derived.Test.YtaepdbkfaoiimabDoorOrd
import Derived.Test.YtaepdbkfaoiimabDoorLss
import Derived.Test.YtaepdbkfaoiimabDoorChecked
set_option linter.unusedVariables false
set_option linter.unusedSimpArgs false
namespace Go.Proofs.YtaepdbkfaoiimabDoor
open Go.RowKit

def lenOf : Value → Nat
  | .slice _ n _ => n
  | _ => 0

theorem info_entry : (Tryd.prog.info? 28).map (fun i => (i.zero, i.size, i.bytes)) = some (some (.agg #[.string ByteArray.empty, .string ByteArray.empty, .bool false]), 3, 40) := by kernel_rfl

/-- A slice of one entry, laid just now. -/
theorem rd_lit (B : Nat) (w : World) (e : Ent) : Rd B 28 3 (w.alloc (.cells #[.string e.k, .string e.v, .bool e.g] 28)) (.slice (some ⟨w.heap.size, 0, none⟩) 1 1) 1 e.cells := by
  have hb := Blk.new w 28 #[.string e.k, .string e.v, .bool e.g]
  refine ⟨rfl, _, _, rfl, Nat.le_refl _, by omega, fun _ => ⟨_, _, rfl, .inr ⟨_, _, hb⟩, hb.lt, fun j u hu => ?_⟩⟩
  rw [hb.cell]
  match j, hu with
  | 0, hu => exact hu
  | 1, hu => exact hu
  | 2, hu => exact hu
theorem rd_lit3 (B : Nat) (w : World) (n : Nat) (hn : w.heap.size = n) (k v : ByteArray) (g : Bool) : Rd B 28 3 (w.alloc (.cells #[.string k, .string v, .bool g] 28)) (.slice (some ⟨n, 0, none⟩) 1 1) 1 [.string k, .string v, .bool g] := by
  subst hn; exact rd_lit B w ⟨k, v, g⟩
theorem ent_one3 (k v : ByteArray) (g : Bool) : ∀ u ∈ [Value.string k, .string v, .bool g], u.oneCell' = true := by simp [Value.oneCell']
theorem ent_one (e : Ent) : ∀ u ∈ e.cells, u.oneCell' = true := by
  intro u hu
  simp only [Ent.cells, List.mem_cons, List.not_mem_nil, or_false] at hu
  rcases hu with rfl | rfl | rfl <;> rfl

end Go.Proofs.YtaepdbkfaoiimabDoor
