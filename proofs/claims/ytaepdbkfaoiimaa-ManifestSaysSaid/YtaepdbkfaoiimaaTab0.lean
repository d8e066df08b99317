/- The plain model of a table: its pages, what is wrong with entries. Conditions: none. -/
import Derived.Test.YtaepdbkfaoiimaaFilt
import Derived.Test.YtaepdbkfaoiimaaPage
import Derived.Test.YtaepdbkfaoiimaaChipU
set_option linter.unusedVariables false
set_option linter.unusedSimpArgs false
namespace Go.Proofs.Ytaepdbkfaoiimaa
open Go.RowKit

/-- A filter as bytes. -/
def bitsB (f : Nat) : ByteArray := strOfNums (70 :: (List.range 8).map (fun i => ((f / 2 ^ (8 * i) % 256 : Nat) : Int)))
def chunks2 : List Ent → List (List Ent)
  | [] => []
  | [a] => [[a]]
  | a :: b :: l => [a, b] :: chunks2 l
/-- What the pages of a table are written with. -/
def rawPages (l : List Ent) : List ByteArray := bitsB (fOf (l.map Ent.k)) :: (chunks2 l).map (fun p => bytesL p.length p)
def tabPages (l : List Ent) : List Sheet := (rawPages l).map (fun d => ⟨pad d, false⟩)
/-- What is wrong with entries that rise, from the one ahead of them on. -/
def chkT : Option ByteArray → List Ent → Nat
  | _, [] => 0
  | p, e :: l => if faultE e ≠ 0 then faultE e else if (match p with | none => false | some k => leB e.k k) then 3 else chkT (some e.k) l
def tabF (l : List Ent) : Nat := if l.length = 0 ∨ 14 < l.length then 2 else chkT none l
theorem bitsB_size (f : Nat) : (bitsB f).size = 9 := by unfold bitsB; rw [strOfNums_size]; simp
theorem bitsB_at (f i : Nat) (h : i < 8) : bt (pad (bitsB f)) (1 + i) = f / 2 ^ (8 * i) % 256 := by
  have hd : (pad (bitsB f)).data.toList = [70] ++ (((List.range 8).map (fun i => UInt8.ofNat (((f / 2 ^ (8 * i) % 256 : Nat) : Int)).toNat)) ++ List.replicate (64 - (bitsB f).size) 0) := by
    simp only [pad, bitsB, strOfNums_data, List.map_cons, List.map_map]
    rfl
  have := bt_list hd i
  rw [show ([70] : List UInt8).length = 1 from rfl] at this
  rw [this, List.getD_eq_getElem?_getD, List.getElem?_append_left (by simpa using h), List.getElem?_map, List.getElem?_range h]
  show (UInt8.ofNat (((f / 2 ^ (8 * i) % 256 : Nat) : Int)).toNat).toNat = _
  rw [Int.toNat_natCast]
  simp
theorem bitsB_head (f : Nat) : bt (pad (bitsB f)) 0 = 70 := by
  have hd : (pad (bitsB f)).data.toList = [] ++ (UInt8.ofNat 70 :: (((List.range 8).map (fun i => UInt8.ofNat (((f / 2 ^ (8 * i) % 256 : Nat) : Int)).toNat)) ++ List.replicate (64 - (bitsB f).size) 0)) := by
    simp only [pad, bitsB, strOfNums_data, List.map_cons, List.map_map]
    rfl
  have := bt_list hd 0
  simpa using this
/-- The low bits and the next eight. -/
theorem or_step (f k : Nat) : (f % 2 ^ (8 * k)) ||| ((f / 2 ^ (8 * k) % 256) * 2 ^ (8 * k)) = f % 2 ^ (8 * (k + 1)) := by
  have hlt : f % 2 ^ (8 * k) < 2 ^ (8 * k) := Nat.mod_lt _ (Nat.pow_pos (by decide))
  rw [Nat.or_comm, Nat.mul_comm, ← Nat.two_pow_add_eq_or_of_lt hlt]
  have e : 2 ^ (8 * (k + 1)) = 2 ^ (8 * k) * 256 := by rw [Nat.mul_add, Nat.pow_add]
  rw [e, Nat.mod_mul]
  omega
end Go.Proofs.Ytaepdbkfaoiimaa
