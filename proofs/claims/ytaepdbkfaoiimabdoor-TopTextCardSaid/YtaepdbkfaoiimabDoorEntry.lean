/- The contracts of package entry and of its reference: Check, Bytes, Parse. Conditions: none but the sizes of any memory. -/
import Derived.Test.YtaepdbkfaoiimabDoorSame
import Derived.Laws.BytesArg
import Derived.RegionTactic
import Derived.BigRegion
set_option linter.unusedVariables false
set_option linter.unusedSimpArgs false
set_option linter.unnecessarySimpa false
namespace Go.Proofs.YtaepdbkfaoiimabDoor
open Go.RowKit

/-- What is wrong with an entry: its number; 0: nothing. -/
def faultE (e : Ent) : Nat := if e.k.toList = [] ∨ (e.g = true ∧ e.v.toList ≠ []) then 3 else if 8 < e.k.size ∨ 16 < e.v.size then 2 else 0
/-- An error by its number. -/
def errV (n : Nat) : Value := if n = 0 then .nilIface else .iface 34 (.int .i64 n)
theorem fault3 {k v : ByteArray} {g : Bool} (h : k.toList = [] ∨ (g = true ∧ v.toList ≠ [])) : faultE ⟨k, v, g⟩ = 3 := if_pos h
theorem fault2 {k v : ByteArray} {g : Bool} (h : ¬(k.toList = [] ∨ (g = true ∧ v.toList ≠ []))) (h2 : 8 < k.size ∨ 16 < v.size) : faultE ⟨k, v, g⟩ = 2 := by
  unfold faultE; rw [if_neg h, if_pos h2]
theorem fault0 {k v : ByteArray} {g : Bool} (h : ¬(k.toList = [] ∨ (g = true ∧ v.toList ≠ []))) (h2 : ¬(8 < k.size ∨ 16 < v.size)) : faultE ⟨k, v, g⟩ = 0 := by
  unfold faultE; rw [if_neg h, if_neg h2]
theorem faultE_le (e : Ent) : faultE e ≤ 3 := by unfold faultE; split <;> (try split) <;> omega

set_option maxHeartbeats 1000000 in
theorem check_any (e : Ent) (w : World) :
    Calls Tryd.prog 8 #[.agg #[.string e.k, .string e.v, .bool e.g]] w fun d w' => d = .returned (errV (faultE e)) ∧ Below w.heap.size w w' := by
  obtain ⟨k, v, g⟩ := e
  go_enter Tryd.func8, Tryd.ntmps8
  go_wp2_with fail
  all_goals
    go_ret
    refine ⟨?_, (Below.refl _ _).alloc (Nat.le_refl _) _⟩
    first
      | (rw [fault3 (by simp_all)]; rfl)
      | (rw [fault2 (by simp_all) (by omega)]; rfl)
      | (rw [fault0 (by simp_all) (by omega)]; rfl)


/-! ### Bytes -/
def gB (g : Bool) : Int := if g then 1 else 0
def entB (e : Ent) : ByteArray := (strOfNums [gB e.g, (e.k.size : Int), (e.v.size : Int)] ++ e.k) ++ e.v
def bytesL (n : Nat) (l : List Ent) : ByteArray := l.foldl (fun s e => s ++ entB e) (strOfNums [(n : Int)])
def ff : List Ent → Nat
  | [] => 0
  | e :: l => if faultE e = 0 then ff l else faultE e
def bytesF (l : List Ent) : Nat := if ff l = 0 then (if 64 < (bytesL l.length l).size then 2 else 0) else ff l
def bytesS (l : List Ent) : ByteArray := if bytesF l = 0 then bytesL l.length l else ByteArray.empty
theorem bytesL_snoc (n : Nat) (l : List Ent) (e : Ent) : bytesL n (l ++ [e]) = bytesL n l ++ entB e := by unfold bytesL; rw [List.foldl_append]; rfl
theorem faultE_zero {e : Ent} (h : faultE e = 0) : e.k.toList ≠ [] ∧ (e.g = true → e.v.toList = []) ∧ e.k.size ≤ 8 ∧ e.v.size ≤ 16 := by
  unfold faultE at h
  split at h
  · omega
  · split at h
    · omega
    · rename_i h1 h2
      refine ⟨fun h => h1 (.inl h), fun hg => ?_, by omega, by omega⟩
      cases hv : e.v.toList with
      | nil => rfl
      | cons a b => exact absurd (.inr ⟨hg, by rw [hv]; simp⟩) h1
theorem entB_size (e : Ent) : (entB e).size = 3 + e.k.size + e.v.size := by
  unfold entB; rw [ByteArray.size_append, ByteArray.size_append, strOfNums_size]; rfl
theorem ff_zero : ∀ {l : List Ent}, ff l = 0 ↔ ∀ e ∈ l, faultE e = 0
  | [] => by simp [ff]
  | e :: l => by
    rw [ff]
    split
    · rename_i h; rw [ff_zero]; simp [h]
    · rename_i h; simp [h]
theorem ff_at {l : List Ent} {k : Nat} {e : Ent} (h1 : ∀ x ∈ l.take k, faultE x = 0) (h2 : l[k]? = some e) (h3 : faultE e ≠ 0) : ff l = faultE e := by
  induction l generalizing k with
  | nil => simp at h2
  | cons x l ih =>
    rw [ff]
    cases k with
    | zero => simp at h2; subst h2; rw [if_neg h3]
    | succ k =>
      rw [if_pos (h1 x (by simp))]
      exact ih (k := k) (fun y hy => h1 y (by simp [hy])) (by simpa using h2)
theorem bytesL_size (n : Nat) (l : List Ent) (h : ∀ e ∈ l, faultE e = 0) : (bytesL n l).size ≤ 1 + 27 * l.length := by
  induction l using snoc_ind with
  | h0 => simp [bytesL, strOfNums_size]
  | h1 l x ih =>
    rw [bytesL_snoc, ByteArray.size_append, entB_size]
    have h1 := ih fun e he => h e (by simp [he])
    have h2 := faultE_zero (h x (by simp))
    simp
    omega

theorem conv1 (w : World) (g : Nat) (x : Int) (hg : g = w.heap.size) : (convert 45 9 (.slice (some ⟨g, 0, none⟩) 1 1)).run Tryd.prog (w.alloc (.cells #[.int .u8 x] 5)) = .ok (.string (strOfNums [x])) (w.alloc (.cells #[.int .u8 x] 5)) := by
  subst hg
  refine run_convert_bytes_arg _ _ _ Tryd.underlying45 Tryd.underlying5 _ _ _ _ [x] rfl (fun i hi => ?_) _ Tryd.underlying9
  obtain rfl : i = 0 := by simp at hi; omega
  have := (Blk.new w 5 #[.int .u8 x]).cell 0
  simp
theorem conv3 (w : World) (g : Nat) (x y z : Int) (hg : g = w.heap.size) : (convert 45 9 (.slice (some ⟨g, 0, none⟩) 3 3)).run Tryd.prog (w.alloc (.cells #[.int .u8 x, .int .u8 y, .int .u8 z] 5)) = .ok (.string (strOfNums [x, y, z])) (w.alloc (.cells #[.int .u8 x, .int .u8 y, .int .u8 z] 5)) := by
  subst hg
  refine run_convert_bytes_arg _ _ _ Tryd.underlying45 Tryd.underlying5 _ _ _ _ [x, y, z] rfl (fun i hi => ?_) _ Tryd.underlying9
  have h := (Blk.new w 5 #[.int .u8 x, .int .u8 y, .int .u8 z]).cell i
  match i, hi with
  | 0, _ => simp
  | 1, _ => simp
  | 2, _ => simp
theorem conv3d (w : World) (g : Nat) (x y z : Int) (hg : g = w.heap.size) : (convert 45 9 (.slice (some ⟨g, 0, none⟩) 3 3)).run Tryd.prog (w.alloc (.cells #[.int .u8 x, .int .u8 y, .int .u8 z] 5)).drew = .ok (.string (strOfNums [x, y, z])) (w.alloc (.cells #[.int .u8 x, .int .u8 y, .int .u8 z] 5)).drew := by
  have h := conv3 w.drew g x y z hg
  exact h
attribute [local go_sem] conv1 conv3 conv3d

end Go.Proofs.YtaepdbkfaoiimabDoor
