/- Changes as a text: the reference's functions compute the plain ones. Conditions: texts of at most a million bytes. -/
import Derived.Test.YtaepdbkfaoiimabDoorParse
import Derived.Test.YtaepdbkfaoiimabDoorBat0
import Derived.RegionTactic
import Derived.BigRegion
set_option linter.unusedVariables false
set_option linter.unusedSimpArgs false
set_option linter.unnecessarySimpa false
namespace Go.Proofs.YtaepdbkfaoiimabDoor
open Go.RowKit
/-! ### plain -/
theorem bt_get {s : ByteArray} {i : Nat} (h : i < s.size) : ∃ c : UInt8, s.data.toList[i]? = some c ∧ bt s i = c.toNat := by
  have hl : i < s.data.toList.length := by rw [Array.length_toList]; exact h
  refine ⟨s.data.toList[i], List.getElem?_eq_getElem hl, ?_⟩
  unfold bt
  rw [List.getD_eq_getElem?_getD, List.getElem?_eq_getElem hl]; rfl
theorem plainW_next {s : ByteArray} {i : Nat} (h : i < s.size) : plainW (s.data.toList.take (i + 1)) = (plainW (s.data.toList.take i) && plainN (bt s i)) := by
  obtain ⟨c, hc, hb⟩ := bt_get h
  rw [List.take_add_one, hc, hb]
  unfold plainW
  rw [List.all_append]
  simp
theorem plainW_bad {s : ByteArray} {i : Nat} (h : i < s.size) (hb : plainN (bt s i) = false) : plainW s.data.toList = false := by
  obtain ⟨c, hc, hb2⟩ := bt_get h
  rw [hb2] at hb
  unfold plainW
  rw [List.all_eq_false]
  exact ⟨c, List.mem_of_getElem? hc, by rw [hb]; simp⟩
theorem plainN_t {x : Nat} (h : (97 ≤ x ∧ x ≤ 122) ∨ (48 ≤ x ∧ x ≤ 57)) : plainN x = true := by
  unfold plainN
  simp; omega
theorem plainN_f {x : Nat} (h : (x < 97 ∨ 122 < x) ∧ (x < 48 ∨ 57 < x)) : plainN x = false := by
  cases e : plainN x
  · rfl
  · unfold plainN at e; simp at e; omega
def splB (s : ByteArray) : List ByteArray := (spl s.data.toList).map fun w => ⟨w.toArray⟩
def accS (l : List Ent) : ByteArray := ⟨(chgs l).toArray⟩
theorem accS_size {l : List Ent} (h : ∀ e ∈ l, wordF e = 0) : (accS l).size ≤ 26 * l.length := by
  have := chgs_len h
  show (chgs l).toArray.size ≤ _
  simpa using this
theorem accS_next (l : List Ent) (y : Ent) : accS (l ++ [y]) = (if l = [] then ByteArray.empty else accS l ++ bsp) ++ chgB y := by
  apply b_eq
  rw [b_app, chgB_data]
  by_cases h : l = []
  · subst h
    rw [if_pos rfl]
    show (chgs [y]).toArray.toList = _
    rw [chgs_one]; rfl
  · rw [if_neg h, b_app]
    show (chgs (l ++ [y])).toArray.toList = (chgs l).toArray.toList ++ [32] ++ _
    rw [chgs_snoc _ _ h]
theorem textS_acc {l : List Ent} (h : textF l = 0) : textS l = accS l := if_pos h
theorem textS_bad {l : List Ent} (h : textF l ≠ 0) : textS l = ByteArray.empty := if_neg h
theorem textF_many {l : List Ent} (h : l.length = 0 ∨ 4 < l.length) : textF l = 2 := if_pos h
theorem textF_in {l : List Ent} (h : ¬(l.length = 0 ∨ 4 < l.length)) : textF l = wf l := if_neg h
theorem wordF_three {e : Ent} (h : faultE e = 0) (h2 : (plainW e.k.data.toList && plainW e.v.data.toList) = false) : wordF e = 3 := by
  unfold wordF; rw [if_pos h, h2]; rfl
theorem wordF_ok {e : Ent} (h : faultE e = 0) (h1 : plainW e.k.data.toList = true) (h2 : plainW e.v.data.toList = true) : wordF e = 0 := by
  unfold wordF; rw [if_pos h, h1, h2]; rfl
theorem wordF_fault {e : Ent} (h : faultE e ≠ 0) : wordF e = faultE e := by
  unfold wordF; rw [if_neg h]
theorem entW_none {x : ByteArray} (h : (61 : UInt8) ∉ x.data.toList) : entW x.data.toList = ⟨x, ByteArray.empty, true⟩ := by
  unfold entW
  rw [cutE_none h]
  rfl
theorem entW_at {x : ByteArray} {k : Nat} (h : (61 : UInt8) ∉ x.data.toList.take k) (hk : x.data.toList[k]? = some 61) : entW x.data.toList = ⟨x.extract 0 k, x.extract (k + 1) x.size, false⟩ := by
  unfold entW
  rw [cutE_at h hk]
  have hs : x.data.toList.length = x.size := Array.length_toList
  congr 1
  · apply b_eq
    rw [b_ext]; simp
  · apply b_eq
    rw [b_ext, List.take_of_length_le (l := x.data.toList.drop (k + 1)) (by rw [List.length_drop, hs]; omega)]
theorem splB_data (s : ByteArray) : (splB s).map (fun x => x.data.toList) = spl s.data.toList := by
  unfold splB
  rw [List.map_map]
  exact (List.map_congr_left fun w _ => rfl).trans (List.map_id _)
theorem entsOf_splB (s : ByteArray) : entsOf s = (splB s).map fun x => entW x.data.toList := by
  unfold entsOf
  rw [← splB_data, List.map_map]; rfl
theorem spl_len : ∀ l : List UInt8, (spl l).length ≤ l.length + 1
  | [] => by simp [spl]
  | b :: l => by
    have ih := spl_len l
    rw [spl]
    split
    · simp; omega
    · split
      · rename_i h; exact absurd h (spl_ne l)
      · rename_i h; rw [h] at ih; simp at ih ⊢; omega
theorem splB_len (s : ByteArray) : (splB s).length ≤ s.size + 1 := by
  unfold splB
  have := spl_len s.data.toList
  have hs : s.data.toList.length = s.size := Array.length_toList
  rw [List.length_map]; omega
theorem spl_sub : ∀ (l : List UInt8) (x : List UInt8), x ∈ spl l → x.length ≤ l.length
  | [], x, h => by simp [spl] at h; subst h; simp
  | b :: l, x, h => by
    rw [spl] at h
    split at h
    · rcases List.mem_cons.1 h with rfl | h
      · simp
      · have := spl_sub l x h; simp; omega
    · split at h
      · rename_i e; exact absurd e (spl_ne l)
      · rename_i y r e
        rcases List.mem_cons.1 h with rfl | h
        · have := spl_sub l y (by rw [e]; simp); simp; omega
        · have := spl_sub l x (by rw [e]; simp [h]); simp; omega
theorem splB_sub {s x : ByteArray} (h : x ∈ splB s) : x.size ≤ s.size := by
  unfold splB at h
  obtain ⟨y, hy, rfl⟩ := List.mem_map.1 h
  have := spl_sub _ _ hy
  have hs : s.data.toList.length = s.size := Array.length_toList
  show y.toArray.size ≤ _
  simp; omega
theorem cutE_len : ∀ l : List UInt8, (cutE l).1.length ≤ l.length ∧ (cutE l).2.1.length ≤ l.length
  | [] => by simp [cutE]
  | b :: l => by
    have ih := cutE_len l
    rw [cutE]
    split
    · simp
    · simp; omega
theorem entW_size (x : ByteArray) : (entW x.data.toList).k.size ≤ x.size ∧ (entW x.data.toList).v.size ≤ x.size := by
  have := cutE_len x.data.toList
  have hs : x.data.toList.length = x.size := Array.length_toList
  unfold entW
  constructor
  · show (cutE x.data.toList).1.toArray.size ≤ _
    simp; omega
  · show (cutE x.data.toList).2.1.toArray.size ≤ _
    simp; omega
theorem entsOf_ok {s : ByteArray} (hs : s.size ≤ 1000000) : ∀ e ∈ entsOf s, EntOk e := by
  intro e he
  rw [entsOf_splB] at he
  obtain ⟨x, hx, rfl⟩ := List.mem_map.1 he
  have h1 := splB_sub hx
  have h2 := entW_size x
  exact ⟨by omega, by omega⟩
attribute [local go_sem] bt_idx bt_wrap
theorem info_strS : (Tryd.prog.info? 9).map (fun i => (i.zero, i.size, i.bytes)) = some (some (.string ByteArray.empty), 1, 16) := by kernel_rfl
theorem rd_lit1S (B : Nat) (w : World) (g : Nat) (hg : w.heap.size = g) (s : ByteArray) : Rd B 9 1 (w.alloc (.cells #[.string s] 9)) (.slice (some ⟨g, 0, none⟩) 1 1) 1 [.string s] := by
  subst hg
  have hb := Blk.new w 9 #[.string s]
  refine ⟨rfl, _, _, rfl, Nat.le_refl _, by omega, fun _ => ⟨_, _, rfl, .inr ⟨_, _, hb⟩, hb.lt, fun j u hu => ?_⟩⟩
  rw [hb.cell]
  match j, hu with
  | 0, hu => exact hu
end Go.Proofs.YtaepdbkfaoiimabDoor
