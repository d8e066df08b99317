/- Entries are read as they were written, also behind noughts: the plain law. Conditions: those that each law names. -/
import Derived.Test.YtaepdbkfaoiimaaParse
set_option linter.unusedVariables false
set_option linter.unusedSimpArgs false
namespace Go.Proofs.Ytaepdbkfaoiimaa
open Go.RowKit

def entL (e : Ent) : List UInt8 := [UInt8.ofNat (gB e.g).toNat, UInt8.ofNat e.k.size, UInt8.ofNat e.v.size] ++ (e.k.data.toList ++ e.v.data.toList)
theorem data_append_ (a b : ByteArray) : (a ++ b).data.toList = a.data.toList ++ b.data.toList := by
  rw [ByteArray.data_append, Array.toList_append]
theorem entB_data (e : Ent) : (entB e).data.toList = entL e := by
  unfold entB entL
  rw [data_append_, data_append_, strOfNums_data]
  simp
theorem bytesL_data (n : Nat) (l : List Ent) : (bytesL n l).data.toList = UInt8.ofNat n :: l.flatMap entL := by
  induction l using snoc_ind with
  | h0 => simp [bytesL, strOfNums_data]
  | h1 l x ih => rw [bytesL_snoc, data_append_, ih, entB_data]; simp
theorem bt_list {s : ByteArray} {a b : List UInt8} (h : s.data.toList = a ++ b) (j : Nat) : bt s (a.length + j) = (b.getD j 0).toNat := by
  unfold bt
  rw [h, List.getD_eq_getElem?_getD, List.getElem?_append_right (by omega), Nat.add_sub_cancel_left, List.getD_eq_getElem?_getD]
theorem len_data (s : ByteArray) : s.data.toList.length = s.size := Array.length_toList
theorem extract_list (s : ByteArray) (a b : Nat) : (s.extract a b).data.toList = (s.data.toList.drop a).take (b - a) := by
  rw [ByteArray.data_extract, Array.toList_extract, List.extract_eq_take_drop]
theorem ba_eq {a b : ByteArray} (h : a.data.toList = b.data.toList) : a = b := ByteArray.ext (Array.toList_inj.1 h)
theorem entL_len (e : Ent) : (entL e).length = 3 + e.k.size + e.v.size := by simp [entL]; omega
/-- An entry that lies at a place. -/
theorem ent_at {s : ByteArray} {a r : List UInt8} {e : Ent} (h : s.data.toList = a ++ (entL e ++ r)) (hk : e.k.size ≤ 8) (hv : e.v.size ≤ 16) :
    badAt s a.length = false ∧ entAt s a.length = e ∧ bt s (a.length + 1) = e.k.size ∧ bt s (a.length + 2) = e.v.size := by
  have b0 := bt_list h 0
  have b1 := bt_list h 1
  have b2 := bt_list h 2
  have e0 : (entL e ++ r).getD 0 0 = UInt8.ofNat (gB e.g).toNat := rfl
  have e1 : (entL e ++ r).getD 1 0 = UInt8.ofNat e.k.size := rfl
  have e2 : (entL e ++ r).getD 2 0 = UInt8.ofNat e.v.size := rfl
  have f0 : (UInt8.ofNat (gB e.g).toNat).toNat = (gB e.g).toNat := by cases e.g <;> rfl
  have f1 : (UInt8.ofNat e.k.size).toNat = e.k.size := by simp; omega
  have f2 : (UInt8.ofNat e.v.size).toNat = e.v.size := by simp; omega
  rw [e0, f0, Nat.add_zero] at b0
  rw [e1, f1] at b1
  rw [e2, f2] at b2
  have hg : (gB e.g).toNat ≤ 1 := by cases e.g <;> decide
  have hsz : a.length + 3 + e.k.size + e.v.size ≤ s.size := by
    have := congrArg List.length h
    rw [len_data, List.length_append, List.length_append, entL_len] at this
    omega
  refine ⟨?_, ?_, b1, b2⟩
  · simp only [badAt, b0, b1, b2, Bool.or_eq_false_iff, decide_eq_false_iff_not]
    omega
  · have hd : ∀ j, s.data.toList.drop (a.length + j) = (entL e ++ r).drop j := fun j => by
      rw [h, ← List.drop_drop]; simp
    have hkk : s.extract (a.length + 3) (a.length + 3 + bt s (a.length + 1)) = e.k := by
      apply ba_eq
      rw [extract_list, b1, hd 3, show a.length + 3 + e.k.size - (a.length + 3) = e.k.size by omega]
      show ((e.k.data.toList ++ e.v.data.toList) ++ r).take e.k.size = _
      rw [List.append_assoc, List.take_append_of_le_length (by simp), List.take_of_length_le (by simp)]
    have hvv : s.extract (a.length + 3 + bt s (a.length + 1)) (a.length + 3 + bt s (a.length + 1) + bt s (a.length + 2)) = e.v := by
      apply ba_eq
      rw [extract_list, b1, b2, show a.length + 3 + e.k.size + e.v.size - (a.length + 3 + e.k.size) = e.v.size by omega, Nat.add_assoc, hd (3 + e.k.size)]
      have : (entL e ++ r).drop (3 + e.k.size) = e.v.data.toList ++ r := by
        rw [← List.drop_drop]
        show ((e.k.data.toList ++ e.v.data.toList) ++ r).drop e.k.size = _
        rw [List.append_assoc, List.drop_append_of_le_length (by simp), List.drop_of_length_le (by simp)]
        rfl
      rw [this, List.take_append_of_le_length (by simp), List.take_of_length_le (by simp)]
    have hgg : decide (bt s a.length = 1) = e.g := by rw [b0]; cases e.g <;> rfl
    unfold entAt
    rw [hkk, hvv, hgg]
theorem pN_bytes {s : ByteArray} {n : Nat} {l : List Ent} {z : List UInt8} (h : s.data.toList = UInt8.ofNat n :: (l.flatMap entL ++ z)) (hf : ∀ e ∈ l, faultE e = 0) :
    ∀ i, i ≤ l.length → pN s i = some (l.take i, 1 + ((l.take i).flatMap entL).length)
  | 0, _ => by simp [pN]
  | i + 1, hi => by
    rw [pN, pN_bytes h hf i (by omega)]
    obtain ⟨e, he, htk, hdr⟩ := getElem?_of_lt (l := l) (k := i) (by omega)
    have hz := faultE_zero (hf e (List.mem_of_getElem? he))
    have hl : s.data.toList = (UInt8.ofNat n :: (l.take i).flatMap entL) ++ (entL e ++ ((l.drop (i + 1)).flatMap entL ++ z)) := by
      rw [h]
      conv => lhs; rw [← List.take_append_drop i l, hdr]
      simp
    obtain ⟨h1, h2, h3, h4⟩ := ent_at hl hz.2.2.1 hz.2.2.2
    have hlen : (UInt8.ofNat n :: (l.take i).flatMap entL).length = 1 + ((l.take i).flatMap entL).length := by rw [List.length_cons, Nat.add_comm]
    rw [hlen] at h1 h2 h3 h4
    unfold pStep
    dsimp only
    rw [h1, h2, h3, h4, hf e (List.mem_of_getElem? he)]
    simp only [Bool.false_or, ne_eq, not_true_eq_false, decide_false, Bool.false_eq_true, if_false]
    rw [htk]
    simp [entL_len]
    omega
/-- **Entries are read as they were written, also behind noughts.** -/
theorem parse_bytes (l : List Ent) (hf : ∀ e ∈ l, faultE e = 0) (hn : l.length < 256) {s : ByteArray} {k : Nat} (h : s.data.toList = (bytesL l.length l).data.toList ++ List.replicate k 0) : parseR s = some l := by
  rw [bytesL_data] at h
  have h' : s.data.toList = UInt8.ofNat l.length :: (l.flatMap entL ++ List.replicate k 0) := by rw [h]; rfl
  have hs : s.size ≠ 0 := by rw [← len_data, h']; simp
  have hb : bt s 0 = l.length := by
    have := bt_list (a := []) (b := UInt8.ofNat l.length :: (l.flatMap entL ++ List.replicate k 0)) (by rw [h']; rfl) 0
    simp at this
    rw [this]
    omega
  unfold parseR
  rw [if_neg hs, hb, pN_bytes h' hf _ (Nat.le_refl _), List.take_length]
  simp only
  rw [if_pos]
  have : s.data.toList.drop (1 + (l.flatMap entL).length) = List.replicate k 0 := by
    rw [h', Nat.add_comm, List.drop_succ_cons, List.drop_append_of_le_length (by omega), List.drop_of_length_le (by omega)]
    rfl
  rw [this]
  simp
/-- n noughts. -/
def zer (n : Nat) : ByteArray := ⟨(List.replicate n 0).toArray⟩
theorem zer_size (n : Nat) : (zer n).size = n := by simp [zer, ByteArray.size]
theorem zer_zero (s : ByteArray) : s ++ zer 0 = s := by
  apply ba_eq
  rw [data_append_]
  simp [zer]
theorem zer_succ (s : ByteArray) (n : Nat) : (s ++ zer n) ++ ⟨#[0]⟩ = s ++ zer (n + 1) := by
  apply ba_eq
  rw [data_append_, data_append_, data_append_, List.append_assoc]
  congr 1
  simp [zer, List.replicate_succ']
end Go.Proofs.Ytaepdbkfaoiimaa
