/- Texts: apart at blanks, cut at a sign, words. No program in sight; conditions: none. -/
import Derived.Lib.SplitLaws
import Derived.Lib.CutLaws
import Derived.Lib.Join
import Derived.Shelf.GgClosure.StringsIndexFunc
set_option linter.unusedVariables false
set_option linter.unusedSimpArgs false
namespace Go.Proofs.YtaepdbkfaoiimabDoor
/-! ### splitting at blanks, and putting together -/
def spl : List UInt8 → List (List UInt8)
  | [] => [[]]
  | b :: l => if b = 32 then [] :: spl l else match spl l with
    | [] => [[b]]
    | x :: r => (b :: x) :: r
theorem spl_ne (l : List UInt8) : spl l ≠ [] := by
  induction l with
  | nil => simp [spl]
  | cons b l ih =>
    unfold spl
    split
    · simp
    · split <;> simp
theorem index_cons (b c : UInt8) (l : List UInt8) : Lib.index (b :: l) [c] = if b = c then 0 else if Lib.index l [c] = -1 then -1 else Lib.index l [c] + 1 := by
  rw [Lib.index]
  simp only [List.isPrefixOf, Bool.and_true, beq_iff_eq]
  by_cases h : b = c
  · rw [if_pos h, if_pos h.symm]
  · rw [if_neg h, if_neg (fun e => h e.symm)]
theorem splitK_spl (l : List UInt8) : Lib.splitK [32] 0 (Lib.count l [32]) l = spl l := by
  induction l with
  | nil => rfl
  | cons b l ih =>
    by_cases h : b = 32
    · subst h
      rw [Lib.count_cons_eq, Nat.add_comm, Lib.splitK, index_cons, if_pos rfl]
      simp only [spl, if_true]
      show List.take 0 _ :: Lib.splitK [32] 0 _ (List.drop 1 (32 :: l)) = _
      rw [List.take_zero, List.drop_one, List.tail_cons, ih]
    · rw [Lib.count_cons_ne _ _ _ h]
      rw [spl, if_neg h]
      cases hc : Lib.count l [32] with
      | zero =>
        rw [hc] at ih
        simp only [Lib.splitK] at ih ⊢
        rw [← ih]
      | succ k =>
        rw [hc] at ih
        rw [Lib.splitK] at ih ⊢
        by_cases hm : Lib.index l [32] = -1
        · rw [if_pos (by rw [beq_iff_eq]; exact hm)] at ih
          rw [if_pos (by rw [beq_iff_eq, index_cons, if_neg h, if_pos hm])]
          rw [← ih]
        · rw [if_neg (by rw [beq_iff_eq]; exact hm)] at ih
          rw [if_neg (by rw [beq_iff_eq, index_cons, if_neg h, if_neg hm]; have := Lib.index_ge l [32]; omega)]
          rw [index_cons, if_neg h, if_neg hm, ← ih]
          have := Lib.index_ge l [32]
          obtain ⟨i, hi⟩ := Int.eq_ofNat_of_zero_le (show 0 ≤ Lib.index l [32] by omega)
          rw [hi]
          have e : ((i : Int) + 1).toNat = i + 1 := by omega
          rw [e, Int.toNat_natCast]
          simp only [List.length_singleton, Nat.add_zero, List.take_succ_cons]
          rfl
theorem split_spl (l : List UInt8) : Lib.split l [32] = spl l := splitK_spl l
/-- What was taken apart is put together. -/
theorem join_spl (l : List UInt8) : Lib.join (spl l) [32] = l := by
  induction l with
  | nil => rfl
  | cons b l ih =>
    have hne := spl_ne l
    by_cases h : b = 32
    · subst h
      rw [spl, if_pos rfl]
      cases hs : spl l with
      | nil => exact absurd hs hne
      | cons x r =>
        rw [hs, Lib.join_cons] at ih
        rw [Lib.join_cons, Lib.joinTail, List.map_cons, List.flatten_cons]
        rw [Lib.joinTail] at ih
        simp only [List.nil_append, List.cons_append, List.append_assoc]
        simp only [List.cons_append, List.nil_append] at ih
        rw [ih]
    · rw [spl, if_neg h]
      cases hs : spl l with
      | nil => exact absurd hs hne
      | cons x r =>
        rw [hs, Lib.join_cons] at ih
        simp only
        rw [Lib.join_cons, List.cons_append, ih]
theorem spl_one : ∀ {x : List UInt8}, (32 : UInt8) ∉ x → spl x = [x]
  | [], _ => rfl
  | b :: x, hx => by rw [spl, if_neg (fun e => hx (by simp [e])), spl_one (fun e => hx (List.mem_cons_of_mem _ e))]
theorem spl_two : ∀ {x : List UInt8}, (32 : UInt8) ∉ x → ∀ (t : List UInt8) {r : List (List UInt8)}, spl t = r → spl (x ++ ([32] ++ t)) = x :: r
  | [], _, t, r, h => by
    show spl (32 :: t) = _
    rw [spl, if_pos rfl, h]
  | b :: x, hx, t, r, h => by
    have := spl_two (x := x) (fun e => hx (List.mem_cons_of_mem _ e)) t h
    rw [List.cons_append, spl, if_neg (fun e => hx (by simp [e])), this]
/-- Words without blanks are found again. -/
theorem spl_join : ∀ (xs : List (List UInt8)), xs ≠ [] → (∀ x ∈ xs, (32 : UInt8) ∉ x) → spl (Lib.join xs [32]) = xs
  | [], h, _ => absurd rfl h
  | [x], _, h => by
    rw [Lib.join_one]
    exact spl_one (h x (by simp))
  | x :: y :: r, _, h => by
    have ih := spl_join (y :: r) (by simp) (fun z hz => h z (List.mem_cons_of_mem _ hz))
    rw [Lib.join_cons, Lib.joinTail, List.map_cons, List.flatten_cons, List.append_assoc]
    rw [Lib.join_cons, Lib.joinTail] at ih
    exact spl_two (h x (by simp)) _ ih
/-! ### cutting at the first '=' -/
def cutE : List UInt8 → List UInt8 × List UInt8 × Bool
  | [] => ([], [], false)
  | b :: l => if b = 61 then ([], l, true) else (b :: (cutE l).1, (cutE l).2.1, (cutE l).2.2)
theorem cut_cutE (l : List UInt8) : Lib.cut l [61] = cutE l := by
  induction l with
  | nil => rfl
  | cons b l ih =>
    rw [cutE]
    unfold Lib.cut at ih ⊢
    rw [index_cons]
    by_cases h : b = 61
    · rw [if_pos h, if_pos h, if_pos (by decide)]
      simp
    · rw [if_neg h, if_neg h]
      have hg := Lib.index_ge l [61]
      by_cases hm : Lib.index l [61] = -1
      · rw [if_pos hm, if_neg (by decide)]
        rw [hm, if_neg (by decide)] at ih
        rw [← ih]
      · rw [if_neg hm, if_pos (by omega)]
        rw [if_pos (by omega)] at ih
        obtain ⟨i, hi⟩ := Int.eq_ofNat_of_zero_le (show 0 ≤ Lib.index l [61] by omega)
        rw [hi] at ih ⊢
        have e : ((i : Int) + 1).toNat = i + 1 := by omega
        rw [e]
        rw [Int.toNat_natCast] at ih
        rw [← ih]
        simp [Nat.add_right_comm]
/-- A change as a text. -/
def chgT (k v : List UInt8) (g : Bool) : List UInt8 := if g then k else k ++ 61 :: v
theorem cutE_back (l : List UInt8) : chgT (cutE l).1 (cutE l).2.1 (!(cutE l).2.2) = l := by
  induction l with
  | nil => rfl
  | cons b l ih =>
    rw [cutE]
    split
    · rename_i h; subst h; rfl
    · unfold chgT at ih ⊢
      cases hs : (cutE l).2.2 <;> rw [hs] at ih <;> simp at ih ⊢ <;> exact ih
theorem cutE_gone (l : List UInt8) (h : (cutE l).2.2 = false) : (cutE l).2.1 = [] := by
  induction l with
  | nil => rfl
  | cons b l ih =>
    rw [cutE] at h ⊢
    split at h
    · cases h
    · rename_i hb
      rw [if_neg hb]
      exact ih h
theorem cutE_chg {k v : List UInt8} {g : Bool} (hk : (61 : UInt8) ∉ k) (hg : g = true → v = []) : cutE (chgT k v g) = (k, v, !g) := by
  unfold chgT
  cases g
  · simp only [Bool.false_eq_true, if_false, Bool.not_false]
    induction k with
    | nil => rfl
    | cons b k ih =>
      have := ih (fun e => hk (List.mem_cons_of_mem _ e))
      rw [List.cons_append, cutE, if_neg (fun e => hk (by simp [e])), this]
  · rw [if_pos rfl, hg rfl]
    clear hg
    induction k with
    | nil => rfl
    | cons b k ih =>
      have := ih (fun e => hk (List.mem_cons_of_mem _ e))
      rw [cutE, if_neg (fun e => hk (by simp [e])), this]
/-! ### words -/
def plainN (x : Nat) : Bool := (decide (97 ≤ x) && decide (x ≤ 122)) || (decide (48 ≤ x) && decide (x ≤ 57))
def plainW (l : List UInt8) : Bool := l.all fun b => plainN b.toNat
theorem plainN_small {x : Nat} (h : plainN x = true) : x < 128 := by
  unfold plainN at h
  simp at h
  omega
theorem plainW_not {l : List UInt8} (h : plainW l = true) {b : UInt8} (hb : plainN b.toNat = false) : b ∉ l := by
  intro hm
  have := List.all_eq_true.1 h b hm
  rw [hb] at this
  cases this
theorem decode_low (s : ByteArray) (i : Nat) (h : (s.get! i).toNat < 128) : Utf8.decode s i = ((s.get! i).toNat, 1) := by
  unfold Utf8.decode
  simp only [Nat.add_zero]
  rw [if_pos (by omega)]
theorem decode_high (s : ByteArray) (i : Nat) (h : ¬ (s.get! i).toNat < 128) : 128 ≤ (Utf8.decode s i).1 := by
  unfold Utf8.decode
  simp only [Nat.add_zero]
  rw [if_neg (by omega)]
  have he : 128 ≤ Utf8.runeError := by decide
  repeat' split
  all_goals first | exact he | (rename_i h1; simp only [ge_iff_le, Bool.and_eq_true, decide_eq_true_eq] at h1; first | omega | (simp only; omega))
theorem tl_len (s : ByteArray) : s.data.toList.length = s.size := Array.length_toList
theorem get_bang {s : ByteArray} {i : Nat} (h : i < s.size) : s.get! i = s.data.toList[i]'(by rw [tl_len]; exact h) := by
  cases s with
  | mk d =>
    simp only [ByteArray.get!]
    have h' : i < d.size := h
    rw [getElem!_pos d i h']
    simp
theorem idx_plain (s : ByteArray) : ∀ (f pos : Nat), s.size ≤ pos + f → decide (0 ≤ Lib.idxFuncFrom (fun x => !plainN x) true s f pos) = !plainW (s.data.toList.drop pos)
  | 0, pos, h => by
    have hl : s.data.toList.length ≤ pos := by rw [tl_len]; omega
    rw [List.drop_eq_nil_of_le hl]
    rfl
  | f + 1, pos, h => by
    unfold Lib.idxFuncFrom
    by_cases hp : pos < s.size
    · rw [if_pos hp]
      have hl : pos < s.data.toList.length := by rw [tl_len]; exact hp
      rw [List.drop_eq_getElem_cons hl]
      have hg := get_bang hp
      have hW : plainW (s.data.toList[pos] :: s.data.toList.drop (pos + 1)) = (plainN (s.get! pos).toNat && plainW (s.data.toList.drop (pos + 1))) := by
        rw [hg]; rfl
      rw [hW]
      by_cases hlow : (s.get! pos).toNat < 128
      · rw [decode_low s pos hlow]
        cases hn : plainN (s.get! pos).toNat
        · simp
        · simp only [Bool.not_true, Bool.false_eq_true, if_false, Bool.true_and]
          exact idx_plain s f (pos + 1) (by omega)
      · have h1 := decode_high s pos hlow
        have h2 : plainN (Utf8.decode s pos).1 = false := by
          cases e : plainN (Utf8.decode s pos).1
          · rfl
          · have := plainN_small e; omega
        have h3 : plainN (s.get! pos).toNat = false := by
          cases e : plainN (s.get! pos).toNat
          · rfl
          · have := plainN_small e; omega
        rw [h2, h3]
        simp
    · rw [if_neg hp, List.drop_eq_nil_of_le (by rw [tl_len]; omega)]
      rfl
theorem contains_plain (s : ByteArray) : decide (0 ≤ Lib.idxFunc (fun x => !plainN x) true s) = !plainW s.data.toList := idx_plain s s.size 0 (by omega)
end Go.Proofs.YtaepdbkfaoiimabDoor
