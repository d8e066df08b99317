/- Several texts of this proof, one behind the other: walks and plain laws that the statement rests on. Conditions: none but those that each lemma names. -/
import Derived.Lib.SplitLaws
import Derived.Lib.CutLaws
import Derived.Lib.Join
import Derived.Shelf.GgClosure.StringsIndexFunc
import Derived.Test.YtaepdbkfaoiimabGreatDoorGa
import Derived.WideShapes
import Derived.RegionTactic
import Derived.BigRegion
import Derived.Test.YtaepdbkfaoiimabGreatDoorShelf
/- Texts: apart at blanks, cut at a sign, words. No program in sight; conditions: none. -/
set_option linter.unusedVariables false
set_option linter.unusedSimpArgs false
namespace Go.Proofs.YtaepdbkfaoiimabGreatDoor
/-! ### splitting at blanks, and putting together -/
def spl : List UInt8 → List (List UInt8)
  | [] => [[]]
  | b :: l => if b = 32 then [] :: spl l else match spl l with
    | [] => [[b]]
    | x :: r => (b :: x) :: r
theorem spl_ne (l : List UInt8) : spl l ≠ [] := by
  induction l with
  | nil => simp [spl]
  | cons b l ih =>
    unfold spl
    split
    · simp
    · split <;> simp
theorem index_cons (b c : UInt8) (l : List UInt8) : Lib.index (b :: l) [c] = if b = c then 0 else if Lib.index l [c] = -1 then -1 else Lib.index l [c] + 1 := by
  rw [Lib.index]
  simp only [List.isPrefixOf, Bool.and_true, beq_iff_eq]
  by_cases h : b = c
  · rw [if_pos h, if_pos h.symm]
  · rw [if_neg h, if_neg (fun e => h e.symm)]
theorem splitK_spl (l : List UInt8) : Lib.splitK [32] 0 (Lib.count l [32]) l = spl l := by
  induction l with
  | nil => rfl
  | cons b l ih =>
    by_cases h : b = 32
    · subst h
      rw [Lib.count_cons_eq, Nat.add_comm, Lib.splitK, index_cons, if_pos rfl]
      simp only [spl, if_true]
      show List.take 0 _ :: Lib.splitK [32] 0 _ (List.drop 1 (32 :: l)) = _
      rw [List.take_zero, List.drop_one, List.tail_cons, ih]
    · rw [Lib.count_cons_ne _ _ _ h]
      rw [spl, if_neg h]
      cases hc : Lib.count l [32] with
      | zero =>
        rw [hc] at ih
        simp only [Lib.splitK] at ih ⊢
        rw [← ih]
      | succ k =>
        rw [hc] at ih
        rw [Lib.splitK] at ih ⊢
        by_cases hm : Lib.index l [32] = -1
        · rw [if_pos (by rw [beq_iff_eq]; exact hm)] at ih
          rw [if_pos (by rw [beq_iff_eq, index_cons, if_neg h, if_pos hm])]
          rw [← ih]
        · rw [if_neg (by rw [beq_iff_eq]; exact hm)] at ih
          rw [if_neg (by rw [beq_iff_eq, index_cons, if_neg h, if_neg hm]; have := Lib.index_ge l [32]; omega)]
          rw [index_cons, if_neg h, if_neg hm, ← ih]
          have := Lib.index_ge l [32]
          obtain ⟨i, hi⟩ := Int.eq_ofNat_of_zero_le (show 0 ≤ Lib.index l [32] by omega)
          rw [hi]
          have e : ((i : Int) + 1).toNat = i + 1 := by omega
          rw [e, Int.toNat_natCast]
          simp only [List.length_singleton, Nat.add_zero, List.take_succ_cons]
          rfl
theorem split_spl (l : List UInt8) : Lib.split l [32] = spl l := splitK_spl l
/-- What was taken apart is put together. -/
theorem join_spl (l : List UInt8) : Lib.join (spl l) [32] = l := by
  induction l with
  | nil => rfl
  | cons b l ih =>
    have hne := spl_ne l
    by_cases h : b = 32
    · subst h
      rw [spl, if_pos rfl]
      cases hs : spl l with
      | nil => exact absurd hs hne
      | cons x r =>
        rw [hs, Lib.join_cons] at ih
        rw [Lib.join_cons, Lib.joinTail, List.map_cons, List.flatten_cons]
        rw [Lib.joinTail] at ih
        simp only [List.nil_append, List.cons_append, List.append_assoc]
        simp only [List.cons_append, List.nil_append] at ih
        rw [ih]
    · rw [spl, if_neg h]
      cases hs : spl l with
      | nil => exact absurd hs hne
      | cons x r =>
        rw [hs, Lib.join_cons] at ih
        simp only
        rw [Lib.join_cons, List.cons_append, ih]
theorem spl_one : ∀ {x : List UInt8}, (32 : UInt8) ∉ x → spl x = [x]
  | [], _ => rfl
  | b :: x, hx => by rw [spl, if_neg (fun e => hx (by simp [e])), spl_one (fun e => hx (List.mem_cons_of_mem _ e))]
theorem spl_two : ∀ {x : List UInt8}, (32 : UInt8) ∉ x → ∀ (t : List UInt8) {r : List (List UInt8)}, spl t = r → spl (x ++ ([32] ++ t)) = x :: r
  | [], _, t, r, h => by
    show spl (32 :: t) = _
    rw [spl, if_pos rfl, h]
  | b :: x, hx, t, r, h => by
    have := spl_two (x := x) (fun e => hx (List.mem_cons_of_mem _ e)) t h
    rw [List.cons_append, spl, if_neg (fun e => hx (by simp [e])), this]
/-- Words without blanks are found again. -/
theorem spl_join : ∀ (xs : List (List UInt8)), xs ≠ [] → (∀ x ∈ xs, (32 : UInt8) ∉ x) → spl (Lib.join xs [32]) = xs
  | [], h, _ => absurd rfl h
  | [x], _, h => by
    rw [Lib.join_one]
    exact spl_one (h x (by simp))
  | x :: y :: r, _, h => by
    have ih := spl_join (y :: r) (by simp) (fun z hz => h z (List.mem_cons_of_mem _ hz))
    rw [Lib.join_cons, Lib.joinTail, List.map_cons, List.flatten_cons, List.append_assoc]
    rw [Lib.join_cons, Lib.joinTail] at ih
    exact spl_two (h x (by simp)) _ ih
/-! ### cutting at the first '=' -/
def cutE : List UInt8 → List UInt8 × List UInt8 × Bool
  | [] => ([], [], false)
  | b :: l => if b = 61 then ([], l, true) else (b :: (cutE l).1, (cutE l).2.1, (cutE l).2.2)
theorem cut_cutE (l : List UInt8) : Lib.cut l [61] = cutE l := by
  induction l with
  | nil => rfl
  | cons b l ih =>
    rw [cutE]
    unfold Lib.cut at ih ⊢
    rw [index_cons]
    by_cases h : b = 61
    · rw [if_pos h, if_pos h, if_pos (by decide)]
      simp
    · rw [if_neg h, if_neg h]
      have hg := Lib.index_ge l [61]
      by_cases hm : Lib.index l [61] = -1
      · rw [if_pos hm, if_neg (by decide)]
        rw [hm, if_neg (by decide)] at ih
        rw [← ih]
      · rw [if_neg hm, if_pos (by omega)]
        rw [if_pos (by omega)] at ih
        obtain ⟨i, hi⟩ := Int.eq_ofNat_of_zero_le (show 0 ≤ Lib.index l [61] by omega)
        rw [hi] at ih ⊢
        have e : ((i : Int) + 1).toNat = i + 1 := by omega
        rw [e]
        rw [Int.toNat_natCast] at ih
        rw [← ih]
        simp [Nat.add_right_comm]
/-- A change as a text. -/
def chgT (k v : List UInt8) (g : Bool) : List UInt8 := if g then k else k ++ 61 :: v
theorem cutE_back (l : List UInt8) : chgT (cutE l).1 (cutE l).2.1 (!(cutE l).2.2) = l := by
  induction l with
  | nil => rfl
  | cons b l ih =>
    rw [cutE]
    split
    · rename_i h; subst h; rfl
    · unfold chgT at ih ⊢
      cases hs : (cutE l).2.2 <;> rw [hs] at ih <;> simp at ih ⊢ <;> exact ih
theorem cutE_gone (l : List UInt8) (h : (cutE l).2.2 = false) : (cutE l).2.1 = [] := by
  induction l with
  | nil => rfl
  | cons b l ih =>
    rw [cutE] at h ⊢
    split at h
    · cases h
    · rename_i hb
      rw [if_neg hb]
      exact ih h
theorem cutE_chg {k v : List UInt8} {g : Bool} (hk : (61 : UInt8) ∉ k) (hg : g = true → v = []) : cutE (chgT k v g) = (k, v, !g) := by
  unfold chgT
  cases g
  · simp only [Bool.false_eq_true, if_false, Bool.not_false]
    induction k with
    | nil => rfl
    | cons b k ih =>
      have := ih (fun e => hk (List.mem_cons_of_mem _ e))
      rw [List.cons_append, cutE, if_neg (fun e => hk (by simp [e])), this]
  · rw [if_pos rfl, hg rfl]
    clear hg
    induction k with
    | nil => rfl
    | cons b k ih =>
      have := ih (fun e => hk (List.mem_cons_of_mem _ e))
      rw [cutE, if_neg (fun e => hk (by simp [e])), this]
/-! ### words -/
def plainN (x : Nat) : Bool := (decide (97 ≤ x) && decide (x ≤ 122)) || (decide (48 ≤ x) && decide (x ≤ 57))
def plainW (l : List UInt8) : Bool := l.all fun b => plainN b.toNat
theorem plainN_small {x : Nat} (h : plainN x = true) : x < 128 := by
  unfold plainN at h
  simp at h
  omega
theorem plainW_not {l : List UInt8} (h : plainW l = true) {b : UInt8} (hb : plainN b.toNat = false) : b ∉ l := by
  intro hm
  have := List.all_eq_true.1 h b hm
  rw [hb] at this
  cases this
theorem decode_low (s : ByteArray) (i : Nat) (h : (s.get! i).toNat < 128) : Utf8.decode s i = ((s.get! i).toNat, 1) := by
  unfold Utf8.decode
  simp only [Nat.add_zero]
  rw [if_pos (by omega)]
theorem decode_high (s : ByteArray) (i : Nat) (h : ¬ (s.get! i).toNat < 128) : 128 ≤ (Utf8.decode s i).1 := by
  unfold Utf8.decode
  simp only [Nat.add_zero]
  rw [if_neg (by omega)]
  have he : 128 ≤ Utf8.runeError := by decide
  repeat' split
  all_goals first | exact he | (rename_i h1; simp only [ge_iff_le, Bool.and_eq_true, decide_eq_true_eq] at h1; first | omega | (simp only; omega))
theorem tl_len (s : ByteArray) : s.data.toList.length = s.size := Array.length_toList
theorem get_bang {s : ByteArray} {i : Nat} (h : i < s.size) : s.get! i = s.data.toList[i]'(by rw [tl_len]; exact h) := by
  cases s with
  | mk d =>
    simp only [ByteArray.get!]
    have h' : i < d.size := h
    rw [getElem!_pos d i h']
    simp
theorem idx_plain (s : ByteArray) : ∀ (f pos : Nat), s.size ≤ pos + f → decide (0 ≤ Lib.idxFuncFrom (fun x => !plainN x) true s f pos) = !plainW (s.data.toList.drop pos)
  | 0, pos, h => by
    have hl : s.data.toList.length ≤ pos := by rw [tl_len]; omega
    rw [List.drop_eq_nil_of_le hl]
    rfl
  | f + 1, pos, h => by
    unfold Lib.idxFuncFrom
    by_cases hp : pos < s.size
    · rw [if_pos hp]
      have hl : pos < s.data.toList.length := by rw [tl_len]; exact hp
      rw [List.drop_eq_getElem_cons hl]
      have hg := get_bang hp
      have hW : plainW (s.data.toList[pos] :: s.data.toList.drop (pos + 1)) = (plainN (s.get! pos).toNat && plainW (s.data.toList.drop (pos + 1))) := by
        rw [hg]; rfl
      rw [hW]
      by_cases hlow : (s.get! pos).toNat < 128
      · rw [decode_low s pos hlow]
        cases hn : plainN (s.get! pos).toNat
        · simp
        · simp only [Bool.not_true, Bool.false_eq_true, if_false, Bool.true_and]
          exact idx_plain s f (pos + 1) (by omega)
      · have h1 := decode_high s pos hlow
        have h2 : plainN (Utf8.decode s pos).1 = false := by
          cases e : plainN (Utf8.decode s pos).1
          · rfl
          · have := plainN_small e; omega
        have h3 : plainN (s.get! pos).toNat = false := by
          cases e : plainN (s.get! pos).toNat
          · rfl
          · have := plainN_small e; omega
        rw [h2, h3]
        simp
    · rw [if_neg hp, List.drop_eq_nil_of_le (by rw [tl_len]; omega)]
      rfl
theorem contains_plain (s : ByteArray) : decide (0 ≤ Lib.idxFunc (fun x => !plainN x) true s) = !plainW s.data.toList := idx_plain s s.size 0 (by omega)
end Go.Proofs.YtaepdbkfaoiimabGreatDoor
/- Changes as a text: what its functions compute, in plain words. No program in sight; conditions: none. -/
set_option linter.unusedVariables false
set_option linter.unusedSimpArgs false
namespace Go.Proofs.YtaepdbkfaoiimabGreatDoor
theorem b_toList (s : ByteArray) : s.toList = s.data.toList := ByteArray.toList_eq s
theorem b_eq {a b : ByteArray} (h : a.data.toList = b.data.toList) : a = b := ByteArray.ext (Array.toList_inj.1 h)
theorem b_app (a b : ByteArray) : (a ++ b).data.toList = a.data.toList ++ b.data.toList := by
  rw [ByteArray.data_append, Array.toList_append]
theorem b_ext (s : ByteArray) (a b : Nat) : (s.extract a b).data.toList = (s.data.toList.drop a).take (b - a) := by
  rw [ByteArray.data_extract, Array.toList_extract]
def bq : ByteArray := ⟨#[61]⟩
def bsp : ByteArray := ⟨#[32]⟩
/-! ### a change as a text; what is wrong with changes -/
def wordF (e : Ent) : Nat := if faultE e = 0 then (if plainW e.k.data.toList && plainW e.v.data.toList then 0 else 3) else faultE e
def wf : List Ent → Nat
  | [] => 0
  | e :: l => if wordF e = 0 then wf l else wordF e
def textF (l : List Ent) : Nat := if l.length = 0 ∨ 4 < l.length then 2 else wf l
def chg (e : Ent) : List UInt8 := chgT e.k.data.toList e.v.data.toList e.g
def chgB (e : Ent) : ByteArray := if e.g then e.k else e.k ++ (bq ++ e.v)
theorem chgB_data (e : Ent) : (chgB e).data.toList = chg e := by
  unfold chgB chg chgT
  split
  · rfl
  · rw [b_app, b_app]; rfl
def chgs (l : List Ent) : List UInt8 := Lib.join (l.map chg) [32]
def textS (l : List Ent) : ByteArray := if textF l = 0 then ⟨(chgs l).toArray⟩ else ByteArray.empty
theorem wf_zero : ∀ {l : List Ent}, wf l = 0 ↔ ∀ e ∈ l, wordF e = 0
  | [] => by simp [wf]
  | e :: l => by
    rw [wf]
    split
    · rename_i h; rw [wf_zero]; simp [h]
    · rename_i h; simp [h]
theorem wf_at {l : List Ent} {k : Nat} {e : Ent} (h1 : ∀ x ∈ l.take k, wordF x = 0) (h2 : l[k]? = some e) (h3 : wordF e ≠ 0) : wf l = wordF e := by
  induction l generalizing k with
  | nil => simp at h2
  | cons x l ih =>
    rw [wf]
    cases k with
    | zero => simp at h2; subst h2; rw [if_neg h3]
    | succ k =>
      rw [if_pos (h1 x (by simp))]
      exact ih (k := k) (fun y hy => h1 y (by simp [hy])) (by simpa using h2)
theorem wordF_zero {e : Ent} (h : wordF e = 0) : faultE e = 0 ∧ plainW e.k.data.toList = true ∧ plainW e.v.data.toList = true := by
  unfold wordF at h
  split at h
  · rename_i h0
    split at h
    · rename_i h1
      simp only [Bool.and_eq_true] at h1
      exact ⟨h0, h1.1, h1.2⟩
    · omega
  · rename_i h0; exact absurd h h0
theorem join_snoc (xs : List (List UInt8)) (x sep : List UInt8) (h : xs ≠ []) : Lib.join (xs ++ [x]) sep = Lib.join xs sep ++ sep ++ x := by
  cases xs with
  | nil => exact absurd rfl h
  | cons y r =>
    rw [List.cons_append, Lib.join_cons, Lib.join_cons, Lib.joinTail, Lib.joinTail]
    simp [List.append_assoc]
theorem chgs_snoc (l : List Ent) (e : Ent) (h : l ≠ []) : chgs (l ++ [e]) = chgs l ++ [32] ++ chg e := by
  unfold chgs
  rw [List.map_append, List.map_cons, List.map_nil, join_snoc _ _ _ (by simpa using h)]
theorem chgs_one (e : Ent) : chgs [e] = chg e := Lib.join_one _ _
theorem chg_len {e : Ent} (h : wordF e = 0) : (chg e).length ≤ 25 := by
  have h1 := faultE_zero (wordF_zero h).1
  have h2 := h1.2.2
  have hk : e.k.data.toList.length = e.k.size := Array.length_toList
  have hv : e.v.data.toList.length = e.v.size := Array.length_toList
  unfold chg chgT
  split
  · omega
  · simp only [List.length_append, List.length_cons]; omega
theorem chgs_len {l : List Ent} (h : ∀ e ∈ l, wordF e = 0) : (chgs l).length ≤ 26 * l.length := by
  induction l using snoc_ind with
  | h0 => exact Nat.le_refl _
  | h1 l x ih =>
    have hx := chg_len (h x (by simp))
    have h1 := ih fun e he => h e (by simp [he])
    by_cases hl : l = []
    · subst hl
      rw [List.nil_append, chgs_one]
      simp; omega
    · rw [chgs_snoc _ _ hl]
      simp only [List.length_append, List.length_cons, List.length_nil]
      omega
/-! ### a text as changes -/
def entW (w : List UInt8) : Ent := ⟨⟨(cutE w).1.toArray⟩, ⟨(cutE w).2.1.toArray⟩, !(cutE w).2.2⟩
def entsOf (s : ByteArray) : List Ent := (spl s.data.toList).map entW
def ofF (s : ByteArray) : Nat := if textF (entsOf s) = 0 then 0 else 4
def ofL (s : ByteArray) : List Ent := if textF (entsOf s) = 0 then entsOf s else []
theorem chg_entW (w : List UInt8) : chg (entW w) = w := cutE_back w
theorem entsOf_ne (s : ByteArray) : entsOf s ≠ [] := by
  unfold entsOf
  intro h
  exact spl_ne _ (List.map_eq_nil_iff.1 h)
/-- What was taken apart is the text again. -/
theorem chgs_entsOf (s : ByteArray) : (⟨(chgs (entsOf s)).toArray⟩ : ByteArray) = s := by
  apply b_eq
  have e : (entsOf s).map chg = spl s.data.toList := by
    unfold entsOf
    rw [List.map_map]
    exact (List.map_congr_left fun w _ => chg_entW w).trans (List.map_id _)
  show (chgs (entsOf s)).toArray.toList = _
  unfold chgs
  rw [e, join_spl]
theorem text_entsOf (s : ByteArray) (h : textF (entsOf s) = 0) : textS (entsOf s) = s := by
  unfold textS
  rw [if_pos h]
  exact chgs_entsOf s
/-- Changes that may be written are read again. -/
theorem entsOf_text {l : List Ent} (h : textF l = 0) : entsOf (textS l) = l := by
  have hne : l ≠ [] := by
    rintro rfl
    simp [textF] at h
  have hw : wf l = 0 := by
    unfold textF at h
    split at h
    · omega
    · exact h
  have hall := wf_zero.1 hw
  unfold textS entsOf
  rw [if_pos h]
  show (spl (chgs l)).map entW = l
  unfold chgs
  have hno : ∀ x ∈ l.map chg, (32 : UInt8) ∉ x := by
    intro x hx
    obtain ⟨e, he, rfl⟩ := List.mem_map.1 hx
    obtain ⟨_, h1, h2⟩ := wordF_zero (hall e he)
    have k1 := plainW_not h1 (b := 32) (by decide)
    have k2 := plainW_not h2 (b := 32) (by decide)
    unfold chg chgT
    split
    · exact k1
    · intro hm
      rcases List.mem_append.1 hm with hm | hm
      · exact k1 hm
      · rcases List.mem_cons.1 hm with hm | hm
        · exact absurd hm (by decide)
        · exact k2 hm
  rw [spl_join _ (by simpa using hne) hno, List.map_map]
  refine (List.map_congr_left fun e he => ?_).trans (List.map_id _)
  obtain ⟨h0, h1, h2⟩ := wordF_zero (hall e he)
  have hg := (faultE_zero h0).2.1
  show entW (chg e) = e
  unfold entW chg
  rw [cutE_chg (plainW_not h1 (by decide)) (fun g => by rw [← b_toList]; exact hg g)]
  obtain ⟨k, v, g⟩ := e
  simp
theorem ofL_text {l : List Ent} (h : textF l = 0) : ofF (textS l) = 0 ∧ ofL (textS l) = l := by
  have e := entsOf_text h
  unfold ofF ofL
  rw [e, if_pos h, if_pos h]
  exact ⟨rfl, rfl⟩
/-! ### the kit's words for splitting and cutting -/
theorem split_words (s : ByteArray) : (Lib.splitB bsp 0 (Lib.countB s bsp) s).map (fun x => x.data.toList) = spl s.data.toList := (Lib.splitB_data bsp 0 _ s).trans (split_spl _)
theorem entW_cut (w : ByteArray) : entW w.data.toList = ⟨⟨(Lib.cut w.data.toList bq.data.toList).1.toArray⟩, ⟨(Lib.cut w.data.toList bq.data.toList).2.1.toArray⟩, !(Lib.cut w.data.toList bq.data.toList).2.2⟩ := by
  have e : Lib.cut w.data.toList bq.data.toList = cutE w.data.toList := cut_cutE _
  rw [e]; rfl
/-! ### the reference's loops -/
theorem cutE_none : ∀ {w : List UInt8}, (61 : UInt8) ∉ w → cutE w = (w, [], false)
  | [], _ => rfl
  | b :: w, h => by
    rw [cutE, if_neg (fun e => h (by simp [e])), cutE_none (fun e => h (List.mem_cons_of_mem _ e))]
theorem cutE_at {w : List UInt8} {k : Nat} (h : (61 : UInt8) ∉ w.take k) (hk : w[k]? = some 61) : cutE w = (w.take k, w.drop (k + 1), true) := by
  induction w generalizing k with
  | nil => simp at hk
  | cons b w ih =>
    cases k with
    | zero => simp at hk; subst hk; simp [cutE]
    | succ k =>
      rw [cutE, if_neg (fun e => h (by simp [e])), ih (k := k) (fun e => h (by simp [e])) (by simpa using hk)]
      simp
theorem spl_at {l : List UInt8} {a i : Nat} (ha : a ≤ i) (h : (32 : UInt8) ∉ (l.drop a).take (i - a)) (hi : l[i]? = some 32) : spl (l.drop a) = (l.drop a).take (i - a) :: spl (l.drop (i + 1)) := by
  have hlt : i < l.length := by
    rcases Nat.lt_or_ge i l.length with h | h
    · exact h
    · rw [List.getElem?_eq_none h] at hi; cases hi
  have e : l.drop a = (l.drop a).take (i - a) ++ ([32] ++ l.drop (i + 1)) := by
    conv => lhs; rw [← List.take_append_drop (i - a) (l.drop a)]
    congr 1
    rw [List.drop_drop, show a + (i - a) = i by omega, List.drop_eq_getElem_cons hlt]
    rw [List.getElem?_eq_getElem hlt] at hi
    rw [Option.some.inj hi]; rfl
  conv => lhs; rw [e]
  exact spl_two h _ rfl
theorem take_step {l : List UInt8} {a i : Nat} {b c : UInt8} (ha : a ≤ i) (h : c ∉ (l.drop a).take (i - a)) (hi : l[i]? = some b) (hb : b ≠ c) : c ∉ (l.drop a).take (i + 1 - a) := by
  rw [show i + 1 - a = (i - a) + 1 by omega, List.take_add_one]
  intro hm
  rcases List.mem_append.1 hm with hm | hm
  · exact h hm
  · rw [List.getElem?_drop, show a + (i - a) = i by omega, hi] at hm
    simp at hm
    exact hb hm.symm
end Go.Proofs.YtaepdbkfaoiimabGreatDoor
/- Changes as a text: the reference's functions compute the plain ones. Conditions: texts of at most a million bytes. -/
set_option linter.unusedVariables false
set_option linter.unusedSimpArgs false
set_option linter.unnecessarySimpa false
namespace Go.Proofs.YtaepdbkfaoiimabGreatDoor
open Go.RowKit
/-! ### plain -/
theorem bt_get {s : ByteArray} {i : Nat} (h : i < s.size) : ∃ c : UInt8, s.data.toList[i]? = some c ∧ bt s i = c.toNat := by
  have hl : i < s.data.toList.length := by rw [Array.length_toList]; exact h
  refine ⟨s.data.toList[i], List.getElem?_eq_getElem hl, ?_⟩
  unfold bt
  rw [List.getD_eq_getElem?_getD, List.getElem?_eq_getElem hl]; rfl
theorem plainW_next {s : ByteArray} {i : Nat} (h : i < s.size) : plainW (s.data.toList.take (i + 1)) = (plainW (s.data.toList.take i) && plainN (bt s i)) := by
  obtain ⟨c, hc, hb⟩ := bt_get h
  rw [List.take_add_one, hc, hb]
  unfold plainW
  rw [List.all_append]
  simp
theorem plainW_bad {s : ByteArray} {i : Nat} (h : i < s.size) (hb : plainN (bt s i) = false) : plainW s.data.toList = false := by
  obtain ⟨c, hc, hb2⟩ := bt_get h
  rw [hb2] at hb
  unfold plainW
  rw [List.all_eq_false]
  exact ⟨c, List.mem_of_getElem? hc, by rw [hb]; simp⟩
theorem plainN_t {x : Nat} (h : (97 ≤ x ∧ x ≤ 122) ∨ (48 ≤ x ∧ x ≤ 57)) : plainN x = true := by
  unfold plainN
  simp; omega
theorem plainN_f {x : Nat} (h : (x < 97 ∨ 122 < x) ∧ (x < 48 ∨ 57 < x)) : plainN x = false := by
  cases e : plainN x
  · rfl
  · unfold plainN at e; simp at e; omega
def splB (s : ByteArray) : List ByteArray := (spl s.data.toList).map fun w => ⟨w.toArray⟩
def accS (l : List Ent) : ByteArray := ⟨(chgs l).toArray⟩
theorem accS_size {l : List Ent} (h : ∀ e ∈ l, wordF e = 0) : (accS l).size ≤ 26 * l.length := by
  have := chgs_len h
  show (chgs l).toArray.size ≤ _
  simpa using this
theorem accS_next (l : List Ent) (y : Ent) : accS (l ++ [y]) = (if l = [] then ByteArray.empty else accS l ++ bsp) ++ chgB y := by
  apply b_eq
  rw [b_app, chgB_data]
  by_cases h : l = []
  · subst h
    rw [if_pos rfl]
    show (chgs [y]).toArray.toList = _
    rw [chgs_one]; rfl
  · rw [if_neg h, b_app]
    show (chgs (l ++ [y])).toArray.toList = (chgs l).toArray.toList ++ [32] ++ _
    rw [chgs_snoc _ _ h]
theorem textS_acc {l : List Ent} (h : textF l = 0) : textS l = accS l := if_pos h
theorem textS_bad {l : List Ent} (h : textF l ≠ 0) : textS l = ByteArray.empty := if_neg h
theorem textF_many {l : List Ent} (h : l.length = 0 ∨ 4 < l.length) : textF l = 2 := if_pos h
theorem textF_in {l : List Ent} (h : ¬(l.length = 0 ∨ 4 < l.length)) : textF l = wf l := if_neg h
theorem wordF_three {e : Ent} (h : faultE e = 0) (h2 : (plainW e.k.data.toList && plainW e.v.data.toList) = false) : wordF e = 3 := by
  unfold wordF; rw [if_pos h, h2]; rfl
theorem wordF_ok {e : Ent} (h : faultE e = 0) (h1 : plainW e.k.data.toList = true) (h2 : plainW e.v.data.toList = true) : wordF e = 0 := by
  unfold wordF; rw [if_pos h, h1, h2]; rfl
theorem wordF_fault {e : Ent} (h : faultE e ≠ 0) : wordF e = faultE e := by
  unfold wordF; rw [if_neg h]
theorem entW_none {x : ByteArray} (h : (61 : UInt8) ∉ x.data.toList) : entW x.data.toList = ⟨x, ByteArray.empty, true⟩ := by
  unfold entW
  rw [cutE_none h]
  rfl
theorem entW_at {x : ByteArray} {k : Nat} (h : (61 : UInt8) ∉ x.data.toList.take k) (hk : x.data.toList[k]? = some 61) : entW x.data.toList = ⟨x.extract 0 k, x.extract (k + 1) x.size, false⟩ := by
  unfold entW
  rw [cutE_at h hk]
  have hs : x.data.toList.length = x.size := Array.length_toList
  congr 1
  · apply b_eq
    rw [b_ext]; simp
  · apply b_eq
    rw [b_ext, List.take_of_length_le (l := x.data.toList.drop (k + 1)) (by rw [List.length_drop, hs]; omega)]
theorem splB_data (s : ByteArray) : (splB s).map (fun x => x.data.toList) = spl s.data.toList := by
  unfold splB
  rw [List.map_map]
  exact (List.map_congr_left fun w _ => rfl).trans (List.map_id _)
theorem entsOf_splB (s : ByteArray) : entsOf s = (splB s).map fun x => entW x.data.toList := by
  unfold entsOf
  rw [← splB_data, List.map_map]; rfl
theorem spl_len : ∀ l : List UInt8, (spl l).length ≤ l.length + 1
  | [] => by simp [spl]
  | b :: l => by
    have ih := spl_len l
    rw [spl]
    split
    · simp; omega
    · split
      · rename_i h; exact absurd h (spl_ne l)
      · rename_i h; rw [h] at ih; simp at ih ⊢; omega
theorem splB_len (s : ByteArray) : (splB s).length ≤ s.size + 1 := by
  unfold splB
  have := spl_len s.data.toList
  have hs : s.data.toList.length = s.size := Array.length_toList
  rw [List.length_map]; omega
theorem spl_sub : ∀ (l : List UInt8) (x : List UInt8), x ∈ spl l → x.length ≤ l.length
  | [], x, h => by simp [spl] at h; subst h; simp
  | b :: l, x, h => by
    rw [spl] at h
    split at h
    · rcases List.mem_cons.1 h with rfl | h
      · simp
      · have := spl_sub l x h; simp; omega
    · split at h
      · rename_i e; exact absurd e (spl_ne l)
      · rename_i y r e
        rcases List.mem_cons.1 h with rfl | h
        · have := spl_sub l y (by rw [e]; simp); simp; omega
        · have := spl_sub l x (by rw [e]; simp [h]); simp; omega
theorem splB_sub {s x : ByteArray} (h : x ∈ splB s) : x.size ≤ s.size := by
  unfold splB at h
  obtain ⟨y, hy, rfl⟩ := List.mem_map.1 h
  have := spl_sub _ _ hy
  have hs : s.data.toList.length = s.size := Array.length_toList
  show y.toArray.size ≤ _
  simp; omega
theorem cutE_len : ∀ l : List UInt8, (cutE l).1.length ≤ l.length ∧ (cutE l).2.1.length ≤ l.length
  | [] => by simp [cutE]
  | b :: l => by
    have ih := cutE_len l
    rw [cutE]
    split
    · simp
    · simp; omega
theorem entW_size (x : ByteArray) : (entW x.data.toList).k.size ≤ x.size ∧ (entW x.data.toList).v.size ≤ x.size := by
  have := cutE_len x.data.toList
  have hs : x.data.toList.length = x.size := Array.length_toList
  unfold entW
  constructor
  · show (cutE x.data.toList).1.toArray.size ≤ _
    simp; omega
  · show (cutE x.data.toList).2.1.toArray.size ≤ _
    simp; omega
theorem entsOf_ok {s : ByteArray} (hs : s.size ≤ 1000000) : ∀ e ∈ entsOf s, EntOk e := by
  intro e he
  rw [entsOf_splB] at he
  obtain ⟨x, hx, rfl⟩ := List.mem_map.1 he
  have h1 := splB_sub hx
  have h2 := entW_size x
  exact ⟨by omega, by omega⟩
attribute [local go_sem] bt_idx bt_wrap
set_option maxHeartbeats 4000000 in
theorem plainWord_any (s : ByteArray) (w : World) (hs : s.size ≤ 9223372036854775807) :
    Calls Tryz.prog 71 #[.string s] w fun e w' => e = .returned (.bool (plainW s.data.toList)) ∧ w = w' := by
  go_enter Tryz.func71, Tryz.ntmps71
  go_wp2_with fail
  go_loop [3] (fun x => ∃ i : Nat, x = .int .i64 (i : Int) ∧ i ≤ s.size ∧ Hid (plainW (s.data.toList.take i) = true)) (fun x => s.size - (intOf x).toNat)
  case atStart => exact ⟨0, rfl, Nat.zero_le _, rfl⟩
  case round =>
    obtain ⟨i, rfl, hi, hp⟩ := hrel
    by_cases hlt : i < s.size
    · have g1 : (0 : Int) ≤ (i : Int) := by omega
      have g2 : (i : Int) < (s.size : Int) := by omega
      have HN : Hid (plainN (bt s i) = true → plainW (s.data.toList.take (i + 1)) = true) := fun h => by rw [plainW_next hlt, hp.out, h]; rfl
      have HF : Hid (plainN (bt s i) = false → plainW s.data.toList = false) := fun h => plainW_bad hlt h
      have hr : (((97 ≤ bt s i ∧ bt s i ≤ 122) ∨ (48 ≤ bt s i ∧ bt s i ≤ 57)) ∧ plainN (bt s i) = true) ∨ (((bt s i < 97 ∨ 122 < bt s i) ∧ (bt s i < 48 ∨ 57 < bt s i)) ∧ plainN (bt s i) = false) := by
        by_cases h : (97 ≤ bt s i ∧ bt s i ≤ 122) ∨ (48 ≤ bt s i ∧ bt s i ≤ 57)
        · exact .inl ⟨h, plainN_t h⟩
        · exact .inr ⟨by omega, plainN_f (by omega)⟩
      rcases hr with ⟨hr, hpl⟩ | ⟨hr, hpl⟩
      · have hnx := HN.out hpl
        have HX := Lib.hid hnx
        clear hnx hpl HN HF
        by_cases h1 : bt s i < 97
        · have t1 : decide ((bt s i : Int) < 97) = true := decide_eq_true (by omega)
          have t3 : decide ((bt s i : Int) < 48) = false := decide_eq_false (by omega)
          have t4 : decide ((57 : Int) < (bt s i : Int)) = false := decide_eq_false (by omega)
          clear hr
          go_wp2_with fail
          go_round
          case rel => exact ⟨i + 1, by go_num, by omega, HX⟩
          case measure => simp [intOf] <;> omega
        · have t1 : decide ((bt s i : Int) < 97) = false := decide_eq_false (by omega)
          have t2 : decide ((122 : Int) < (bt s i : Int)) = false := decide_eq_false (by omega)
          clear hr
          go_wp2_with fail
          go_round
          case rel => exact ⟨i + 1, by go_num, by omega, HX⟩
          case measure => simp [intOf] <;> omega
      · have hnx := HF.out hpl
        have HX := Lib.hid hnx
        clear hnx hpl HN HF
        by_cases h1 : bt s i < 97
        · have t1 : decide ((bt s i : Int) < 97) = true := decide_eq_true (by omega)
          by_cases h3 : bt s i < 48
          · have t3 : decide ((bt s i : Int) < 48) = true := decide_eq_true (by omega)
            clear hr
            go_wp2_with fail
            go_ret
            exact ⟨ret_bool HX.out.symm, rfl⟩
          · have t3 : decide ((bt s i : Int) < 48) = false := decide_eq_false (by omega)
            have t4 : decide ((57 : Int) < (bt s i : Int)) = true := decide_eq_true (by omega)
            clear hr
            go_wp2_with fail
            go_ret
            exact ⟨ret_bool HX.out.symm, rfl⟩
        · have t1 : decide ((bt s i : Int) < 97) = false := decide_eq_false (by omega)
          have t2 : decide ((122 : Int) < (bt s i : Int)) = true := decide_eq_true (by omega)
          have t3 : decide ((bt s i : Int) < 48) = false := decide_eq_false (by omega)
          have t4 : decide ((57 : Int) < (bt s i : Int)) = true := decide_eq_true (by omega)
          clear hr
          go_wp2_with fail
          go_ret
          exact ⟨ret_bool HX.out.symm, rfl⟩
    · have hge : i = s.size := by omega
      subst hge
      have HX : Hid (plainW s.data.toList = true) := by
        have h := hp.out
        rwa [List.take_of_length_le (by rw [Array.length_toList]; exact Nat.le_refl _)] at h
      go_wp2_with fail
      go_ret
      exact ⟨ret_bool HX.out.symm, rfl⟩
theorem info_strS : (Tryz.prog.info? 9).map (fun i => (i.zero, i.size, i.bytes)) = some (some (.string ByteArray.empty), 1, 16) := by kernel_rfl
theorem rd_lit1S (B : Nat) (w : World) (g : Nat) (hg : w.heap.size = g) (s : ByteArray) : Rd B 9 1 (w.alloc (.cells #[.string s] 9)) (.slice (some ⟨g, 0, none⟩) 1 1) 1 [.string s] := by
  subst hg
  have hb := Blk.new w 9 #[.string s]
  refine ⟨rfl, _, _, rfl, Nat.le_refl _, by omega, fun _ => ⟨_, _, rfl, .inr ⟨_, _, hb⟩, hb.lt, fun j u hu => ?_⟩⟩
  rw [hb.cell]
  match j, hu with
  | 0, hu => exact hu
set_option maxHeartbeats 8000000 in
theorem split_any (B : Nat) (s : ByteArray) (w : World) (hs : s.size ≤ 1000000) :
    Calls Tryz.prog 14 #[.string s] w fun e w' => ∃ v, e = .returned v ∧ Strs B w' v (splB s) ∧ Below w.heap.size w w' := by
  go_enter Tryz.func14, Tryz.ntmps14
  go_wp2_with fail
  go_loopw [3, 4, 5] (fun u x y wr => ∃ (i a : Nat) (l : List (List UInt8)), y = .int .i64 (i : Int) ∧ x = .int .i64 (a : Int) ∧ a ≤ i ∧ i ≤ s.size ∧ l.length ≤ i ∧ Hid (wr.ownsRow w.heap.size 9 1 u l.length ((l.map fun x => (⟨x.toArray⟩ : ByteArray)).map .string)) ∧ Hid (spl s.data.toList = l ++ spl (s.data.toList.drop a)) ∧ Hid ((32 : UInt8) ∉ (s.data.toList.drop a).take (i - a)) ∧ Below w.heap.size w wr) (fun _ _ y _ => s.size - (intOf y).toNat)
  case atStart => exact ⟨0, 0, [], rfl, rfl, Nat.le_refl _, Nat.zero_le _, Nat.le_refl _, World.ownsRow_nil _ _ _ _, rfl, by simp [Hid], Below.refl _ _⟩
  case round =>
    obtain ⟨i, a, l, rfl, rfl, hai, hi, hli, hown, hsp, hno, hbl⟩ := hrel
    obtain ⟨i0, hinf, hz0, hz1, hz2⟩ := info_parts info_strS
    have HI := Lib.hid hinf
    have Z0 := Lib.hid hz0
    have Z1 := Lib.hid hz1
    have Z2 := Lib.hid hz2
    clear hinf hz0 hz1 hz2
    have hbs := hbl.size
    by_cases hlt : i < s.size
    · have g1 : (0 : Int) ≤ (i : Int) := by omega
      have g2 : (i : Int) < (s.size : Int) := by omega
      obtain ⟨c, hc, hcb⟩ := bt_get hlt
      by_cases h32 : bt s i = 32
      · have hc32 : c = 32 := by
          apply UInt8.toNat_inj.1
          rw [← hcb, h32]; rfl
        have HSP : Hid (spl s.data.toList = (l ++ [(s.data.toList.drop a).take (i - a)]) ++ spl (s.data.toList.drop (i + 1))) := by
          rw [Hid, hsp.out, spl_at hai hno.out (by rw [hc, hc32]), List.append_assoc]; rfl
        have HNO : Hid ((32 : UInt8) ∉ (s.data.toList.drop (i + 1)).take (i + 1 - (i + 1))) := by rw [Hid, Nat.sub_self]; simp
        have HW : Hid (s.extract a i = ⟨((s.data.toList.drop a).take (i - a)).toArray⟩) := by
          apply b_eq; rw [b_ext]
        have t1 : ((bt s i : Int) == 32) = true := by rw [beq_iff_eq]; omega
        have hownA := Lib.hid (own_alloc hown.out (.cells #[.string (s.extract a i)] 9))
        have hbA := Lib.hid (hbl.alloc hbs (.cells #[.string (s.extract a i)] 9))
        have HL := Lib.hid (rd_lit1S B wr wr.heap.size rfl (s.extract a i))
        clear hc hcb hc32 h32 hno hsp
        go_wp2_with (at_builtin; go_loud (refine wpList_append_rd _ rfl (.tmp 16) (.tmp 21) 22 rfl w.heap.size 9 i0 _ 1 16 Tryz.underlying22 HI.out Z0.out Z1.out Z2.out rfl (by decide) u3 _ _ rfl hownA.out B 9 _ 1 _ rfl HL.out (by simp [Value.oneCell']) (by unfold maxLen; omega) (by omega) (by simp; omega) ?_); intro v1 w5 hown1 hg1 hat1)
        have hown2 : Hid (w5.ownsRow w.heap.size 9 1 v1 (l ++ [(s.data.toList.drop a).take (i - a)]).length (((l ++ [(s.data.toList.drop a).take (i - a)]).map fun x => (⟨x.toArray⟩ : ByteArray)).map .string)) := by
          rw [HW.out] at hown1
          rw [Hid]
          simpa using hown1
        have hb5 := below_own hbA.out (Nat.le_refl _) hownA.out hg1
        clear hg1 hat1 hown1
        go_roundw
        case rel => exact ⟨i + 1, i + 1, l ++ [(s.data.toList.drop a).take (i - a)], by go_num, by go_num, Nat.le_refl _, by omega, by simp; omega, hown2, HSP, HNO, hb5⟩
        case measure => simp [intOf] <;> omega
      · have hc32 : c ≠ 32 := by
          intro e
          subst e
          exact h32 hcb
        have HNO : Hid ((32 : UInt8) ∉ (s.data.toList.drop a).take (i + 1 - a)) := take_step hai hno.out hc hc32
        have t1 : ((bt s i : Int) == 32) = false := by rw [beq_eq_false_iff_ne]; omega
        clear hc hcb hc32 h32 hno
        go_wp2_with fail
        go_roundw
        case rel => exact ⟨i + 1, a, l, by go_num, rfl, by omega, by omega, by omega, hown, hsp, HNO, hbl⟩
        case measure => simp [intOf] <;> omega
    · have hge : i = s.size := by omega
      subst hge
      have hsl : s.data.toList.length = s.size := Array.length_toList
      have HW : Hid (s.extract a s.size = ⟨(s.data.toList.drop a).toArray⟩) := by
        apply b_eq
        rw [b_ext, List.take_of_length_le (by rw [List.length_drop, hsl]; omega)]
      have HSP : Hid (splB s = (l.map fun x => (⟨x.toArray⟩ : ByteArray)) ++ [s.extract a s.size]) := by
        have h := hno.out
        rw [List.take_of_length_le (by rw [List.length_drop, hsl]; omega)] at h
        rw [Hid, HW.out]
        unfold splB
        rw [hsp.out, spl_one h, List.map_append]; rfl
      have hownA := Lib.hid (own_alloc hown.out (.cells #[.string (s.extract a s.size)] 9))
      have hbA := Lib.hid (hbl.alloc hbs (.cells #[.string (s.extract a s.size)] 9))
      have HL := Lib.hid (rd_lit1S B wr wr.heap.size rfl (s.extract a s.size))
      clear hno hsp hsl
      go_wp2_with (at_builtin; go_loud (refine wpList_append_rd _ rfl (.tmp 25) (.tmp 29) 22 rfl w.heap.size 9 i0 _ 1 16 Tryz.underlying22 HI.out Z0.out Z1.out Z2.out rfl (by decide) u3 _ _ rfl hownA.out B 9 _ 1 _ rfl HL.out (by simp [Value.oneCell']) (by unfold maxLen; omega) (by omega) (by simp; omega) ?_); intro v1 w5 hown1 hg1 hat1)
      have hb5 := below_own hbA.out (Nat.le_refl _) hownA.out hg1
      go_ret
      refine ⟨v1, rfl, ⟨?_, fun x hx => ?_⟩, hb5⟩
      · rw [HSP.out, List.map_append]
        have := Rd.of_own (B := B) hown1
        simpa using this
      · have := splB_sub hx
        omega
set_option maxRecDepth 20000 in
set_option maxHeartbeats 8000000 in
theorem rtext_any (B : Nat) (v : Value) (l : List Ent) (w : World) (hl : Ents B w v l) :
    Calls Tryz.prog 35 #[v] w fun d w' => d = .returned (.tuple #[.string (textS l), .int .i64 (textF l)]) ∧ Below w.heap.size w w' := by
  obtain ⟨A, c, rfl, hc, hc2, hcell⟩ := hl.form
  have HC := Lib.hid hcell
  clear hcell hl
  by_cases hz : l.length = 0 ∨ 4 < l.length
  · have HF := Lib.hid (textF_many hz)
    have HS := Lib.hid (textS_bad (l := l) (by rw [HF.out]; decide))
    by_cases h0 : l.length = 0
    · have t1 : decide ((l.length : Int) < 1) = true := decide_eq_true (by omega)
      clear hz
      go_enter Tryz.func35, Tryz.ntmps35
      go_wp2_with fail
      exact bodyPost_ret (v := .tuple #[.string ByteArray.empty, .int .i64 2]) (by simp [results, Tryz.results35, go_sem] <;> rfl) rfl ⟨by rw [HF.out, HS.out]; rfl, Below.refl _ _⟩
    · have t1 : decide ((l.length : Int) < 1) = false := decide_eq_false (by omega)
      have t2 : decide ((4 : Int) < (l.length : Int)) = true := decide_eq_true (by omega)
      clear hz
      go_enter Tryz.func35, Tryz.ntmps35
      go_wp2_with fail
      exact bodyPost_ret (v := .tuple #[.string ByteArray.empty, .int .i64 2]) (by simp [results, Tryz.results35, go_sem] <;> rfl) rfl ⟨by rw [HF.out, HS.out]; rfl, Below.refl _ _⟩
  have HW := Lib.hid (textF_in hz)
  have t1 : decide ((l.length : Int) < 1) = false := decide_eq_false (by omega)
  have t2 : decide ((4 : Int) < (l.length : Int)) = false := decide_eq_false (by omega)
  have hl4 : l.length ≤ 4 := by omega
  clear hz
  go_enter Tryz.func35, Tryz.ntmps35
  go_wp2_with fail
  go_loopw [4, 5] (fun s i wr => ∃ k : Nat, i = .int .i64 (k : Int) ∧ k ≤ l.length ∧ s = .string (accS (l.take k)) ∧ Hid (∀ x ∈ l.take k, wordF x = 0) ∧ Below w.heap.size w wr) (fun _ i _ => l.length - (intOf i).toNat)
  case atStart => exact ⟨0, rfl, Nat.zero_le _, rfl, fun x hx => by simp at hx, Below.refl _ _⟩
  case round =>
    obtain ⟨k, rfl, hk, rfl, hok, hbl⟩ := hrel
    have hsz := accS_size hok.out
    rw [List.length_take_of_le hk] at hsz
    by_cases hlt : k < l.length
    · obtain ⟨y, hy, hty, _⟩ := getElem?_of_lt hlt
      obtain ⟨b, o, rfl, hb, c1, c2, c3⟩ := HC.out k y hy
      have d1 := (hbl.cell (p := ⟨b, o + k * 3, none⟩) hb).trans c1
      have d2 := (hbl.cell (p := ⟨b, o + k * 3 + 1, none⟩) hb).trans c2
      have d3 := (hbl.cell (p := ⟨b, o + k * 3 + 2, none⟩) hb).trans c3
      have HY := Lib.hid hy
      have HTY := Lib.hid hty
      clear c1 c2 c3 hy hty
      have g1 : (0 : Int) ≤ (k : Int) := by omega
      have g2 : (k : Int) < (l.length : Int) := by omega
      have HB := Lib.hid hbl
      clear hbl
      go_wp2_with fail
      refine (rfault_any y _).mono ?_
      rintro d w2 ⟨rfl, hb2⟩
      have e1 := (hb2.cell (cell_lt d1)).trans d1
      have e2 := (hb2.cell (cell_lt d2)).trans d2
      have e3 := (hb2.cell (cell_lt d3)).trans d3
      have HB2 := Lib.hid (HB.out.trans (hb2.mono HB.out.size))
      clear d1 d2 d3 hb2 HB
      by_cases hf : faultE y = 0
      · have he : (faultE y : Int) = 0 := by omega
        rw [he]
        have hz := faultE_zero hf
        have HF := Lib.hid hf
        have z1 : y.k.size ≤ 8 := hz.2.2.1
        have z2 : y.v.size ≤ 16 := hz.2.2.2
        clear he hz hf
        go_wp2_with fail
        refine (plainWord_any y.k _ (by omega)).mono ?_
        rintro d w3 ⟨rfl, rfl⟩
        go_wp2_with fail
        refine (plainWord_any y.v _ (by omega)).mono ?_
        rintro d w3 ⟨rfl, rfl⟩
        cases hpk : plainW y.k.data.toList
        · have h3 := wordF_three HF.out (by rw [hpk]; rfl)
          have HT : Hid (textF l = 3) := by rw [Hid, HW.out, wf_at hok.out HY.out (by rw [h3]; decide), h3]
          have HS := Lib.hid (textS_bad (l := l) (by rw [HT.out]; decide))
          clear h3
          go_wp2_with fail
          exact bodyPost_ret (v := .tuple #[.string ByteArray.empty, .int .i64 3]) (by simp [results, Tryz.results35, go_sem] <;> rfl) rfl ⟨by rw [HT.out, HS.out]; rfl, HB2.out⟩
        cases hpv : plainW y.v.data.toList
        · have h3 := wordF_three HF.out (by rw [hpv]; simp)
          have HT : Hid (textF l = 3) := by rw [Hid, HW.out, wf_at hok.out HY.out (by rw [h3]; decide), h3]
          have HS := Lib.hid (textS_bad (l := l) (by rw [HT.out]; decide))
          clear h3
          go_wp2_with fail
          exact bodyPost_ret (v := .tuple #[.string ByteArray.empty, .int .i64 3]) (by simp [results, Tryz.results35, go_sem] <;> rfl) rfl ⟨by rw [HT.out, HS.out]; rfl, HB2.out⟩
        have h0 := wordF_ok HF.out hpk hpv
        have hok2 : Hid (∀ x ∈ l.take (k + 1), wordF x = 0) := by
          intro x hx
          rw [HTY.out] at hx
          rcases List.mem_append.1 hx with hx | hx
          · exact hok.out x hx
          · simp at hx; subst hx; exact h0
        have hnx : Hid (accS (l.take (k + 1)) = (if l.take k = [] then ByteArray.empty else accS (l.take k) ++ bsp) ++ chgB y) := by rw [Hid, HTY.out, accS_next]
        have hS0 : Hid (k = 0 → accS (l.take k) = ByteArray.empty) := fun h => by subst h; rfl
        have hne : Hid (0 < k → l.take k ≠ []) := fun h e => by
          have := congrArg List.length e
          rw [List.length_take_of_le hk] at this
          simp at this; omega
        have hn0 : Hid (k = 0 → l.take k = []) := fun h => by subst h; rfl
        generalize accS (l.take k) = S at *
        clear h0 hok hpk hpv
        have hchg : ∀ g : Bool, y.g = g → Hid (chgB y = if g then y.k else y.k ++ (bq ++ y.v)) := fun g hg => by subst hg; rfl
        have sq : bq.size = 1 := rfl
        have ssp : bsp.size = 1 := rfl
        by_cases hk0 : k = 0
        · have t3 : decide (0 < k) = false := decide_eq_false (by omega)
          have hS := hS0.out hk0
          have hif := hn0.out hk0
          clear hk0
          cases hg : y.g
          · have HNX : Hid (accS (l.take (k + 1)) = ((S ++ y.k) ++ bq) ++ y.v) := by
              rw [Hid, hnx.out, (hchg false hg).out, if_pos hif, hS]
              simp only [Bool.false_eq_true, if_false, ByteArray.append_assoc]
            rw [hg] at e3
            clear hnx hchg hS0 hne hn0 hif hS
            go_wp2_with fail
            go_roundw
            case rel => exact ⟨k + 1, by simp, by omega, by rw [HNX.out]; rfl, hok2, HB2.out⟩
            case measure => simp [intOf] <;> omega
          · have HNX : Hid (accS (l.take (k + 1)) = S ++ y.k) := by
              rw [Hid, hnx.out, (hchg true hg).out, if_pos hif, hS]; rfl
            rw [hg] at e3
            clear hnx hchg hS0 hne hn0 hif hS
            go_wp2_with fail
            go_roundw
            case rel => exact ⟨k + 1, by simp, by omega, by rw [HNX.out], hok2, HB2.out⟩
            case measure => simp [intOf] <;> omega
        · have t3 : decide (0 < k) = true := decide_eq_true (by omega)
          have hif := hne.out (by omega)
          cases hg : y.g
          · have HNX : Hid (accS (l.take (k + 1)) = (((S ++ bsp) ++ y.k) ++ bq) ++ y.v) := by
              rw [Hid, hnx.out, (hchg false hg).out, if_neg hif]
              simp only [Bool.false_eq_true, if_false, ByteArray.append_assoc]
            rw [hg] at e3
            clear hnx hchg hS0 hne hn0 hif
            go_wp2_with fail
            go_roundw
            case rel => exact ⟨k + 1, by simp, by omega, by rw [HNX.out]; rfl, hok2, HB2.out⟩
            case measure => simp [intOf] <;> omega
          · have HNX : Hid (accS (l.take (k + 1)) = (S ++ bsp) ++ y.k) := by
              rw [Hid, hnx.out, (hchg true hg).out, if_neg hif]; rfl
            rw [hg] at e3
            clear hnx hchg hS0 hne hn0 hif
            go_wp2_with fail
            go_roundw
            case rel => exact ⟨k + 1, by simp, by omega, by rw [HNX.out]; rfl, hok2, HB2.out⟩
            case measure => simp [intOf] <;> omega
      · have h3 := wordF_fault hf
        have HT : Hid (textF l = faultE y) := by rw [Hid, HW.out, wf_at hok.out HY.out (by rw [h3]; exact hf), h3]
        have HS := Lib.hid (textS_bad (l := l) (by rw [HT.out]; exact hf))
        have t3 : decide ((0 : Int) < (faultE y : Int)) = true := decide_eq_true (by omega)
        clear h3 hok
        go_wp2_with fail
        exact bodyPost_ret (v := .tuple #[.string ByteArray.empty, .int .i64 (faultE y)]) (by simp [results, Tryz.results35, go_sem] <;> rfl) rfl ⟨by rw [HT.out, HS.out], HB2.out⟩
    · have hkl : k = l.length := by omega
      subst hkl
      have HT : Hid (textF l = 0) := by
        rw [Hid, HW.out]
        have h := hok.out
        rw [List.take_length] at h
        exact wf_zero.2 h
      have HS := Lib.hid (textS_acc HT.out)
      rw [List.take_length] at hok hsz
      rw [List.take_length]
      clear hok
      go_wp2_with fail
      exact bodyPost_ret (v := .tuple #[.string (accS l), .int .i64 0]) (by simp [results, Tryz.results35, go_sem] <;> rfl) rfl ⟨by rw [HT.out, HS.out]; rfl, hbl⟩
end Go.Proofs.YtaepdbkfaoiimabGreatDoor
/- Changes as a text: the reference's BatchOf computes the plain one. Conditions: texts of at most a million bytes. -/
set_option linter.unusedVariables false
set_option linter.unusedSimpArgs false
set_option linter.unnecessarySimpa false
namespace Go.Proofs.YtaepdbkfaoiimabGreatDoor
open Go.RowKit
attribute [local go_sem] bt_idx bt_wrap
def wEnts (xs : List ByteArray) : List Ent := xs.map fun x => entW x.data.toList
theorem wEnts_next {xs : List ByteArray} {k : Nat} {x : ByteArray} (h : xs.take (k + 1) = xs.take k ++ [x]) : wEnts (xs.take (k + 1)) = wEnts (xs.take k) ++ [entW x.data.toList] := by
  unfold wEnts; rw [h, List.map_append]; rfl
set_option maxRecDepth 20000 in
set_option maxHeartbeats 8000000 in
theorem rof_any (B : Nat) (s : ByteArray) (w : World) (hs : s.size ≤ 1000000) :
    Calls Tryz.prog 15 #[.string s] w fun d w' => ∃ v, d = .returned (.tuple #[v, .int .i64 (ofF s)]) ∧ Ents B w' v (ofL s) ∧ Below w.heap.size w w' := by
  go_enter Tryz.func15, Tryz.ntmps15
  go_wp2_with fail
  refine (split_any B s _ hs).mono ?_
  rintro d w1 ⟨v1, rfl, hv1, hb1⟩
  obtain ⟨A, c, rfl, hc, hc2, hcell⟩ := hv1.form
  have hn := splB_len s
  have HSUB : Hid (∀ x ∈ splB s, x.size ≤ s.size) := fun x hx => splB_sub hx
  have HE : Hid (entsOf s = wEnts (splB s)) := entsOf_splB s
  have HC := Lib.hid hcell
  have HB1 := Lib.hid hb1
  have HOK := Lib.hid (entsOf_ok hs)
  generalize splB s = xs at *
  clear hcell hb1 hv1
  go_wp2_with fail
  go_loopw [5, 6] (fun u i wr => ∃ k : Nat, i = .int .i64 (k : Int) ∧ k ≤ xs.length ∧ Hid (wr.ownsRow w1.heap.size 56 3 u k ((wEnts (xs.take k)).flatMap Ent.cells)) ∧ Below w1.heap.size w1 wr) (fun _ i _ => xs.length - (intOf i).toNat)
  case atStart => exact ⟨0, rfl, Nat.zero_le _, World.ownsRow_nil _ _ _ _, Below.refl _ _⟩
  case round =>
    obtain ⟨k, rfl, hk, hown, hbl⟩ := hrel
    have hbs := hbl.size
    by_cases hlt : k < xs.length
    · obtain ⟨x, hx, htk, _⟩ := getElem?_of_lt hlt
      obtain ⟨b, o, rfl, hb, c1⟩ := HC.out k x hx
      have d1 := (hbl.cell (p := ⟨b, o + k, none⟩) hb).trans c1
      have hxs := HSUB.out x (List.mem_of_getElem? hx)
      have HNX : Hid (wEnts (xs.take (k + 1)) = wEnts (xs.take k) ++ [entW x.data.toList]) := wEnts_next htk
      have g1 : (0 : Int) ≤ (k : Int) := by omega
      have g2 : (k : Int) < (xs.length : Int) := by omega
      clear hx htk c1
      obtain ⟨i0, hinf, hz0, hz1, hz2⟩ := info_parts info_entry
      have HI := Lib.hid hinf
      have Z0 := Lib.hid hz0
      have Z1 := Lib.hid hz1
      have Z2 := Lib.hid hz2
      clear hinf hz0 hz1 hz2
      have HBK := Lib.hid (Blk.new wr 56 #[.string x, .string ⟨#[]⟩, .bool true])
      have HO3 := Lib.hid (own_alloc hown.out (.cells #[.string x, .string ⟨#[]⟩, .bool true] 56))
      have HB3 := Lib.hid (hbl.alloc hbs (.cells #[.string x, .string ⟨#[]⟩, .bool true] 56))
      have hd3 := (((Below.refl wr.heap.size wr).alloc (Nat.le_refl _) (.cells #[.string x, .string ⟨#[]⟩, .bool true] 56)).cell (cell_lt d1)).trans d1
      have hls := own_lt hown.out
      have HLS := Lib.hid hls
      clear hls
      go_wp2_with fail
      have hsz3 : (wr.alloc (.cells #[.string x, .string ⟨#[]⟩, .bool true] 56)).heap.size = wr.heap.size + 1 := by simp
      generalize wr.alloc (.cells #[.string x, .string ⟨#[]⟩, .bool true] 56) = w3 at *
      have hnb : w1.heap.size ≤ wr.heap.size := hbs
      have HS3 := Lib.hid hsz3
      generalize wr.heap.size = nb at *
      clear d1 hown hbl
      go_loop [8] (fun y => ∃ j : Nat, y = .int .i64 (j : Int) ∧ j ≤ x.size ∧ Hid ((61 : UInt8) ∉ x.data.toList.take j)) (fun y => x.size - (intOf y).toNat)
      case atStart => exact ⟨0, rfl, Nat.zero_le _, by simp [Hid]⟩
      case round =>
        obtain ⟨j, rfl, hj, hno⟩ := hrel
        by_cases hjl : j < x.size
        · have j1 : (0 : Int) ≤ (j : Int) := by omega
          have j2 : (j : Int) < (x.size : Int) := by omega
          obtain ⟨c', hc', hcb⟩ := bt_get hjl
          by_cases h61 : bt x j = 61
          · have hc61 : c' = 61 := by
              apply UInt8.toNat_inj.1
              rw [← hcb, h61]; rfl
            have HEW := Lib.hid (entW_at hno.out (by rw [hc', hc61]))
            have t1 : ((bt x j : Int) == 61) = true := by rw [beq_iff_eq]; omega
            have k0 := HBK.out.cell 0
            have k1 := HBK.out.cell 1
            have k2 := HBK.out.cell 2
            have f0 := HBK.out.frozen 0
            have f1 := HBK.out.frozen 1
            have f2 := HBK.out.frozen 2
            simp at k0 k1 k2 f0 f1 f2
            have j3 : (j : Int) + 1 ≤ (x.size : Int) := by omega
            have j4 : (0 : Int) ≤ (j : Int) + 1 := by omega
            clear hc' hcb hc61 h61 hno
            go_wp2_with fail
            go_region
            have hb4 := (((HB3.out.setCell (p := ⟨nb, 0, none⟩) hnb (.string (x.extract 0 j))).setCell (p := ⟨nb, 1, none⟩) hnb (.string (x.extract (j + 1) x.size))).setCell (p := ⟨nb, 2, none⟩) hnb (.bool false)).drew
            have hk4 : Blk (((w3.setCell ⟨nb, 0, none⟩ (.string (x.extract 0 j))).setCell ⟨nb, 1, none⟩ (.string (x.extract (j + 1) x.size))).setCell ⟨nb, 2, none⟩ (.bool false)).drew nb 56 #[.string (x.extract 0 j), .string (x.extract (j + 1) x.size), .bool false] := ((HBK.out.set_ 0 _).set_ 1 _).set_ 2 _
            have ho4 : (((w3.setCell ⟨nb, 0, none⟩ (.string (x.extract 0 j))).setCell ⟨nb, 1, none⟩ (.string (x.extract (j + 1) x.size))).setCell ⟨nb, 2, none⟩ (.bool false)).drew.ownsRow w1.heap.size 56 3 u5 k ((wEnts (xs.take k)).flatMap Ent.cells) :=
              World.ownsRow.drew (ownsRow_setCell_other (ownsRow_setCell_other (ownsRow_setCell_other HO3.out (a := ⟨nb, 0, none⟩) HLS.out _) (a := ⟨nb, 1, none⟩) HLS.out _) (a := ⟨nb, 2, none⟩) HLS.out _)
            have hs4 : (((w3.setCell ⟨nb, 0, none⟩ (.string (x.extract 0 j))).setCell ⟨nb, 1, none⟩ (.string (x.extract (j + 1) x.size))).setCell ⟨nb, 2, none⟩ (.bool false)).drew.heap.size = nb + 1 := by simp [World.setCell, World.drew, hsz3]
            generalize (((w3.setCell ⟨nb, 0, none⟩ (.string (x.extract 0 j))).setCell ⟨nb, 1, none⟩ (.string (x.extract (j + 1) x.size))).setCell ⟨nb, 2, none⟩ (.bool false)).drew = w4 at *
            have e0 := hk4.cell 0
            have e1 := hk4.cell 1
            have e2 := hk4.cell 2
            simp at e0 e1 e2
            have hownA := Lib.hid (own_alloc ho4 (.cells #[.string (x.extract 0 j), .string (x.extract (j + 1) x.size), .bool false] 56))
            have hbA := Lib.hid (hb4.alloc (by omega) (.cells #[.string (x.extract 0 j), .string (x.extract (j + 1) x.size), .bool false] 56))
            have HS4 := Lib.hid hs4
            clear hb4 hk4 ho4 k0 k1 k2 f0 f1 f2 hd3 hsz3 HBK HO3 HB3
            go_wp2_with (at_builtin; go_loud (refine wpList_append_rd _ rfl (.tmp 54) (.tmp 56) 31 rfl w1.heap.size 56 i0 _ 3 40 Tryz.underlying31 HI.out Z0.out Z1.out Z2.out rfl (by decide) u5 _ _ rfl hownA.out B 56 _ 1 _ rfl (rd_lit3 _ _ _ HS4.out _ _ _) (ent_one3 _ _ _) (by unfold maxLen; omega) (by omega) (by simp; omega) ?_); intro v1' w5 hown1 hg1 hat1)
            have hown2 : Hid (w5.ownsRow w1.heap.size 56 3 v1' (k + 1) ((wEnts (xs.take (k + 1))).flatMap Ent.cells)) := by
              rw [Hid, HNX.out, HEW.out, List.flatMap_append]; exact hown1
            have hb5 := below_own hbA.out (Nat.le_refl _) hownA.out hg1
            clear hg1 hat1 hown1
            go_roundw
            case rel => exact ⟨k + 1, by go_num, by omega, hown2, hb5⟩
            case measure => simp [intOf] <;> omega
          · have hc61 : c' ≠ 61 := by
              intro e
              subst e
              exact h61 hcb
            have HNO : Hid ((61 : UInt8) ∉ x.data.toList.take (j + 1)) := by
              have := take_step (l := x.data.toList) (a := 0) (Nat.zero_le _) (by simpa using hno.out) hc' hc61
              simpa [Hid] using this
            have t1 : ((bt x j : Int) == 61) = false := by rw [beq_eq_false_iff_ne]; omega
            clear hc' hcb hc61 h61 hno
            go_wp2_with fail
            go_round
            case rel => exact ⟨j + 1, by go_num, by omega, HNO⟩
            case measure => simp [intOf] <;> omega
        · have hge : j = x.size := by omega
          subst hge
          have HEW : Hid (entW x.data.toList = ⟨x, ByteArray.empty, true⟩) := by
            have h := hno.out
            rw [List.take_of_length_le (by rw [Array.length_toList]; exact Nat.le_refl _)] at h
            exact entW_none h
          clear hno
          have k0 := HBK.out.cell 0
          have k1 := HBK.out.cell 1
          have k2 := HBK.out.cell 2
          simp at k0 k1 k2
          have hownA := Lib.hid (own_alloc HO3.out (.cells #[.string x, .string ⟨#[]⟩, .bool true] 56))
          have hbA := Lib.hid (HB3.out.alloc (by omega) (.cells #[.string x, .string ⟨#[]⟩, .bool true] 56))
          go_wp2_with (at_builtin; go_loud (refine wpList_append_rd _ rfl (.tmp 54) (.tmp 56) 31 rfl w1.heap.size 56 i0 _ 3 40 Tryz.underlying31 HI.out Z0.out Z1.out Z2.out rfl (by decide) u5 _ _ rfl hownA.out B 56 _ 1 _ rfl (rd_lit3 _ _ _ HS3.out _ _ _) (ent_one3 _ _ _) (by unfold maxLen; omega) (by omega) (by simp; omega) ?_); intro v1' w5 hown1 hg1 hat1)
          have hown2 : Hid (w5.ownsRow w1.heap.size 56 3 v1' (k + 1) ((wEnts (xs.take (k + 1))).flatMap Ent.cells)) := by
            rw [Hid, HNX.out, HEW.out, List.flatMap_append]; exact hown1
          have hb5 := below_own hbA.out (Nat.le_refl _) hownA.out hg1
          clear hg1 hat1 hown1
          go_roundw
          case rel => exact ⟨k + 1, by go_num, by omega, hown2, hb5⟩
          case measure => simp [intOf] <;> omega
    · have hge : k = xs.length := by omega
      subst hge
      rw [List.take_length] at hown
      have hents : Ents B wr u5 (entsOf s) := ⟨by have := Rd.of_own (B := B) hown.out; rw [HE.out]; unfold wEnts at this ⊢; rw [List.length_map]; exact this, HOK.out⟩
      have HEN := Lib.hid hents
      clear hents
      go_wp2_with fail
      refine (rtext_any B _ (entsOf s) _ HEN.out).mono ?_
      rintro d w4 ⟨rfl, hb4⟩
      have HB4 := Lib.hid (HB1.out.trans ((hbl.mono HB1.out.size).trans (hb4.mono (by have := HB1.out.size; omega))))
      by_cases hf : textF (entsOf s) = 0
      · have HF : Hid (ofF s = 0 ∧ ofL s = entsOf s) := by
          unfold ofF ofL
          rw [if_pos hf, if_pos hf]
          exact ⟨rfl, rfl⟩
        have t1 : decide ((0 : Int) < (textF (entsOf s) : Int)) = false := decide_eq_false (by omega)
        have t2 : decide (0 < textF (entsOf s)) = false := decide_eq_false (by omega)
        have HEN4 := Lib.hid (HEN.out.below hb4)
        clear hf hb4
        go_wp2_with fail
        exact bodyPost_ret (v := .tuple #[u5, .int .i64 0]) (by simp [results, Tryz.results15, go_sem] <;> rfl) rfl ⟨_, by rw [HF.out.1]; rfl, by rw [HF.out.2]; exact HEN4.out, HB4.out⟩
      · have HF : Hid (ofF s = 4 ∧ ofL s = []) := by
          unfold ofF ofL
          rw [if_neg hf, if_neg hf]
          exact ⟨rfl, rfl⟩
        have t1 : decide ((0 : Int) < (textF (entsOf s) : Int)) = true := decide_eq_true (by omega)
        have t2 : decide (0 < textF (entsOf s)) = true := decide_eq_true (by omega)
        clear hf hb4
        go_wp2_with fail
        exact bodyPost_ret (v := .tuple #[.slice none 0 0, .int .i64 4]) (by simp [results, Tryz.results15, go_sem] <;> rfl) rfl ⟨_, by rw [HF.out.1]; rfl, by rw [HF.out.2]; exact ⟨Rd.nil _ _ _ _, by simp⟩, HB4.out⟩
end Go.Proofs.YtaepdbkfaoiimabGreatDoor
/- Changes as a text: package batch computes the plain functions. Conditions: texts of at most a million bytes; the library's variable MaxLen holds an int. -/
set_option linter.unusedVariables false
set_option linter.unusedSimpArgs false
set_option linter.unnecessarySimpa false
namespace Go.Proofs.YtaepdbkfaoiimabGreatDoor
open Go.RowKit
attribute [local go_sem] bt_idx bt_wrap
set_option maxHeartbeats 4000000 in
theorem badRune_any (x : Nat) (w : World) : Calls Tryz.prog 160 #[.int .i32 (x : Int)] w fun e w' => e = .returned (.bool (!plainN x)) ∧ w' = w := by
  by_cases h : (97 ≤ x ∧ x ≤ 122) ∨ (48 ≤ x ∧ x ≤ 57)
  · rw [plainN_t h]
    by_cases h1 : x < 97
    · have t1 : decide ((x : Int) < 97) = true := decide_eq_true (by omega)
      have t3 : decide ((x : Int) < 48) = false := decide_eq_false (by omega)
      have t4 : decide ((57 : Int) < (x : Int)) = false := decide_eq_false (by omega)
      clear h
      go_enter Tryz.func160, Tryz.ntmps160
      go_wp2_with fail
      go_ret
      exact ⟨rfl, rfl⟩
    · have t1 : decide ((x : Int) < 97) = false := decide_eq_false (by omega)
      have t2 : decide ((122 : Int) < (x : Int)) = false := decide_eq_false (by omega)
      clear h
      go_enter Tryz.func160, Tryz.ntmps160
      go_wp2_with fail
      go_ret
      exact ⟨rfl, rfl⟩
  · rw [plainN_f (by omega)]
    by_cases h1 : x < 97
    · have t1 : decide ((x : Int) < 97) = true := decide_eq_true (by omega)
      by_cases h3 : x < 48
      · have t3 : decide ((x : Int) < 48) = true := decide_eq_true (by omega)
        clear h
        go_enter Tryz.func160, Tryz.ntmps160
        go_wp2_with fail
        go_ret
        exact ⟨rfl, rfl⟩
      · have t3 : decide ((x : Int) < 48) = false := decide_eq_false (by omega)
        have t4 : decide ((57 : Int) < (x : Int)) = true := decide_eq_true (by omega)
        clear h
        go_enter Tryz.func160, Tryz.ntmps160
        go_wp2_with fail
        go_ret
        exact ⟨rfl, rfl⟩
    · have t1 : decide ((x : Int) < 97) = false := decide_eq_false (by omega)
      have t2 : decide ((122 : Int) < (x : Int)) = true := decide_eq_true (by omega)
      have t3 : decide ((x : Int) < 48) = false := decide_eq_false (by omega)
      have t4 : decide ((57 : Int) < (x : Int)) = true := decide_eq_true (by omega)
      clear h
      go_enter Tryz.func160, Tryz.ntmps160
      go_wp2_with fail
      go_ret
      exact ⟨rfl, rfl⟩
theorem badRune_at (w : World) : PredAt Tryz.prog 160 #[] encR (fun x => !plainN x) w := fun W x _ =>
  (badRune_any x W).mono fun e w' ⟨he, hw⟩ => ⟨he, 0, hw⟩
theorem word_any (s : ByteArray) (w : World) :
    Calls Tryz.prog 132 #[.string s] w fun e w' => e = .returned (.bool (plainW s.data.toList)) ∧ Below w.heap.size w w' := by
  have h := Tryz.strings_ContainsFunc 160 #[] (enters_of Tryz.func160 (by kernel_rfl) rfl) (fun x => !plainN x) s w (badRune_at w)
  rw [contains_plain] at h
  have H := Lib.hid h
  clear h
  generalize plainW s.data.toList = p at *
  go_enter Tryz.func132, Tryz.ntmps132
  go_wp2_with fail
  refine H.out.mono ?_
  rintro e w1 ⟨rfl, hb⟩
  go_wp2_with fail
  go_ret
  exact ⟨ret_bool (by cases p <;> rfl), hb⟩
theorem below_cells {w w' : World} {y : Ent} {b : Nat} (hk : Blk w b 56 #[.string y.k, .string y.v, .bool y.g]) (hb : Below w.heap.size w w') : Blk w' b 56 #[.string y.k, .string y.v, .bool y.g] := hk.below hb hk.lt
set_option maxRecDepth 20000 in
set_option maxHeartbeats 8000000 in
theorem btext_any (B : Nat) (v : Value) (l : List Ent) (w : World) (hl : Ents B w v l) :
    Calls Tryz.prog 94 #[v] w fun d w' => d = .returned (.tuple #[.string (textS l), errV (textF l)]) ∧ Below w.heap.size w w' := by
  obtain ⟨A, c, rfl, hc, hc2, hcell⟩ := hl.form
  have HC := Lib.hid hcell
  clear hcell hl
  by_cases hz : l.length = 0 ∨ 4 < l.length
  · have HF := Lib.hid (textF_many hz)
    have HS := Lib.hid (textS_bad (l := l) (by rw [HF.out]; decide))
    by_cases h0 : l.length = 0
    · have t1 : ((l.length : Int) == 0) = true := by rw [h0]; rfl
      clear hz h0
      go_enter Tryz.func94, Tryz.ntmps94
      go_wp2_with fail
      exact bodyPost_ret (v := .tuple #[.string ByteArray.empty, .iface 39 (.int .i64 2)]) (by simp [results, Tryz.results94, go_sem] <;> rfl) rfl ⟨by rw [HF.out, HS.out]; rfl, Below.refl _ _⟩
    · have t1 : ((l.length : Int) == 0) = false := by rw [beq_eq_false_iff_ne]; omega
      have t2 : decide ((4 : Int) < (l.length : Int)) = true := decide_eq_true (by omega)
      clear hz h0
      go_enter Tryz.func94, Tryz.ntmps94
      go_wp2_with fail
      exact bodyPost_ret (v := .tuple #[.string ByteArray.empty, .iface 39 (.int .i64 2)]) (by simp [results, Tryz.results94, go_sem] <;> rfl) rfl ⟨by rw [HF.out, HS.out]; rfl, Below.refl _ _⟩
  have HW := Lib.hid (textF_in hz)
  have t1 : ((l.length : Int) == 0) = false := by rw [beq_eq_false_iff_ne]; omega
  have t2 : decide ((4 : Int) < (l.length : Int)) = false := decide_eq_false (by omega)
  have hl4 : l.length ≤ 4 := by omega
  have hl0 : 0 < l.length := by omega
  have HL0 := Lib.hid hl0
  clear hz hl0
  go_enter Tryz.func94, Tryz.ntmps94
  go_wp2_with fail
  go_loopw [4, 20] (fun u i wr => ∃ k : Nat, i = .int .i64 (k : Int) ∧ k ≤ l.length ∧ Hid (wr.ownsRow w.heap.size 9 1 u k (((l.take k).map chgB).map .string)) ∧ Hid (∀ x ∈ l.take k, wordF x = 0) ∧ Below w.heap.size w wr) (fun _ i _ => l.length - (intOf i).toNat)
  case atStart => exact ⟨0, rfl, Nat.zero_le _, World.ownsRow_nil _ _ _ _, fun x hx => by simp at hx, Below.refl _ _⟩
  case round =>
    obtain ⟨k, rfl, hk, hown, hok, hbl⟩ := hrel
    by_cases hlt : k < l.length
    · obtain ⟨y, hy, hty, _⟩ := getElem?_of_lt hlt
      obtain ⟨b, o, rfl, hb, c1, c2, c3⟩ := HC.out k y hy
      have d1 := (hbl.cell (p := ⟨b, o + k * 3, none⟩) hb).trans c1
      have d2 := (hbl.cell (p := ⟨b, o + k * 3 + 1, none⟩) hb).trans c2
      have d3 := (hbl.cell (p := ⟨b, o + k * 3 + 2, none⟩) hb).trans c3
      have HY := Lib.hid hy
      have HTY := Lib.hid hty
      clear c1 c2 c3 hy hty
      have g1 : (0 : Int) ≤ (k : Int) := by omega
      have g2 : (k : Int) < (l.length : Int) := by omega
      have hbs := hbl.size
      have HBS := Lib.hid hbs
      have HBA := Lib.hid (hbl.alloc hbs (.cells #[.string y.k, .string y.v, .bool y.g] 56))
      have HKA := Lib.hid (Blk.new wr 56 #[.string y.k, .string y.v, .bool y.g])
      have HOA := Lib.hid (own_alloc hown.out (.cells #[.string y.k, .string y.v, .bool y.g] 56))
      have hsA : (wr.alloc (.cells #[.string y.k, .string y.v, .bool y.g] 56)).heap.size = wr.heap.size + 1 := by simp
      have HSA := Lib.hid hsA
      clear hbl hown hsA hbs
      go_wp2_with fail
      refine (check_any y _).mono ?_
      rintro d w2 ⟨rfl, hb2⟩
      have HB2 := Lib.hid (HBA.out.trans (hb2.mono HBA.out.size))
      have HK2 := Lib.hid (below_cells HKA.out hb2)
      have HO2 := Lib.hid (own_below HOA.out hb2)
      have e0 := HK2.out.cell 0
      have e1 := HK2.out.cell 1
      have e2 := HK2.out.cell 2
      simp at e0 e1 e2
      clear d1 d2 d3 hb2 HBA HKA HOA
      generalize wr.heap.size = nb at *
      by_cases hf : faultE y = 0
      · have he : errV (faultE y) = .nilIface := by rw [hf]; rfl
        rw [he]
        have hz := faultE_zero hf
        have HF := Lib.hid hf
        have z1 : y.k.size ≤ 8 := hz.2.2.1
        have z2 : y.v.size ≤ 16 := hz.2.2.2
        clear he hz hf
        go_wp2_with fail
        refine (word_any y.k _).mono ?_
        rintro d w3 ⟨rfl, hb3⟩
        have HB3 := Lib.hid (HB2.out.trans (hb3.mono HB2.out.size))
        have HK3 := Lib.hid (below_cells HK2.out hb3)
        have HO3 := Lib.hid (own_below HO2.out hb3)
        have f0 := HK3.out.cell 0
        have f1 := HK3.out.cell 1
        have f2 := HK3.out.cell 2
        simp at f0 f1 f2
        clear e0 e1 e2 hb3 HB2 HK2 HO2
        cases hpk : plainW y.k.data.toList
        · have h3 := wordF_three HF.out (by rw [hpk]; rfl)
          have HT : Hid (textF l = 3) := by rw [Hid, HW.out, wf_at hok.out HY.out (by rw [h3]; decide), h3]
          have HS := Lib.hid (textS_bad (l := l) (by rw [HT.out]; decide))
          clear h3
          go_wp2_with fail
          exact bodyPost_ret (v := .tuple #[.string ByteArray.empty, .iface 39 (.int .i64 3)]) (by simp [results, Tryz.results94, go_sem] <;> rfl) rfl ⟨by rw [HT.out, HS.out]; rfl, HB3.out⟩
        have HPK := Lib.hid hpk
        clear hpk
        go_wp2_with fail
        refine (word_any y.v _).mono ?_
        rintro d w4 ⟨rfl, hb4⟩
        have HB4 := Lib.hid (HB3.out.trans (hb4.mono HB3.out.size))
        have HK4 := Lib.hid (below_cells HK3.out hb4)
        have HO4 := Lib.hid (own_below HO3.out hb4)
        have e0 := HK4.out.cell 0
        have e1 := HK4.out.cell 1
        have e2 := HK4.out.cell 2
        simp at e0 e1 e2
        clear f0 f1 f2 hb4 HB3 HK3 HO3
        cases hpv : plainW y.v.data.toList
        · have h3 := wordF_three HF.out (by rw [hpv]; simp)
          have HT : Hid (textF l = 3) := by rw [Hid, HW.out, wf_at hok.out HY.out (by rw [h3]; decide), h3]
          have HS := Lib.hid (textS_bad (l := l) (by rw [HT.out]; decide))
          clear h3
          go_wp2_with fail
          exact bodyPost_ret (v := .tuple #[.string ByteArray.empty, .iface 39 (.int .i64 3)]) (by simp [results, Tryz.results94, go_sem] <;> rfl) rfl ⟨by rw [HT.out, HS.out]; rfl, HB4.out⟩
        have h0 := wordF_ok HF.out HPK.out hpv
        have hok2 : Hid (∀ x ∈ l.take (k + 1), wordF x = 0) := by
          intro x hx
          rw [HTY.out] at hx
          rcases List.mem_append.1 hx with hx | hx
          · exact hok.out x hx
          · simp at hx; subst hx; exact h0
        clear h0 hok hpv
        have hchg : ∀ g : Bool, y.g = g → Hid (chgB y = if g then y.k else y.k ++ (bq ++ y.v)) := fun g hg => by subst hg; rfl
        have HNX : Hid (((l.take (k + 1)).map chgB).map Value.string = ((l.take k).map chgB).map Value.string ++ [.string (chgB y)]) := by rw [Hid, HTY.out]; simp
        obtain ⟨i0, hinf, hz0, hz1, hz2⟩ := info_parts info_strS
        have HI := Lib.hid hinf
        have Z0 := Lib.hid hz0
        have Z1 := Lib.hid hz1
        have Z2 := Lib.hid hz2
        clear hinf hz0 hz1 hz2
        have hbs4 := HB4.out.size
        have hownA : Hid (∀ cs : ByteArray, (w4.alloc (.cells #[.string cs] 9)).ownsRow w.heap.size 9 1 u4 k (((l.take k).map chgB).map .string)) := fun cs => own_alloc HO4.out _
        have hbA : Hid (∀ cs : ByteArray, Below w.heap.size w (w4.alloc (.cells #[.string cs] 9))) := fun cs => HB4.out.alloc HB4.out.size _
        cases hg : y.g
        · have HCH := hchg false hg
          rw [hg] at e2
          have sq : (⟨#[61]⟩ : ByteArray).size = 1 := rfl
          have s2 : ((⟨#[61]⟩ : ByteArray) ++ y.v).size = 1 + y.v.size := by rw [ByteArray.size_append]; rfl
          clear hchg hg
          go_wp2_with (at_builtin; go_loud (refine wpList_append_rd _ rfl (.tmp 54) (.tmp 56) 22 rfl w.heap.size 9 i0 _ 1 16 Tryz.underlying22 HI.out Z0.out Z1.out Z2.out rfl (by decide) u4 _ _ rfl (hownA.out _) B 9 _ 1 _ rfl (rd_lit1S _ _ _ rfl _) (by simp [Value.oneCell']) (by unfold maxLen; omega) (by omega) (by simp; omega) ?_); intro v1 w5 hown1 hg1 hat1)
          have hown2 : Hid (w5.ownsRow w.heap.size 9 1 v1 (k + 1) (((l.take (k + 1)).map chgB).map .string)) := by
            rw [Hid, HNX.out, HCH.out]; exact hown1
          have hb5 := below_own (hbA.out _) (Nat.le_refl _) (hownA.out _) hg1
          clear hg1 hat1 hown1
          go_roundw
          case rel => exact ⟨k + 1, by go_num, by omega, hown2, hok2, hb5⟩
          case measure => simp [intOf] <;> omega
        · have HCH := hchg true hg
          rw [hg] at e2
          clear hchg hg
          go_wp2_with (at_builtin; go_loud (refine wpList_append_rd _ rfl (.tmp 54) (.tmp 56) 22 rfl w.heap.size 9 i0 _ 1 16 Tryz.underlying22 HI.out Z0.out Z1.out Z2.out rfl (by decide) u4 _ _ rfl (hownA.out _) B 9 _ 1 _ rfl (rd_lit1S _ _ _ rfl _) (by simp [Value.oneCell']) (by unfold maxLen; omega) (by omega) (by simp; omega) ?_); intro v1 w5 hown1 hg1 hat1)
          have hown2 : Hid (w5.ownsRow w.heap.size 9 1 v1 (k + 1) (((l.take (k + 1)).map chgB).map .string)) := by
            rw [Hid, HNX.out, HCH.out]; exact hown1
          have hb5 := below_own (hbA.out _) (Nat.le_refl _) (hownA.out _) hg1
          clear hg1 hat1 hown1
          go_roundw
          case rel => exact ⟨k + 1, by go_num, by omega, hown2, hok2, hb5⟩
          case measure => simp [intOf] <;> omega
      · have h3 := wordF_fault hf
        have HT : Hid (textF l = faultE y) := by rw [Hid, HW.out, wf_at hok.out HY.out (by rw [h3]; exact hf), h3]
        have HS := Lib.hid (textS_bad (l := l) (by rw [HT.out]; exact hf))
        have he : errV (faultE y) = .iface 39 (.int .i64 (faultE y)) := by unfold errV; rw [if_neg hf]
        rw [he]
        have HE := Lib.hid he
        clear he h3 hok hf
        go_wp2_with fail
        exact bodyPost_ret (v := .tuple #[.string ByteArray.empty, .iface 39 (.int .i64 (faultE y))]) (by simp [results, Tryz.results94, go_sem] <;> rfl) rfl ⟨by rw [HT.out, HS.out, HE.out], HB2.out⟩
    · have hkl : k = l.length := by omega
      subst hkl
      have HT : Hid (textF l = 0) := by
        rw [Hid, HW.out]
        have h := hok.out
        rw [List.take_length] at h
        exact wf_zero.2 h
      have HLEN := chgs_len (by have h := hok.out; rwa [List.take_length] at h)
      rw [List.take_length] at hown
      have hr := Rd.of_own (B := 0) hown.out
      obtain ⟨hr1, A', c', rfl, hr3, hr4, hr5⟩ := hr
      obtain ⟨b', o', rfl, _, hb', hcc⟩ := hr5 HL0.out
      have hlm : (l.map chgB).length = l.length := List.length_map _
      have hj := Tryz.strings_Join b' o' c' (l.map chgB) ⟨#[32]⟩ wr (fun j x hx => hcc j _ (by rw [List.getElem?_map, hx]; rfl)) hb' (by omega) (by omega) (by
        rw [List.map_map]
        have e : l.map ((fun x : ByteArray => x.data.toList) ∘ chgB) = l.map chg := List.map_congr_left fun e _ => chgB_data e
        rw [e]
        have : (chgs l).length ≤ 140737488355328 := by omega
        exact this)
      have e : (l.map chgB).map (fun x => x.data.toList) = l.map chg := by
        rw [List.map_map]
        exact List.map_congr_left fun e _ => chgB_data e
      rw [hlm, e] at hj
      have HS : Hid (textS l = ⟨(Lib.join (l.map chg) [32]).toArray⟩) := if_pos HT.out
      have HJ := Lib.hid hj
      clear hj e hlm hcc hr1 hr3 hr4 hr5 hown hok HLEN
      go_wp2_with fail
      refine HJ.out.mono ?_
      rintro d w3 ⟨rfl, hb3⟩
      have HB3 := Lib.hid (hbl.trans (hb3.mono hbl.size))
      clear hb3
      go_wp2_with fail
      exact bodyPost_ret (v := .tuple #[.string ⟨(Lib.join (l.map chg) [32]).toArray⟩, .nilIface]) (by simp [results, Tryz.results94, go_sem] <;> rfl) rfl ⟨by rw [HT.out, HS.out]; rfl, HB3.out⟩
end Go.Proofs.YtaepdbkfaoiimabGreatDoor
/- Changes as a text: batch.Parse computes the plain function. Conditions: texts of at most a million bytes; the library's variable MaxLen holds an int. -/
set_option linter.unusedVariables false
set_option linter.unusedSimpArgs false
set_option linter.unnecessarySimpa false
namespace Go.Proofs.YtaepdbkfaoiimabGreatDoor
open Go.RowKit
/-- The library's variable MaxLen holds an int. -/
def MaxL (w : World) : Prop := ∃ m : Int, w.cell? ⟨2, 0, none⟩ = some (.int .i64 m)
theorem MaxL.below {w w' : World} (h : MaxL w) (hb : Below w.heap.size w w') : MaxL w' := by
  obtain ⟨m, hm⟩ := h
  exact ⟨m, (hb.cell (cell_lt hm)).trans hm⟩
theorem MaxL.drewN {w : World} (h : MaxL w) (n : Nat) : MaxL (w.drewN n) := h
theorem map_data_inj : ∀ {xs ys : List ByteArray}, xs.map (fun x => x.data.toList) = ys.map (fun x => x.data.toList) → xs = ys
  | [], [], _ => rfl
  | [], _ :: _, h => by simp at h
  | _ :: _, [], h => by simp at h
  | x :: xs, y :: ys, h => by
    rw [List.map_cons, List.map_cons] at h
    injection h with h1 h2
    rw [b_eq h1, map_data_inj h2]
theorem split_splB (s : ByteArray) : Lib.splitB bsp 0 (Lib.countB s bsp) s = splB s := map_data_inj ((split_words s).trans (splB_data s).symm)
theorem psplit_any (B : Nat) (s : ByteArray) (w : World) (hs : s.size ≤ 1000000) (hm : MaxL w) :
    Calls Tryz.prog 26 #[.string s, .string ⟨#[32]⟩] w fun e w' => ∃ v, e = .returned v ∧ Strs B w' v (splB s) ∧ Below w.heap.size w w' := by
  obtain ⟨m, hm⟩ := hm
  refine (Tryz.strings_Split s ⟨#[32]⟩ m w (by omega) hm (by decide)).mono ?_
  rintro e w' ⟨rfl, rfl⟩
  have hlen := Lib.splitB_all bsp (by decide) 0 _ s rfl
  have e1 : Lib.countB s ⟨#[32]⟩ + 1 = (splB s).length := by rw [← split_splB]; exact hlen.symm
  have e2 : Lib.splitB ⟨#[32]⟩ 0 (Lib.countB s ⟨#[32]⟩) s = splB s := split_splB s
  rw [e1, e2]
  have hn := splB_len s
  have hb := Blk.new w 9 ((splB s).map Value.string).toArray
  refine ⟨_, rfl, ⟨⟨by simp, _, _, rfl, Nat.le_refl _, by omega, fun _ => ⟨_, _, rfl, .inr ⟨_, _, hb⟩, hb.lt, fun j u hu => ?_⟩⟩, fun x hx => by have := splB_sub hx; omega⟩, (Below.refl _ _).alloc (Nat.le_refl _) _⟩
  rw [hb.cell, Nat.zero_add]
  simpa using hu
theorem pcut_any (x : ByteArray) (w : World) (hs : x.size ≤ 1000000) (hm : MaxL w) :
    Calls Tryz.prog 93 #[.string x, .string ⟨#[61]⟩] w fun e w' => e = .returned (.tuple #[.string (entW x.data.toList).k, .string (entW x.data.toList).v, .bool (!(entW x.data.toList).g)]) ∧ ∃ n, w.drewN n = w' := by
  obtain ⟨m, hm⟩ := hm
  refine (Tryz.strings_Cut x ⟨#[61]⟩ m w (by omega) hm).mono ?_
  rintro e w' ⟨rfl, n, rfl⟩
  refine ⟨?_, n, rfl⟩
  rw [entW_cut]
  simp only [Bool.not_not]
  rfl
set_option maxRecDepth 20000 in
set_option maxHeartbeats 8000000 in
theorem bparse_any (B : Nat) (s : ByteArray) (w : World) (hs : s.size ≤ 1000000) (hm : MaxL w) :
    Calls Tryz.prog 55 #[.string s] w fun d w' => ∃ v, d = .returned (.tuple #[v, errV (ofF s)]) ∧ Ents B w' v (ofL s) ∧ Below w.heap.size w w' := by
  have HM := Lib.hid hm
  clear hm
  go_enter Tryz.func55, Tryz.ntmps55
  go_wp2_with fail
  refine (psplit_any B s _ hs HM.out).mono ?_
  rintro d w1 ⟨v1, rfl, hv1, hb1⟩
  obtain ⟨A, c, rfl, hc, hc2, hcell⟩ := hv1.form
  have hn := splB_len s
  have HSUB : Hid (∀ x ∈ splB s, x.size ≤ s.size) := fun x hx => splB_sub hx
  have HE : Hid (entsOf s = wEnts (splB s)) := entsOf_splB s
  have HC := Lib.hid hcell
  have HB1 := Lib.hid hb1
  have HM1 := Lib.hid (HM.out.below hb1)
  have HOK := Lib.hid (entsOf_ok hs)
  generalize splB s = xs at *
  clear hcell hb1 hv1
  go_wp2_with fail
  go_loopw [4, 15] (fun u i wr => ∃ k : Nat, i = .int .i64 (k : Int) ∧ k ≤ xs.length ∧ Hid (wr.ownsRow w1.heap.size 56 3 u k ((wEnts (xs.take k)).flatMap Ent.cells)) ∧ Below w1.heap.size w1 wr) (fun _ i _ => xs.length - (intOf i).toNat)
  case atStart => exact ⟨0, rfl, Nat.zero_le _, World.ownsRow_nil _ _ _ _, Below.refl _ _⟩
  case round =>
    obtain ⟨k, rfl, hk, hown, hbl⟩ := hrel
    have hbs := hbl.size
    by_cases hlt : k < xs.length
    · obtain ⟨x, hx, htk, _⟩ := getElem?_of_lt hlt
      obtain ⟨b, o, rfl, hb, c1⟩ := HC.out k x hx
      have d1 := (hbl.cell (p := ⟨b, o + k, none⟩) hb).trans c1
      have hxs := HSUB.out x (List.mem_of_getElem? hx)
      have HNX : Hid (wEnts (xs.take (k + 1)) = wEnts (xs.take k) ++ [entW x.data.toList]) := wEnts_next htk
      have g1 : (0 : Int) ≤ (k : Int) := by omega
      have g2 : (k : Int) < (xs.length : Int) := by omega
      have HMR := Lib.hid (HM1.out.below hbl)
      clear hx htk c1
      obtain ⟨i0, hinf, hz0, hz1, hz2⟩ := info_parts info_entry
      have HI := Lib.hid hinf
      have Z0 := Lib.hid hz0
      have Z1 := Lib.hid hz1
      have Z2 := Lib.hid hz2
      clear hinf hz0 hz1 hz2
      go_wp2_with fail
      refine (pcut_any x _ (by omega) HMR.out).mono ?_
      rintro d w2 ⟨rfl, n2, rfl⟩
      have HB3 := Lib.hid (below_drewN' hbl n2)
      have HO3 := Lib.hid (own_drewN hown.out n2)
      generalize wr.drewN n2 = w3 at *
      clear hown hbl hbs d1
      generalize entW x.data.toList = y at *
      have hbs3 := HB3.out.size
      have hownA := Lib.hid (own_alloc HO3.out (.cells #[.string y.k, .string y.v, .bool y.g] 56))
      have hbA := Lib.hid (HB3.out.alloc hbs3 (.cells #[.string y.k, .string y.v, .bool y.g] 56))
      go_wp2_with (at_builtin; go_loud (refine wpList_append_rd _ rfl (.tmp 25) (.tmp 31) 31 rfl w1.heap.size 56 i0 _ 3 40 Tryz.underlying31 HI.out Z0.out Z1.out Z2.out rfl (by decide) u4 _ _ rfl hownA.out B 56 _ 1 _ rfl (rd_lit3 _ _ _ rfl _ _ _) (ent_one3 _ _ _) (by unfold maxLen; omega) (by omega) (by simp; omega) ?_); intro v1' w5 hown1 hg1 hat1)
      have hown2 : Hid (w5.ownsRow w1.heap.size 56 3 v1' (k + 1) ((wEnts (xs.take (k + 1))).flatMap Ent.cells)) := by
        rw [Hid, HNX.out, List.flatMap_append]
        simpa [Ent.cells] using hown1
      have hb5 := below_own hbA.out (Nat.le_refl _) hownA.out hg1
      clear hg1 hat1 hown1
      go_roundw
      case rel => exact ⟨k + 1, by go_num, by omega, hown2, hb5⟩
      case measure => simp [intOf] <;> omega
    · have hge : k = xs.length := by omega
      subst hge
      rw [List.take_length] at hown
      have hents : Ents B wr u4 (entsOf s) := ⟨by have := Rd.of_own (B := B) hown.out; rw [HE.out]; unfold wEnts at this ⊢; rw [List.length_map]; exact this, HOK.out⟩
      have HEN := Lib.hid hents
      clear hents
      go_wp2_with fail
      refine (btext_any B _ (entsOf s) _ HEN.out).mono ?_
      rintro d w4 ⟨rfl, hb4⟩
      have HB4 := Lib.hid (HB1.out.trans ((hbl.mono HB1.out.size).trans (hb4.mono (by have := HB1.out.size; omega))))
      by_cases hf : textF (entsOf s) = 0
      · have HF : Hid (ofF s = 0 ∧ ofL s = entsOf s) := by
          unfold ofF ofL
          rw [if_pos hf, if_pos hf]
          exact ⟨rfl, rfl⟩
        have he : errV (textF (entsOf s)) = .nilIface := by rw [hf]; rfl
        rw [he, text_entsOf s hf]
        have HEN4 := Lib.hid (HEN.out.below hb4)
        clear hf hb4 he
        go_wp2_with fail
        exact bodyPost_ret (v := .tuple #[u4, .nilIface]) (by simp [results, Tryz.results55, go_sem] <;> rfl) rfl ⟨_, by rw [HF.out.1]; rfl, by rw [HF.out.2]; exact HEN4.out, HB4.out⟩
      · have HF : Hid (ofF s = 4 ∧ ofL s = []) := by
          unfold ofF ofL
          rw [if_neg hf, if_neg hf]
          exact ⟨rfl, rfl⟩
        have he : errV (textF (entsOf s)) = .iface 39 (.int .i64 (textF (entsOf s))) := by unfold errV; rw [if_neg hf]
        rw [he]
        generalize textS (entsOf s) = ts
        generalize textF (entsOf s) = tf at *
        clear hf hb4 he
        go_wp2_with fail
        exact bodyPost_ret (v := .tuple #[.slice none 0 0, .iface 39 (.int .i64 4)]) (by simp [results, Tryz.results55, go_sem] <;> rfl) rfl ⟨_, by rw [HF.out.1]; rfl, by rw [HF.out.2]; exact ⟨Rd.nil _ _ _ _, by simp⟩, HB4.out⟩
end Go.Proofs.YtaepdbkfaoiimabGreatDoor
