/- Changes as a text: what its functions compute, in plain words. No program in sight; conditions: none. -/
import Derived.Test.YtaepdbkfaoiimabDoorEntry
import Derived.Test.YtaepdbkfaoiimabDoorWord
import Derived.WideShapes
set_option linter.unusedVariables false
set_option linter.unusedSimpArgs false
namespace Go.Proofs.YtaepdbkfaoiimabDoor
theorem b_toList (s : ByteArray) : s.toList = s.data.toList := ByteArray.toList_eq s
theorem b_eq {a b : ByteArray} (h : a.data.toList = b.data.toList) : a = b := ByteArray.ext (Array.toList_inj.1 h)
theorem b_app (a b : ByteArray) : (a ++ b).data.toList = a.data.toList ++ b.data.toList := by
  rw [ByteArray.data_append, Array.toList_append]
theorem b_ext (s : ByteArray) (a b : Nat) : (s.extract a b).data.toList = (s.data.toList.drop a).take (b - a) := by
  rw [ByteArray.data_extract, Array.toList_extract]
def bq : ByteArray := ⟨#[61]⟩
def bsp : ByteArray := ⟨#[32]⟩
/-! ### a change as a text; what is wrong with changes -/
def wordF (e : Ent) : Nat := if faultE e = 0 then (if plainW e.k.data.toList && plainW e.v.data.toList then 0 else 3) else faultE e
def wf : List Ent → Nat
  | [] => 0
  | e :: l => if wordF e = 0 then wf l else wordF e
def textF (l : List Ent) : Nat := if l.length = 0 ∨ 4 < l.length then 2 else wf l
def chg (e : Ent) : List UInt8 := chgT e.k.data.toList e.v.data.toList e.g
def chgB (e : Ent) : ByteArray := if e.g then e.k else e.k ++ (bq ++ e.v)
theorem chgB_data (e : Ent) : (chgB e).data.toList = chg e := by
  unfold chgB chg chgT
  split
  · rfl
  · rw [b_app, b_app]; rfl
def chgs (l : List Ent) : List UInt8 := Lib.join (l.map chg) [32]
def textS (l : List Ent) : ByteArray := if textF l = 0 then ⟨(chgs l).toArray⟩ else ByteArray.empty
theorem wf_zero : ∀ {l : List Ent}, wf l = 0 ↔ ∀ e ∈ l, wordF e = 0
  | [] => by simp [wf]
  | e :: l => by
    rw [wf]
    split
    · rename_i h; rw [wf_zero]; simp [h]
    · rename_i h; simp [h]
theorem wf_at {l : List Ent} {k : Nat} {e : Ent} (h1 : ∀ x ∈ l.take k, wordF x = 0) (h2 : l[k]? = some e) (h3 : wordF e ≠ 0) : wf l = wordF e := by
  induction l generalizing k with
  | nil => simp at h2
  | cons x l ih =>
    rw [wf]
    cases k with
    | zero => simp at h2; subst h2; rw [if_neg h3]
    | succ k =>
      rw [if_pos (h1 x (by simp))]
      exact ih (k := k) (fun y hy => h1 y (by simp [hy])) (by simpa using h2)
theorem wordF_zero {e : Ent} (h : wordF e = 0) : faultE e = 0 ∧ plainW e.k.data.toList = true ∧ plainW e.v.data.toList = true := by
  unfold wordF at h
  split at h
  · rename_i h0
    split at h
    · rename_i h1
      simp only [Bool.and_eq_true] at h1
      exact ⟨h0, h1.1, h1.2⟩
    · omega
  · rename_i h0; exact absurd h h0
theorem join_snoc (xs : List (List UInt8)) (x sep : List UInt8) (h : xs ≠ []) : Lib.join (xs ++ [x]) sep = Lib.join xs sep ++ sep ++ x := by
  cases xs with
  | nil => exact absurd rfl h
  | cons y r =>
    rw [List.cons_append, Lib.join_cons, Lib.join_cons, Lib.joinTail, Lib.joinTail]
    simp [List.append_assoc]
theorem chgs_snoc (l : List Ent) (e : Ent) (h : l ≠ []) : chgs (l ++ [e]) = chgs l ++ [32] ++ chg e := by
  unfold chgs
  rw [List.map_append, List.map_cons, List.map_nil, join_snoc _ _ _ (by simpa using h)]
theorem chgs_one (e : Ent) : chgs [e] = chg e := Lib.join_one _ _
theorem chg_len {e : Ent} (h : wordF e = 0) : (chg e).length ≤ 25 := by
  have h1 := faultE_zero (wordF_zero h).1
  have h2 := h1.2.2
  have hk : e.k.data.toList.length = e.k.size := Array.length_toList
  have hv : e.v.data.toList.length = e.v.size := Array.length_toList
  unfold chg chgT
  split
  · omega
  · simp only [List.length_append, List.length_cons]; omega
theorem chgs_len {l : List Ent} (h : ∀ e ∈ l, wordF e = 0) : (chgs l).length ≤ 26 * l.length := by
  induction l using snoc_ind with
  | h0 => exact Nat.le_refl _
  | h1 l x ih =>
    have hx := chg_len (h x (by simp))
    have h1 := ih fun e he => h e (by simp [he])
    by_cases hl : l = []
    · subst hl
      rw [List.nil_append, chgs_one]
      simp; omega
    · rw [chgs_snoc _ _ hl]
      simp only [List.length_append, List.length_cons, List.length_nil]
      omega
/-! ### a text as changes -/
def entW (w : List UInt8) : Ent := ⟨⟨(cutE w).1.toArray⟩, ⟨(cutE w).2.1.toArray⟩, !(cutE w).2.2⟩
def entsOf (s : ByteArray) : List Ent := (spl s.data.toList).map entW
def ofF (s : ByteArray) : Nat := if textF (entsOf s) = 0 then 0 else 4
def ofL (s : ByteArray) : List Ent := if textF (entsOf s) = 0 then entsOf s else []
theorem chg_entW (w : List UInt8) : chg (entW w) = w := cutE_back w
theorem entsOf_ne (s : ByteArray) : entsOf s ≠ [] := by
  unfold entsOf
  intro h
  exact spl_ne _ (List.map_eq_nil_iff.1 h)
/-- What was taken apart is the text again. -/
theorem chgs_entsOf (s : ByteArray) : (⟨(chgs (entsOf s)).toArray⟩ : ByteArray) = s := by
  apply b_eq
  have e : (entsOf s).map chg = spl s.data.toList := by
    unfold entsOf
    rw [List.map_map]
    exact (List.map_congr_left fun w _ => chg_entW w).trans (List.map_id _)
  show (chgs (entsOf s)).toArray.toList = _
  unfold chgs
  rw [e, join_spl]
theorem text_entsOf (s : ByteArray) (h : textF (entsOf s) = 0) : textS (entsOf s) = s := by
  unfold textS
  rw [if_pos h]
  exact chgs_entsOf s
/-- Changes that may be written are read again. -/
theorem entsOf_text {l : List Ent} (h : textF l = 0) : entsOf (textS l) = l := by
  have hne : l ≠ [] := by
    rintro rfl
    simp [textF] at h
  have hw : wf l = 0 := by
    unfold textF at h
    split at h
    · omega
    · exact h
  have hall := wf_zero.1 hw
  unfold textS entsOf
  rw [if_pos h]
  show (spl (chgs l)).map entW = l
  unfold chgs
  have hno : ∀ x ∈ l.map chg, (32 : UInt8) ∉ x := by
    intro x hx
    obtain ⟨e, he, rfl⟩ := List.mem_map.1 hx
    obtain ⟨_, h1, h2⟩ := wordF_zero (hall e he)
    have k1 := plainW_not h1 (b := 32) (by decide)
    have k2 := plainW_not h2 (b := 32) (by decide)
    unfold chg chgT
    split
    · exact k1
    · intro hm
      rcases List.mem_append.1 hm with hm | hm
      · exact k1 hm
      · rcases List.mem_cons.1 hm with hm | hm
        · exact absurd hm (by decide)
        · exact k2 hm
  rw [spl_join _ (by simpa using hne) hno, List.map_map]
  refine (List.map_congr_left fun e he => ?_).trans (List.map_id _)
  obtain ⟨h0, h1, h2⟩ := wordF_zero (hall e he)
  have hg := (faultE_zero h0).2.1
  show entW (chg e) = e
  unfold entW chg
  rw [cutE_chg (plainW_not h1 (by decide)) (fun g => by rw [← b_toList]; exact hg g)]
  obtain ⟨k, v, g⟩ := e
  simp
theorem ofL_text {l : List Ent} (h : textF l = 0) : ofF (textS l) = 0 ∧ ofL (textS l) = l := by
  have e := entsOf_text h
  unfold ofF ofL
  rw [e, if_pos h, if_pos h]
  exact ⟨rfl, rfl⟩
/-! ### the kit's words for splitting and cutting -/
theorem split_words (s : ByteArray) : (Lib.splitB bsp 0 (Lib.countB s bsp) s).map (fun x => x.data.toList) = spl s.data.toList := (Lib.splitB_data bsp 0 _ s).trans (split_spl _)
theorem entW_cut (w : ByteArray) : entW w.data.toList = ⟨⟨(Lib.cut w.data.toList bq.data.toList).1.toArray⟩, ⟨(Lib.cut w.data.toList bq.data.toList).2.1.toArray⟩, !(Lib.cut w.data.toList bq.data.toList).2.2⟩ := by
  have e : Lib.cut w.data.toList bq.data.toList = cutE w.data.toList := cut_cutE _
  rw [e]; rfl
/-! ### the reference's loops -/
theorem cutE_none : ∀ {w : List UInt8}, (61 : UInt8) ∉ w → cutE w = (w, [], false)
  | [], _ => rfl
  | b :: w, h => by
    rw [cutE, if_neg (fun e => h (by simp [e])), cutE_none (fun e => h (List.mem_cons_of_mem _ e))]
theorem cutE_at {w : List UInt8} {k : Nat} (h : (61 : UInt8) ∉ w.take k) (hk : w[k]? = some 61) : cutE w = (w.take k, w.drop (k + 1), true) := by
  induction w generalizing k with
  | nil => simp at hk
  | cons b w ih =>
    cases k with
    | zero => simp at hk; subst hk; simp [cutE]
    | succ k =>
      rw [cutE, if_neg (fun e => h (by simp [e])), ih (k := k) (fun e => h (by simp [e])) (by simpa using hk)]
      simp
theorem spl_at {l : List UInt8} {a i : Nat} (ha : a ≤ i) (h : (32 : UInt8) ∉ (l.drop a).take (i - a)) (hi : l[i]? = some 32) : spl (l.drop a) = (l.drop a).take (i - a) :: spl (l.drop (i + 1)) := by
  have hlt : i < l.length := by
    rcases Nat.lt_or_ge i l.length with h | h
    · exact h
    · rw [List.getElem?_eq_none h] at hi; cases hi
  have e : l.drop a = (l.drop a).take (i - a) ++ ([32] ++ l.drop (i + 1)) := by
    conv => lhs; rw [← List.take_append_drop (i - a) (l.drop a)]
    congr 1
    rw [List.drop_drop, show a + (i - a) = i by omega, List.drop_eq_getElem_cons hlt]
    rw [List.getElem?_eq_getElem hlt] at hi
    rw [Option.some.inj hi]; rfl
  conv => lhs; rw [e]
  exact spl_two h _ rfl
theorem take_step {l : List UInt8} {a i : Nat} {b c : UInt8} (ha : a ≤ i) (h : c ∉ (l.drop a).take (i - a)) (hi : l[i]? = some b) (hb : b ≠ c) : c ∉ (l.drop a).take (i + 1 - a) := by
  rw [show i + 1 - a = (i - a) + 1 by omega, List.take_add_one]
  intro hm
  rcases List.mem_append.1 hm with hm | hm
  · exact h hm
  · rw [List.getElem?_drop, show a + (i - a) = i by omega, hi] at hm
    simp at hm
    exact hb hm.symm
end Go.Proofs.YtaepdbkfaoiimabDoor
