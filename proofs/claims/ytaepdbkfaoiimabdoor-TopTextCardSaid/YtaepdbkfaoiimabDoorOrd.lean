/- Lists of entries: put together, put in, asked; the plain laws, with no program in sight. Conditions: none but those that each law names. -/
import Derived.Test.YtaepdbkfaoiimabDoorBase
import Derived.Laws.StructEq
set_option linter.unusedVariables false
set_option linter.unusedSimpArgs false
namespace Go.Proofs.YtaepdbkfaoiimabDoor
open Go.RowKit

/-- One text is below another one. -/
def ltB (a b : ByteArray) : Bool := Op.bytesLess a.toList b.toList

/-- Two lists that rise: of a key that both have the first one's counts. -/
def merge2 : List Ent → List Ent → List Ent
  | [], ys => ys
  | x :: xs, [] => x :: xs
  | x :: xs, y :: ys =>
    if ltB x.k y.k then x :: merge2 xs (y :: ys)
    else if ltB y.k x.k then y :: merge2 (x :: xs) ys
    else x :: merge2 xs ys
termination_by xs ys => xs.length + ys.length


theorem mem_merge2 (e : Ent) : ∀ (n : Nat) (xs ys : List Ent), xs.length + ys.length ≤ n → e ∈ merge2 xs ys → e ∈ xs ∨ e ∈ ys := by
  intro n
  induction n with
  | zero =>
    intro xs ys h
    have h1 : xs = [] := List.eq_nil_of_length_eq_zero (by omega)
    have h2 : ys = [] := List.eq_nil_of_length_eq_zero (by omega)
    subst h1; subst h2
    simp [merge2]
  | succ n ih =>
    intro xs ys h
    match xs, ys with
    | [], ys => simp [merge2]
    | x :: xs, [] => simp [merge2]
    | x :: xs, y :: ys =>
      simp only [List.length_cons] at h
      rw [merge2]
      split
      · intro he
        rcases List.mem_cons.1 he with rfl | he
        · simp
        · rcases ih xs (y :: ys) (by simp; omega) he with h | h
          · simp [h]
          · exact .inr h
      · split
        · intro he
          rcases List.mem_cons.1 he with rfl | he
          · simp
          · rcases ih (x :: xs) ys (by simp; omega) he with h | h
            · exact .inl h
            · simp [h]
        · intro he
          rcases List.mem_cons.1 he with rfl | he
          · simp
          · rcases ih xs ys (by omega) he with h | h <;> simp [h]
theorem merge2_len : ∀ (n : Nat) (xs ys : List Ent), xs.length + ys.length ≤ n → (merge2 xs ys).length ≤ xs.length + ys.length := by
  intro n
  induction n with
  | zero =>
    intro xs ys h
    have h1 : xs = [] := List.eq_nil_of_length_eq_zero (by omega)
    have h2 : ys = [] := List.eq_nil_of_length_eq_zero (by omega)
    subst h1; subst h2
    simp [merge2]
  | succ n ih =>
    intro xs ys h
    match xs, ys with
    | [], ys => simp [merge2]
    | x :: xs, [] => simp [merge2]
    | x :: xs, y :: ys =>
      simp only [List.length_cons] at h
      rw [merge2]
      split
      · have := ih xs (y :: ys) (by simp; omega); simp at this ⊢; omega
      · split
        · have := ih (x :: xs) ys (by simp; omega); simp at this ⊢; omega
        · have := ih xs ys (by omega); simp at this ⊢; omega
theorem ok_merge2 {xs ys : List Ent} (hx : ∀ e ∈ xs, EntOk e) (hy : ∀ e ∈ ys, EntOk e) : ∀ e ∈ merge2 xs ys, EntOk e := fun e he =>
  (mem_merge2 e _ xs ys (Nat.le_refl _) he).elim (hx e) (hy e)


def mergeAll (ls : List (List Ent)) : List Ent := ls.foldr merge2 []
def sumLen (ls : List (List Ent)) : Nat := (ls.map List.length).sum
theorem mergeAll_len (ls : List (List Ent)) : (mergeAll ls).length ≤ sumLen ls := by
  induction ls with
  | nil => simp [mergeAll, sumLen]
  | cons l ls ih =>
    have := merge2_len _ l (mergeAll ls) (Nat.le_refl _)
    simp only [mergeAll, sumLen, List.foldr_cons, List.map_cons, List.sum_cons] at *
    omega
theorem sumLen_drop (ls : List (List Ent)) (k : Nat) : sumLen (ls.drop k) ≤ sumLen ls := by
  induction ls generalizing k with
  | nil => simp [sumLen]
  | cons l ls ih =>
    cases k with
    | zero => simp
    | succ k => have := ih k; simp only [sumLen, List.drop_succ_cons, List.map_cons, List.sum_cons] at *; omega
theorem sumLen_mem {ls : List (List Ent)} {l : List Ent} (h : l ∈ ls) : l.length ≤ sumLen ls := by
  induction ls with
  | nil => cases h
  | cons a ls ih =>
    simp only [sumLen, List.map_cons, List.sum_cons] at *
    rcases List.mem_cons.1 h with rfl | h
    · omega
    · have := ih h; omega


def liveE (l : List Ent) : List Ent := l.filter (fun e => !e.g)
theorem liveE_len (l : List Ent) : (liveE l).length ≤ l.length := List.length_filter_le _ _
theorem liveE_snoc (l : List Ent) (e : Ent) : liveE (l ++ [e]) = if e.g then liveE l else liveE l ++ [e] := by
  cases h : e.g <;> simp [liveE, List.filter_append, h]


/-- What a list has of a key. -/
def getE (l : List Ent) (key : ByteArray) : Option Ent := l.find? (fun e => decide (e.k = key))

def leB (a b : ByteArray) : Bool := Op.bytesLess a.toList b.toList || a.toList == b.toList
def putStep (e : Ent) (s : List Ent × Bool) (x : Ent) : List Ent × Bool :=
  let s1 := if !s.2 && leB e.k x.k then (s.1 ++ [e], true) else s
  if x.k = e.k then s1 else (s1.1 ++ [x], s1.2)
def putE (l : List Ent) (e : Ent) : List Ent :=
  let s := l.foldl (putStep e) ([], false)
  if s.2 then s.1 else s.1 ++ [e]
theorem putFold_len (e : Ent) (l : List Ent) : (l.foldl (putStep e) ([], false)).1.length ≤ l.length + (if (l.foldl (putStep e) ([], false)).2 then 1 else 0) := by
  induction l using snoc_ind with
  | h0 => simp
  | h1 l x ih =>
    rw [List.foldl_append, List.foldl_cons, List.foldl_nil]
    generalize l.foldl (putStep e) ([], false) = s at ih ⊢
    obtain ⟨zs, ld⟩ := s
    unfold putStep
    generalize leB e.k x.k = t
    by_cases hk : x.k = e.k
    · cases ld <;> cases t <;> simp [hk] at ih ⊢ <;> omega
    · cases ld <;> cases t <;> simp [hk] at ih ⊢ <;> omega
theorem putE_len (l : List Ent) (e : Ent) : (putE l e).length ≤ l.length + 1 := by
  have := putFold_len e l
  unfold putE
  generalize l.foldl (putStep e) ([], false) = s at this ⊢
  obtain ⟨zs, ld⟩ := s
  cases ld <;> simp at this ⊢ <;> omega
theorem putFold_ok (e : Ent) (he : EntOk e) (l : List Ent) (hl : ∀ x ∈ l, EntOk x) : ∀ x ∈ (l.foldl (putStep e) ([], false)).1, EntOk x := by
  induction l using snoc_ind with
  | h0 => simp
  | h1 l x ih =>
    rw [List.foldl_append, List.foldl_cons, List.foldl_nil]
    have ih' := ih (fun y hy => hl y (by simp [hy]))
    have hx := hl x (by simp)
    generalize l.foldl (putStep e) ([], false) = s at ih' ⊢
    obtain ⟨zs, ld⟩ := s
    intro y hy
    simp only [putStep] at hy
    split at hy <;> split at hy
    · simp at hy; rcases hy with h | rfl
      · exact ih' y h
      · exact he
    · exact ih' y hy
    · simp at hy; rcases hy with h | rfl | rfl
      · exact ih' y h
      · exact he
      · exact hx
    · simp at hy; rcases hy with h | rfl
      · exact ih' y h
      · exact hx
theorem putE_ok (l : List Ent) (e : Ent) (he : EntOk e) (hl : ∀ x ∈ l, EntOk x) : ∀ x ∈ putE l e, EntOk x := by
  have := putFold_ok e he l hl
  unfold putE
  generalize l.foldl (putStep e) ([], false) = s at this ⊢
  intro y hy
  simp only at hy
  split at hy
  · exact this y hy
  · simp at hy; rcases hy with h | rfl
    · exact this y h
    · exact he


/-! ### the order of texts -/
theorem bl_irrefl : ∀ x : List UInt8, Op.bytesLess x x = false
  | [] => rfl
  | a :: x => by simp [Op.bytesLess, bl_irrefl x]
theorem bl_trans : ∀ x y z : List UInt8, Op.bytesLess x y = true → Op.bytesLess y z = true → Op.bytesLess x z = true
  | _, [], _, h, _ => by simp [Op.bytesLess] at h
  | _, _ :: _, [], _, h => by simp [Op.bytesLess] at h
  | [], _ :: _, _ :: _, _, _ => rfl
  | a :: x, b :: y, c :: z, h1, h2 => by
    simp only [Op.bytesLess, Bool.or_eq_true, Bool.and_eq_true, decide_eq_true_eq, beq_iff_eq] at h1 h2 ⊢
    rcases h1 with h1 | ⟨rfl, h1⟩
    · rcases h2 with h2 | ⟨rfl, h2⟩
      · exact .inl (UInt8.lt_trans h1 h2)
      · exact .inl h1
    · rcases h2 with h2 | ⟨rfl, h2⟩
      · exact .inl h2
      · exact .inr ⟨rfl, bl_trans x y z h1 h2⟩
theorem bl_tri : ∀ x y : List UInt8, Op.bytesLess x y = false → Op.bytesLess y x = false → x = y
  | [], [], _, _ => rfl
  | [], _ :: _, h, _ => by simp [Op.bytesLess] at h
  | _ :: _, [], _, h => by simp [Op.bytesLess] at h
  | a :: x, b :: y, h1, h2 => by
    simp only [Op.bytesLess, Bool.or_eq_false_iff, Bool.and_eq_false_iff, decide_eq_false_iff_not, beq_eq_false_iff_ne] at h1 h2
    have hab : a = b := by
      have h3 := UInt8.not_lt.1 h1.1
      have h4 := UInt8.not_lt.1 h2.1
      exact UInt8.le_antisymm h4 h3
    subst hab
    rcases h1.2 with h | h
    · exact absurd rfl h
    · rcases h2.2 with h' | h'
      · exact absurd rfl h'
      · rw [bl_tri x y h h']
theorem ltB_irrefl (a : ByteArray) : ltB a a = false := bl_irrefl _
theorem ltB_trans {a b c : ByteArray} (h1 : ltB a b = true) (h2 : ltB b c = true) : ltB a c = true := bl_trans _ _ _ h1 h2
theorem ba_beq (a b : ByteArray) : (a.toList == b.toList) = decide (a = b) := by
  rw [← Go.beq_toListBytes]
  obtain ⟨x⟩ := a
  obtain ⟨y⟩ := b
  show (x == y) = _
  by_cases h : x = y <;> simp [h]
theorem toList_inj (a b : ByteArray) : a.toList = b.toList ↔ a = b := by
  have h := ba_beq a b
  constructor
  · intro e; rw [e] at h; simpa using h.symm
  · intro e; rw [e]
theorem ltB_tri {a b : ByteArray} (h1 : ltB a b = false) (h2 : ltB b a = false) : a = b := (toList_inj a b).1 (bl_tri _ _ h1 h2)
theorem ltB_asymm {a b : ByteArray} (h : ltB a b = true) : ltB b a = false := by
  cases h2 : ltB b a
  · rfl
  · have := ltB_trans h h2; rw [ltB_irrefl] at this; cases this
theorem ltB_ne {a b : ByteArray} (h : ltB a b = true) : a ≠ b := by
  rintro rfl; rw [ltB_irrefl] at h; cases h

/-! ### lists that rise -/
def Rises (l : List Ent) : Prop := l.Pairwise (fun a b => ltB a.k b.k = true)
theorem rises_cons {x : Ent} {l : List Ent} : Rises (x :: l) ↔ (∀ y ∈ l, ltB x.k y.k = true) ∧ Rises l := List.pairwise_cons
theorem getE_cons (x : Ent) (l : List Ent) (k : ByteArray) : getE (x :: l) k = if x.k = k then some x else getE l k := by
  unfold getE
  rw [List.find?_cons]
  by_cases h : x.k = k <;> simp [h]
theorem getE_none_of_lt {l : List Ent} {k : ByteArray} (h : ∀ y ∈ l, ltB k y.k = true) : getE l k = none := by
  unfold getE
  rw [List.find?_eq_none]
  intro y hy
  simp only [decide_eq_true_eq]
  intro e
  exact ltB_ne (h y hy) e.symm
theorem getE_mem {l : List Ent} {k : ByteArray} {e : Ent} (h : getE l k = some e) : e ∈ l ∧ e.k = k := by
  unfold getE at h
  exact ⟨List.mem_of_find?_eq_some h, by simpa using List.find?_some h⟩
theorem getE_of_mem {l : List Ent} (hl : Rises l) {e : Ent} (h : e ∈ l) : getE l e.k = some e := by
  induction l with
  | nil => cases h
  | cons x l ih =>
    rw [rises_cons] at hl
    rw [getE_cons]
    rcases List.mem_cons.1 h with rfl | h
    · rw [if_pos rfl]
    · rw [if_neg (ltB_ne (hl.1 e h)), ih hl.2 h]
theorem rises_ext : ∀ {a b : List Ent}, Rises a → Rises b → (∀ k, getE a k = getE b k) → a = b
  | [], [], _, _, _ => rfl
  | [], y :: b, _, _, h => by have := h y.k; rw [getE_cons, if_pos rfl] at this; cases this
  | x :: a, [], _, _, h => by have := h x.k; rw [getE_cons, if_pos rfl] at this; cases this
  | x :: a, y :: b, ha, hb, h => by
    rw [rises_cons] at ha hb
    have hxy : x.k = y.k := by
      apply ltB_tri
      · cases hlt : ltB x.k y.k
        · rfl
        · have h1 := h x.k
          rw [getE_cons, if_pos rfl, getE_cons, if_neg (Ne.symm (ltB_ne hlt)), getE_none_of_lt (fun z hz => ltB_trans hlt (hb.1 z hz))] at h1
          cases h1
      · cases hlt : ltB y.k x.k
        · rfl
        · have h1 := h y.k
          rw [getE_cons, if_neg (Ne.symm (ltB_ne hlt)), getE_none_of_lt (fun z hz => ltB_trans hlt (ha.1 z hz)), getE_cons, if_pos rfl] at h1
          cases h1
    have h1 := h x.k
    rw [getE_cons, if_pos rfl, getE_cons, if_pos hxy.symm] at h1
    obtain rfl := Option.some.inj h1
    congr 1
    refine rises_ext ha.2 hb.2 fun k => ?_
    by_cases hk : x.k = k
    · subst hk
      rw [getE_none_of_lt ha.1, getE_none_of_lt hb.1]
    · have := h k
      rw [getE_cons, if_neg hk, getE_cons, if_neg hk] at this
      exact this

theorem lt_merge2 {k : ByteArray} {a b : List Ent} (ha : ∀ y ∈ a, ltB k y.k = true) (hb : ∀ y ∈ b, ltB k y.k = true) : ∀ y ∈ merge2 a b, ltB k y.k = true := fun y hy =>
  (mem_merge2 y _ a b (Nat.le_refl _) hy).elim (ha y) (hb y)
theorem merge2_rises : ∀ (n : Nat) (a b : List Ent), a.length + b.length ≤ n → Rises a → Rises b → Rises (merge2 a b) := by
  intro n
  induction n with
  | zero =>
    intro a b h _ _
    have h1 : a = [] := List.eq_nil_of_length_eq_zero (by omega)
    have h2 : b = [] := List.eq_nil_of_length_eq_zero (by omega)
    subst h1; subst h2; simp [merge2, Rises]
  | succ n ih =>
    intro a b h ha hb
    match a, b with
    | [], b => simpa [merge2] using hb
    | x :: a, [] => simpa [merge2] using ha
    | x :: a, y :: b =>
      simp only [List.length_cons] at h
      have ha' := rises_cons.1 ha
      have hb' := rises_cons.1 hb
      rw [merge2]
      split
      · rename_i hlt
        refine rises_cons.2 ⟨lt_merge2 ha'.1 (fun z hz => ?_), ih a (y :: b) (by simp; omega) ha'.2 hb⟩
        rcases List.mem_cons.1 hz with rfl | hz
        · exact hlt
        · exact ltB_trans hlt (hb'.1 z hz)
      · split
        · rename_i hlt
          refine rises_cons.2 ⟨lt_merge2 (fun z hz => ?_) hb'.1, ih (x :: a) b (by simp; omega) ha hb'.2⟩
          rcases List.mem_cons.1 hz with rfl | hz
          · exact hlt
          · exact ltB_trans hlt (ha'.1 z hz)
        · rename_i h1 h2
          have e := ltB_tri (by simpa using h1) (by simpa using h2)
          refine rises_cons.2 ⟨lt_merge2 ha'.1 (fun z hz => by rw [e]; exact hb'.1 z hz), ih a b (by omega) ha'.2 hb'.2⟩
theorem merge2_get : ∀ (n : Nat) (a b : List Ent), a.length + b.length ≤ n → Rises a → Rises b → ∀ k, getE (merge2 a b) k = (getE a k).or (getE b k) := by
  intro n
  induction n with
  | zero =>
    intro a b h _ _ k
    have h1 : a = [] := List.eq_nil_of_length_eq_zero (by omega)
    have h2 : b = [] := List.eq_nil_of_length_eq_zero (by omega)
    subst h1; subst h2; simp [merge2, getE]
  | succ n ih =>
    intro a b h ha hb k
    match a, b with
    | [], b => simp [merge2, getE]
    | x :: a, [] => simp [merge2]; rw [show getE [] k = none from rfl, Option.or_none]
    | x :: a, y :: b =>
      simp only [List.length_cons] at h
      have ha' := rises_cons.1 ha
      have hb' := rises_cons.1 hb
      rw [merge2]
      split
      · rename_i hlt
        rw [getE_cons, ih a (y :: b) (by simp; omega) ha'.2 hb, getE_cons x a]
        split <;> simp
      · split
        · rename_i hlt
          rw [getE_cons, ih (x :: a) b (by simp; omega) ha hb'.2, getE_cons y b]
          by_cases hk : y.k = k
          · subst hk
            rw [if_pos rfl, if_pos rfl, getE_none_of_lt (l := x :: a) (fun z hz => by
              rcases List.mem_cons.1 hz with rfl | hz
              · exact hlt
              · exact ltB_trans hlt (ha'.1 z hz))]
            rfl
          · rw [if_neg hk, if_neg hk]
        · rename_i h1 h2
          have e := ltB_tri (by simpa using h1) (by simpa using h2)
          rw [getE_cons, ih a b (by omega) ha'.2 hb'.2, getE_cons x a, getE_cons y b]
          by_cases hk : x.k = k
          · rw [if_pos hk, if_pos hk]; rfl
          · rw [if_neg hk, if_neg hk, if_neg (by rw [← e]; exact hk)]
theorem rises_merge2 {a b : List Ent} (ha : Rises a) (hb : Rises b) : Rises (merge2 a b) := merge2_rises _ a b (Nat.le_refl _) ha hb
theorem get_merge2 {a b : List Ent} (ha : Rises a) (hb : Rises b) (k : ByteArray) : getE (merge2 a b) k = (getE a k).or (getE b k) := merge2_get _ a b (Nat.le_refl _) ha hb k
theorem rises_mergeAll {ls : List (List Ent)} (h : ∀ l ∈ ls, Rises l) : Rises (mergeAll ls) := by
  induction ls with
  | nil => simp [mergeAll, Rises]
  | cons l ls ih => exact rises_merge2 (h l (by simp)) (ih fun x hx => h x (by simp [hx]))
theorem rises_live {l : List Ent} (h : Rises l) : Rises (liveE l) := List.Pairwise.filter _ h
theorem get_live {l : List Ent} (h : Rises l) (k : ByteArray) : getE (liveE l) k = (getE l k).filter (fun e => !e.g) := by
  induction l with
  | nil => rfl
  | cons x l ih =>
    rw [rises_cons] at h
    rw [getE_cons]
    cases hg : x.g
    · have e : liveE (x :: l) = x :: liveE l := by simp [liveE, hg]
      rw [e, getE_cons, ih h.2]
      by_cases hk : x.k = k
      · rw [if_pos hk, if_pos hk]; simp [Option.filter, hg]
      · rw [if_neg hk, if_neg hk]
    · have e : liveE (x :: l) = liveE l := by simp [liveE, hg]
      rw [e, ih h.2]
      by_cases hk : x.k = k
      · rw [if_pos hk, getE_none_of_lt (by subst hk; exact h.1)]; simp [Option.filter, hg]
      · rw [if_neg hk]

/-! ### an entry put among others -/
theorem leB_eq (a b : ByteArray) : leB a b = !(ltB b a) := by
  unfold leB
  rw [ba_beq]
  by_cases h : a = b
  · subst h; simp [ltB_irrefl]
  · cases h1 : ltB b a
    · cases h2 : ltB a b
      · exact absurd (ltB_tri h2 h1) h
      · have : Op.bytesLess a.toList b.toList = true := h2
        simp [this]
    · have h2 := ltB_asymm h1
      have : Op.bytesLess a.toList b.toList = false := h2
      simp [this, h]
/-- Once the entry is laid, what follows is taken as it is, but for its own key. -/
theorem putFold_laid (e : Ent) (l zs : List Ent) (h : ∀ x ∈ l, x.k ≠ e.k) : l.foldl (putStep e) (zs, true) = (zs ++ l, true) := by
  induction l generalizing zs with
  | nil => simp
  | cons x l ih =>
    rw [List.foldl_cons, putStep]
    simp only [Bool.not_true, Bool.false_and, Bool.false_eq_true, if_false, if_neg (h x (by simp))]
    rw [ih _ (fun y hy => h y (by simp [hy]))]
    simp
theorem putE_cons (e x : Ent) (l : List Ent) (hx : Rises (x :: l)) (zs : List Ent) :
    (let s := (x :: l).foldl (putStep e) (zs, false); if s.2 then s.1 else s.1 ++ [e]) = zs ++ merge2 [e] (x :: l) := by
  induction l generalizing x zs with
  | nil =>
    simp only [List.foldl_cons, List.foldl_nil, putStep, Bool.not_false, Bool.true_and, leB_eq]
    rw [merge2]
    cases h1 : ltB e.k x.k
    · cases h2 : ltB x.k e.k
      · have hk := ltB_tri h1 h2
        simp [hk.symm, merge2]
      · have hk := ltB_ne h2
        simp [hk, merge2]
    · have h2 := ltB_asymm h1
      have hk := (ltB_ne h1).symm
      simp [h2, hk, merge2]
  | cons y l ih =>
    have hx' := rises_cons.1 hx
    rw [List.foldl_cons, merge2]
    cases h1 : ltB e.k x.k
    · cases h2 : ltB x.k e.k
      · have hk := ltB_tri h1 h2
        have hs : putStep e (zs, false) x = (zs ++ [e], true) := by simp [putStep, leB_eq, hk.symm, ltB_irrefl]
        rw [hs, putFold_laid e (y :: l) _ (fun z hz => by rw [hk]; exact (ltB_ne (hx'.1 z hz)).symm)]
        simp [merge2]
      · have hk := ltB_ne h2
        have hs : putStep e (zs, false) x = (zs ++ [x], false) := by simp [putStep, leB_eq, h2, hk]
        rw [hs, ih y hx'.2]
        simp
    · have h2 := ltB_asymm h1
      have hk := (ltB_ne h1).symm
      have hs : putStep e (zs, false) x = (zs ++ [e] ++ [x], true) := by simp [putStep, leB_eq, h2, hk]
      rw [hs, putFold_laid e (y :: l) _ (fun z hz => (ltB_ne (ltB_trans h1 (hx'.1 z hz))).symm)]
      simp [merge2]
theorem putE_eq (e : Ent) (l : List Ent) (h : Rises l) : putE l e = merge2 [e] l := by
  cases l with
  | nil => simp [putE, merge2]
  | cons x l => have := putE_cons e x l h []; simpa [putE] using this
theorem rises_one (e : Ent) : Rises [e] := by simp [Rises]
theorem rises_put {l : List Ent} (h : Rises l) (e : Ent) : Rises (putE l e) := by rw [putE_eq e l h]; exact rises_merge2 (rises_one e) h
theorem get_put {l : List Ent} (h : Rises l) (e : Ent) (k : ByteArray) : getE (putE l e) k = if e.k = k then some e else getE l k := by
  rw [putE_eq e l h, get_merge2 (rises_one e) h, getE_cons]
  by_cases hk : e.k = k <;> simp [hk, getE]
/-- All of a list, put among others one behind the other. -/
theorem foldl_put {l acc : List Ent} (hl : Rises l) (ha : Rises acc) : Rises (l.foldl putE acc) ∧ ∀ k, getE (l.foldl putE acc) k = (getE l k).or (getE acc k) := by
  induction l generalizing acc with
  | nil => exact ⟨ha, fun k => rfl⟩
  | cons x l ih =>
    have hl' := rises_cons.1 hl
    obtain ⟨h1, h2⟩ := ih hl'.2 (rises_put ha x)
    refine ⟨h1, fun k => ?_⟩
    rw [List.foldl_cons, h2, get_put ha, getE_cons]
    by_cases hk : x.k = k
    · subst hk
      rw [if_pos rfl, if_pos rfl, getE_none_of_lt hl'.1]; rfl
    · rw [if_neg hk, if_neg hk]
theorem foldl_put_eq {l acc : List Ent} (hl : Rises l) (ha : Rises acc) : l.foldl putE acc = merge2 l acc :=
  rises_ext (foldl_put hl ha).1 (rises_merge2 hl ha) fun k => by rw [(foldl_put hl ha).2, get_merge2 hl ha]
def putAll (ls : List (List Ent)) : List Ent := ls.foldr (fun l acc => l.foldl putE acc) []
theorem putAll_eq {ls : List (List Ent)} (h : ∀ l ∈ ls, Rises l) : putAll ls = mergeAll ls := by
  induction ls with
  | nil => rfl
  | cons l ls ih =>
    have h1 := ih fun x hx => h x (by simp [hx])
    show l.foldl putE (putAll ls) = merge2 l (mergeAll ls)
    rw [h1]
    exact foldl_put_eq (h l (by simp)) (rises_mergeAll fun x hx => h x (by simp [hx]))
end Go.Proofs.YtaepdbkfaoiimabDoor
