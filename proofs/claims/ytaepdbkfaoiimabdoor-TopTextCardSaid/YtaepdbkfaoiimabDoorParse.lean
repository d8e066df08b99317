/- The contracts of Parse and its reference. Conditions: none but the sizes of any memory. -/
import Derived.Test.YtaepdbkfaoiimabDoorEntry
import Derived.Test.YtaepdbkfaoiimabDoorMerge
import Derived.Deep.LoopGhost
set_option linter.unusedVariables false
set_option linter.unusedSimpArgs false
namespace Go.Proofs.YtaepdbkfaoiimabDoor
open Go.RowKit

/-- A byte by its place; 0 behind the end. -/
def bt (s : ByteArray) (i : Nat) : Nat := (s.data.toList.getD i 0).toNat
/-- Does no entry lie at this place? -/
def badAt (s : ByteArray) (p : Nat) : Bool := decide (s.size < p + 3) || decide (1 < bt s p) || decide (s.size < p + 3 + bt s (p + 1) + bt s (p + 2))
def entAt (s : ByteArray) (p : Nat) : Ent := ⟨s.extract (p + 3) (p + 3 + bt s (p + 1)), s.extract (p + 3 + bt s (p + 1)) (p + 3 + bt s (p + 1) + bt s (p + 2)), decide (bt s p = 1)⟩
def pStep (s : ByteArray) : Option (List Ent × Nat) → Option (List Ent × Nat)
  | none => none
  | some (l, p) => if badAt s p || decide (faultE (entAt s p) ≠ 0) then none else some (l ++ [entAt s p], p + 3 + bt s (p + 1) + bt s (p + 2))
def pN (s : ByteArray) : Nat → Option (List Ent × Nat)
  | 0 => some ([], 1)
  | n + 1 => pStep s (pN s n)
def parseR (s : ByteArray) : Option (List Ent) :=
  if s.size = 0 then none else
  match pN s (bt s 0) with
  | none => none
  | some (l, p) => if (s.data.toList.drop p).all (· == 0) then some l else none
theorem pN_none {s : ByteArray} {i : Nat} (h : pN s i = none) : ∀ j, i ≤ j → pN s j = none := by
  intro j hj
  induction j with
  | zero => rw [← h]; congr 1; omega
  | succ j ih =>
    rcases Nat.lt_or_ge i (j + 1) with h1 | h1
    · rw [pN, ih (by omega)]; rfl
    · rw [← h]; congr 1; omega
theorem pN_le {s : ByteArray} (hs : 0 < s.size) : ∀ {i : Nat} {l : List Ent} {p : Nat}, pN s i = some (l, p) → 1 ≤ p ∧ p ≤ s.size ∧ l.length = i
  | 0, l, p, h => by simp [pN] at h; obtain ⟨rfl, rfl⟩ := h; simp; omega
  | i + 1, l, p, h => by
    rw [pN] at h
    cases hx : pN s i with
    | none => rw [hx] at h; cases h
    | some x =>
      obtain ⟨l', p'⟩ := x
      rw [hx, pStep] at h
      obtain ⟨h1, h2, h3⟩ := pN_le hs hx
      split at h
      · cases h
      · rename_i hb
        simp only [Option.some.injEq, Prod.mk.injEq] at h
        obtain ⟨rfl, rfl⟩ := h
        simp [badAt] at hb
        refine ⟨by omega, by omega, by simp [h3]⟩

theorem toList_nil (s : ByteArray) : s.toList = [] ↔ s.size = 0 := by
  have h1 : ByteArray.empty.toList = [] := by decide +kernel
  rw [← h1, toList_inj]
  constructor
  · rintro rfl; rfl
  · intro h; exact ByteArray.size_eq_zero_iff.1 h
theorem bt_lt (s : ByteArray) (i : Nat) : bt s i < 256 := UInt8.toNat_lt _
theorem bt_idx (s : ByteArray) (i : Nat) (h : i < s.size) : ((s[i]).toNat : Int) = (bt s i : Int) := by
  unfold bt
  rw [List.getD_eq_getElem?_getD, List.getElem?_eq_getElem (by simpa using h), Option.getD_some]
  rfl
theorem bt_wrap (s : ByteArray) (i : Nat) : wrap64 (bt s i : Int) = (bt s i : Int) := by
  have := bt_lt s i
  exact IntWalk.wrap64_in (bt s i : Int) (by omega)
theorem bt_extract (s : ByteArray) (p n i : Nat) (hn : n = s.size) : bt (s.extract p n) i = bt s (p + i) := by
  subst hn
  unfold bt
  congr 1
  rw [ByteArray.data_extract, List.getD_eq_getElem?_getD, List.getD_eq_getElem?_getD, Array.getElem?_toList, Array.getElem?_toList]
  congr 1
  rw [Array.getElem?_extract]
  split
  · rfl
  · rename_i h
    rw [Array.getElem?_eq_none]
    have : s.size = s.data.size := rfl
    omega
theorem size_extract_ (s : ByteArray) (p : Nat) : (s.extract p s.size).size = s.size - p := by rw [ByteArray.size_extract]; omega
theorem extract_extract_ (s : ByteArray) (p a b : Nat) (h : p + b ≤ s.size) : (s.extract p s.size).extract a b = s.extract (p + a) (p + b) := by
  rw [ByteArray.extract_extract]; congr 1; omega
theorem noughts_iff {s : ByteArray} {p : Nat} : (s.data.toList.drop p).all (· == 0) = true ↔ ∀ i, p ≤ i → i < s.size → bt s i = 0 := by
  have hsz : s.data.toList.length = s.size := Array.length_toList
  rw [List.all_eq_true]
  constructor
  · intro h i h1 h2
    have h3 : s.data.toList[i]? = some (s.data.toList[i]'(by omega)) := List.getElem?_eq_getElem _
    have h4 := h (s.data.toList[i]'(by omega)) (by
      rw [List.mem_iff_getElem?]
      exact ⟨i - p, by rw [List.getElem?_drop, show p + (i - p) = i by omega]; exact h3⟩)
    unfold bt
    rw [List.getD_eq_getElem?_getD, h3, Option.getD_some]
    simp at h4
    simp [h4]
  · intro h x hx
    obtain ⟨j, hj⟩ := List.getElem?_of_mem hx
    rw [List.getElem?_drop] at hj
    have hlt := (List.getElem?_eq_some_iff.1 hj).1
    have h1 := h (p + j) (by omega) (by omega)
    unfold bt at h1
    rw [List.getD_eq_getElem?_getD, hj, Option.getD_some] at h1
    simp
    exact UInt8.toNat_inj.1 (by simpa using h1)
theorem pN_ok {s : ByteArray} : ∀ {i : Nat} {l : List Ent} {p : Nat}, pN s i = some (l, p) → ∀ e ∈ l, EntOk e
  | 0, l, p, h => by simp [pN] at h; obtain ⟨rfl, rfl⟩ := h; intro e he; cases he
  | i + 1, l, p, h => by
    rw [pN] at h
    cases hx : pN s i with
    | none => rw [hx] at h; cases h
    | some x =>
      obtain ⟨l', p'⟩ := x
      rw [hx, pStep] at h
      split at h
      · cases h
      · rename_i hb
        simp only [Option.some.injEq, Prod.mk.injEq] at h
        obtain ⟨rfl, rfl⟩ := h
        intro e he
        rcases List.mem_append.1 he with he | he
        · exact pN_ok hx e he
        · simp at he
          subst he
          simp at hb
          have h2 := faultE_zero hb.2
          exact ⟨by omega, by omega⟩
/-- What is wrong with a page: 4: it can't be read; 0: nothing. -/
def perr (s : ByteArray) : Nat := if parseR s = none then 4 else 0
theorem own_lt {w : World} {base : Nat} {e : TypeId} {size : Nat} {v : Value} {n : Nat} {xs : List Value} (h : w.ownsRow base e size v n xs) : v.ownBlock ≠ some w.heap.size := by
  intro hk
  rcases h.2 with ⟨rfl, _⟩ | ⟨g, cap, cur, rfl, hg, hh, _⟩
  · simp [Value.ownBlock] at hk
  · simp [Value.ownBlock] at hk
    have := heap_lt hh
    omega
theorem own_below {w w' : World} {base : Nat} {e : TypeId} {size : Nat} {v : Value} {n : Nat} {xs : List Value} (h : w.ownsRow base e size v n xs) (hb : Below w.heap.size w w') : w'.ownsRow base e size v n xs := by
  refine ⟨h.1, ?_⟩
  rcases h.2 with hn | ⟨g, cap, cur, h1, hg, hh, hrest⟩
  · exact .inl hn
  · exact .inr ⟨g, cap, cur, h1, hg, (hb.block g (heap_lt hh)).trans hh, hrest⟩
attribute [local go_sem] bt_idx bt_wrap bt_extract

end Go.Proofs.YtaepdbkfaoiimabDoor
