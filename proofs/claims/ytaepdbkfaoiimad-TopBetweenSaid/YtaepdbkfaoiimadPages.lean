/- Rows, some at a time: plain laws. Conditions: none but those that each names. -/
import Derived.Test.YtaepdbkfaoiimadMg
set_option linter.unusedVariables false
set_option linter.unusedSimpArgs false
namespace Go.Proofs.Ytaepdbkfaoiimad
open Go.RowKit
/-- The rows behind a key, so many of them. -/
def pageM (r : List Ent) (after : ByteArray) (many : Nat) : List Ent := (r.filter (fun e => ltB after e.k)).take many
theorem filter_behind {r : List Ent} (hr : Rises r) {j : Nat} {x : Ent} (hx : r[j]? = some x) : r.filter (fun e => ltB x.k e.k) = r.drop (j + 1) := by
  induction r generalizing j with
  | nil => simp at hx
  | cons y ys ih =>
    obtain ⟨h1, h2⟩ := rises_cons.1 hr
    cases j with
    | zero =>
      simp at hx
      subst hx
      rw [List.filter_cons_of_neg (by rw [ltB_irrefl]; simp), List.drop_succ_cons, List.drop_zero, List.filter_eq_self]
      exact h1
    | succ j =>
      simp at hx
      have hm := List.mem_of_getElem? hx
      rw [List.filter_cons_of_neg (by rw [ltB_asymm (h1 x hm)]; simp), List.drop_succ_cons]
      exact ih h2 hx
theorem pageM_snoc (l : List Ent) (x : Ent) (a : ByteArray) (m : Nat) : pageM (l ++ [x]) a m = if ltB a x.k = true ∧ (pageM l a m).length < m then pageM l a m ++ [x] else pageM l a m := by
  unfold pageM
  rw [List.filter_append]
  cases hb : ltB a x.k
  · rw [if_neg (by simp), List.filter_cons_of_neg (by simp [hb])]; simp
  · rw [List.filter_cons_of_pos (by simp [hb]), List.filter_nil]
    by_cases hm : (l.filter (fun e => ltB a e.k)).length < m
    · rw [if_pos ⟨rfl, by rw [List.length_take]; omega⟩, List.take_of_length_le (by simp; omega), List.take_of_length_le (by omega)]
    · rw [if_neg (by rw [List.length_take]; omega), List.take_append_of_le_length (by omega)]
end Go.Proofs.Ytaepdbkfaoiimad
