/- A slice of slices of entries, as a list of lists. Conditions: none. -/
import Derived.Test.YtaepdbkfaoiimabDoorBase
set_option linter.unusedVariables false
namespace Go.Proofs.YtaepdbkfaoiimabDoor
open Go.RowKit

/-- A slice of lists of entries. -/
def Lss (B : Nat) (w : World) (v : Value) (ls : List (List Ent)) : Prop :=
  ∃ vs : List Value, vs.length = ls.length ∧ Rd B 22 1 w v ls.length vs ∧ ∀ (i : Nat) (u : Value) (l : List Ent), vs[i]? = some u → ls[i]? = some l → Ents B w u l
theorem Lss.below {B : Nat} {w w' : World} {v : Value} {ls : List (List Ent)} (h : Lss B w v ls) (hf : Below w.heap.size w w') : Lss B w' v ls := by
  obtain ⟨vs, h1, h2, h3⟩ := h
  exact ⟨vs, h1, h2.below hf, fun i u l hu hl => (h3 i u l hu hl).below hf⟩
theorem Lss.form {B : Nat} {w : World} {v : Value} {ls : List (List Ent)} (h : Lss B w v ls) : ∃ A c, v = .slice A ls.length c ∧ ls.length ≤ c ∧ c ≤ 9223372036854775807 ∧
    ∀ i l, ls[i]? = some l → ∃ b o u, A = some ⟨b, o, none⟩ ∧ b < w.heap.size ∧ w.cell? ⟨b, o + i, none⟩ = some u ∧ Ents B w u l := by
  obtain ⟨vs, h0, ⟨_, A, c, h1, h2, h3, h4⟩, h5⟩ := h
  refine ⟨A, c, h1, h2, h3, fun i l hi => ?_⟩
  have hlt : i < ls.length := by
    rcases Nat.lt_or_ge i ls.length with h | h
    · exact h
    · rw [List.getElem?_eq_none h] at hi; cases hi
  obtain ⟨b, o, hA, _, hb, hc⟩ := h4 (by omega)
  have hv : vs[i]? = some vs[i] := List.getElem?_eq_getElem (by omega)
  exact ⟨b, o, _, hA, hb, hc i _ hv, h5 i _ l hv hi⟩

end Go.Proofs.YtaepdbkfaoiimabDoor
