/- The arguments of a law, opened: each reads as a list of what its cells hold. Conditions: none. -/
import Derived.Test.YtaepdbkfaoiimaaClose
import Derived.Test.YtaepdbkfaoiimaaBase
import Derived.SliceStrings
import Derived.OpenShut
set_option linter.unusedVariables false
namespace Go.Proofs.Ytaepdbkfaoiimaa
open Go.ChangeShapes Go.WideShapes Go.ChangeAt Go.RowKit Go.WideMaps Go.WideElems
open Go.ChangeMaps (open_string shut_string)

set_option maxRecDepth 100000 in
theorem strs_of {H : Type} {enc : TypeId × Value → H} {W : World} {base : Nat} {v : Value} {d : DataW H} {p : List MemPlace}
    (hval : Value.okWide Try.prog W .any base 22 v) (h : DataW.Trod enc Try.prog W 0 (fun _ => true) true 22 v d p) : ∃ l, Strs W.heap.size W v l := by
  obtain ⟨a0, len, cap, rfl⟩ := okWide_slice Try.underlying22 hval
  obtain ⟨fuel, hf⟩ := h
  rcases open_strings Try.underlying22 Try.underlying9 (by kernel_rfl) hf with ⟨hcs, hx⟩ | ⟨a, len', cap', ss, hcs, _, hl, hm, hz, hx, hcell, hws⟩
  · simp [Value.cells] at hcs
    obtain ⟨rfl, rfl, rfl⟩ := hcs
    exact ⟨[], Rd.nil _ _ _ _, by simp⟩
  · simp [Value.cells] at hcs
    obtain ⟨rfl, rfl, rfl⟩ := hcs
    simp at hz
    have e : (ss.take len).length = len := by simp; omega
    refine ⟨ss.take len, ⟨by simp, some a, cap, by rw [e], by omega, by unfold maxLen at hm; omega, fun hn => ?_⟩, fun s hs => by have := hws s (List.mem_of_mem_take hs); unfold maxLen at this; omega⟩
    rw [e] at hn
    obtain ⟨b, o, spot⟩ := a
    have h0 := hcell 0 (by omega)
    have hspot : spot = none := by simpa [Addr.add] using World.cell?_spot h0
    subst hspot
    refine ⟨b, o, rfl, .inl ?_, ?_, fun j u hu => ?_⟩
    · have := cell_lt h0; simpa [Addr.add] using this
    · have := cell_lt h0; simpa [Addr.add] using this
    · rw [List.getElem?_map, List.getElem?_take] at hu
      by_cases hj : j < len
      · rw [if_pos hj] at hu
        have hj2 : j < ss.length := by omega
        rw [List.getElem?_eq_getElem hj2] at hu
        simp at hu
        have := hcell j hj2
        rw [List.getD_eq_getElem?_getD, List.getElem?_eq_getElem hj2, Option.getD_some] at this
        rw [← hu, ← this]
        unfold Addr.add
        by_cases hj0 : j = 0
        · subst hj0; simp
        · simp [hj0]
      · rw [if_neg hj] at hu; simp at hu
end Go.Proofs.Ytaepdbkfaoiimaa
