/- FilterSays returns true at every input, and leaves it as it was. Conditions: none. -/
import Derived.Test.YtaepdbkfaoiimaaFiltLaw
import Derived.Test.YtaepdbkfaoiimaaOpen
namespace Go.Proofs.Ytaepdbkfaoiimaa
open Go.ChangeShapes Go.WideShapes Go.ChangeAt Go.RowKit Go.WideMaps Go.WideElems
open Go.ChangeMaps (open_string shut_string)

set_option maxRecDepth 100000 in
theorem filterSays_holds : Rows.FilterSaysSaid :=
  OpenClaim.holds_of_wide 3 Try.f3 rfl rfl rfl rfl rfl rfl rfl ⟨rfl, rfl, rfl, rfl, rfl⟩ rfl rfl rfl rfl rfl (by kernel_rfl) Try.func3 (by kernel_rfl)
    (of_decide_eq_true (by kernel_rfl)) (by unfold Func.isWrapper; first | (rw [if_pos (by decide +kernel)]; kernel_rfl) | (rw [if_neg (by decide +kernel)]; exact ⟨rfl, rfl⟩))
    (fun os started H enc _ => close_lifted Rows.filterSaysSpec 3 Try.f3 os started H enc (by kernel_rfl) Try.func3 (by kernel_rfl) rfl
      (fun ds hd => by
        rw [Try.params3] at hd
        match ds, hd with
        | [d1, d2, d3], _ => rfl)
      (by kernel_rfl)
      (ChangeSpec.witness6 (enc := enc) (C := Try.checked) false ⟨#[], #[.slice none 0 0, .string ByteArray.empty, .int .u64 0], []⟩ 8 (by kernel_rfl) (by kernel_rfl) (by kernel_rfl) (by kernel_rfl))
      (fun W base args ds p hval hA => by
        rw [Try.params3] at hA hval
        obtain ⟨v0, v1, v2, d0, d1, d2, p0, p1, p2, hargs, rfl, rfl, h0, h1, h2⟩ := trodAll_three hA
        obtain rfl : args = #[v0, v1, v2] := by cases args; simp_all
        obtain ⟨l, hl⟩ := strs_of (hval 0 _ v0 rfl rfl) h0
        obtain ⟨s, rfl, rfl, rfl, hs⟩ := open_string Try.underlying9 (hval 1 _ v1 rfl rfl) h1
        obtain ⟨x, rfl, rfl, rfl, wx⟩ := open_int Try.underlying23 (hval 2 _ v2 rfl rfl) h2
        obtain ⟨n, rfl⟩ := Int.eq_ofNat_of_zero_le (Go.bounds_u64 wx).1
        exact filterSays_walk v0 l s n W hl (by unfold maxLen at hs; omega) (by have := (Go.bounds_u64 wx).2; omega)))
#print axioms filterSays_holds
end Go.Proofs.Ytaepdbkfaoiimaa
