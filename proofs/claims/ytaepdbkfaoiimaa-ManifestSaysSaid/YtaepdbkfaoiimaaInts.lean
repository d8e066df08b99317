/- slices.Grow, Concat, Contains, Clone at []int. Conditions: none but the sizes of any memory. -/
import Derived.Test.YtaepdbkfaoiimaaBase
import Derived.Test.YtaepdbkfaoiimaaShelf
import Derived.Lib.AppendZeros
import Derived.LoopN
set_option linter.unusedVariables false
set_option linter.unusedSimpArgs false
namespace Go.Proofs.Ytaepdbkfaoiimaa
open Go.RowKit

theorem info_int : (Try.prog.info? 3).map (fun i => (i.zero, i.size, i.bytes)) = some (some (.int .i64 0), 1, 8) := by kernel_rfl
set_option maxHeartbeats 1000000 in
theorem grow_nil (n : Int) (w : World) (h0 : 0 ≤ n) (h1 : n ≤ 4000000) :
    Calls Try.prog 123 #[.slice none 0 0, .int .i64 n] w fun e w' => ∃ v, e = .returned v ∧ w'.ownsRow w.heap.size 3 1 v 0 [] ∧ Below w.heap.size w w' := by
  obtain ⟨k, rfl⟩ := Int.eq_ofNat_of_zero_le h0
  by_cases hk : k = 0
  · subst hk
    go_enter Try.func123, Try.ntmps123
    go_wp2_with fail
    go_ret
    exact ⟨_, rfl, World.ownsRow_nil _ _ _ _, Below.refl _ _⟩
  · have h2 : ¬ ((k : Int) < 0) := by omega
    have h4 : decide (0 < (k : Int)) = true := decide_eq_true (by omega)
    obtain ⟨i0, hi, hz0, hz1, hz2⟩ := info_parts info_int
    have hrz : ∀ ty, (Builtin.append_ #[41, 3] ty #[.slice none 0 0, .int .i64 (k : Int)]).run Try.prog w =
        .ok (.slice (some ⟨w.heap.size, 0, none⟩) k (grownCap w k 0 3)) (w.drew.alloc (.cells (Builtin.zeroCells (Value.int .i64 0).cells k ++ Builtin.zeroCells (Value.int .i64 0).cells (grownCap w k 0 3 - k)) 3)) := fun ty => by
      exact Lib.run_append_nil_zeros (P := Try.prog) w 41 3 ty 3 i0 (.int .i64 0) .i64 .i64 Try.underlying41 Try.underlying3 hi hz0 k (by omega) (by omega) (by omega) (by rw [hz2]; omega)
    have hG := grownCap_ge w k 0 3
    have hG2 := grownCap_le_maxLen w k 0 3 (by unfold maxLen; omega)
    have hblk := heap_alloc_new w.drew (.cells (Builtin.zeroCells (Value.int .i64 0).cells k ++ Builtin.zeroCells (Value.int .i64 0).cells (grownCap w k 0 3 - k)) 3)
    have hbl : Below w.heap.size w (w.drew.alloc (.cells (Builtin.zeroCells (Value.int .i64 0).cells k ++ Builtin.zeroCells (Value.int .i64 0).cells (grownCap w k 0 3 - k)) 3)) := (Below.refl w.heap.size w).drew.alloc (Nat.le_refl _) _
    have hsz : (Builtin.zeroCells (Value.int .i64 0).cells k ++ Builtin.zeroCells (Value.int .i64 0).cells (grownCap w k 0 3 - k)).size = grownCap w k 0 3 * 1 := by
      have h1 : (Value.int .i64 0).cells.size = 1 := rfl
      rw [Array.size_append, size_zeroCells, size_zeroCells, h1]; omega
    generalize grownCap w k 0 3 = G at *
    generalize Builtin.zeroCells (Value.int .i64 0).cells k ++ Builtin.zeroCells (Value.int .i64 0).cells (G - k) = cur at *
    have HB := Lib.hid hblk
    have HL := Lib.hid hbl
    have HSZ := Lib.hid hsz
    have hG3 : (k : Int) ≤ (G : Int) := by omega
    have hG4 : G ≤ 9223372036854775807 := by unfold maxLen at hG2; omega
    have t1 : (0 : Int) ≤ (k : Int) := by omega
    clear hblk hbl hsz hi hz0 hz1 hz2
    go_enter Try.func123, Try.ntmps123
    go_wp2_with (at_builtin; refine Lib.wpList_append_run _ rfl _ _ _ _ rfl _ _ rfl rfl _ _ (hrz _) ?_)
    go_ret
    refine ⟨_, rfl, ⟨rfl, .inr ⟨w.heap.size, G, cur, rfl, Nat.le_refl _, HB.out, by omega, hG2, HSZ.out, by simp⟩⟩, HL.out⟩
theorem ints_one {l : List Int} : ∀ u ∈ l.map (Value.int .i64), u.oneCell' = true := by
  intro u hu
  obtain ⟨n, _, rfl⟩ := List.mem_map.1 hu
  rfl
set_option maxHeartbeats 4000000 in
/-- slices.Concat of two. -/
theorem concat_any (B g : Nat) (va vb : Value) (la lb : List Int) (w : World) (hg : Blk w g 41 #[va, vb]) (ha : Ints B w va la) (hb : Ints B w vb lb) (h1 : la.length ≤ 1000000) (h2 : lb.length ≤ 1000000) :
    Calls Try.prog 98 #[.slice (some ⟨g, 0, none⟩) 2 2] w fun e w' => ∃ v, e = .returned v ∧ w'.ownsRow w.heap.size 3 1 v (la ++ lb).length ((la ++ lb).map (.int .i64)) ∧ Below w.heap.size w w' := by
  obtain ⟨A, c, rfl, hc, hc2, _⟩ := ha.form
  obtain ⟨A', c', rfl, hc', hc2', _⟩ := hb.form
  have x1 := hg.cell 0
  have x2 := hg.cell 1
  simp at x1 x2
  have hlt := hg.lt
  have HA := Lib.hid ha
  have HB := Lib.hid hb
  have HG := Lib.hid hg
  clear ha hb hg
  go_enter Try.func98, Try.ntmps98
  go_wp2_with fail
  refine wp_loop_rounds 3 ?_
  rw [rounds_succ]
  go_wp2_with fail
  rw [rounds_succ]
  go_wp2_with fail
  rw [rounds_succ]
  go_wp2_with fail
  refine (grow_nil _ _ (by omega) (by omega)).mono ?_
  rintro e w1 ⟨v1, rfl, hown, hbl⟩
  have HO1 := Lib.hid hown
  have HL1 := Lib.hid hbl
  have y1 := (hbl.cell (p := ⟨g, 0, none⟩) hlt).trans x1
  have y2 := (hbl.cell (p := ⟨g, 1, none⟩) hlt).trans x2
  have hr1 : Hid (Rd B 3 1 w1 (.slice A la.length c) la.length (la.map (.int .i64))) := HA.out.below hbl
  clear hown x1 x2
  go_wp2_with fail
  refine wp_loop_rounds 3 ?_
  rw [rounds_succ]
  obtain ⟨i1, hi1, hz01, hz11, hz21⟩ := info_parts info_int
  have hbs1 := hbl.size
  clear hbl
  go_wp2_with (at_builtin; go_loud (refine wpList_append_rd _ rfl (.tmp 31) (.tmp 32) 41 rfl w.heap.size 3 i1 _ 1 8 Try.underlying41 hi1 hz01 hz11 hz21 rfl (by decide) _ _ _ rfl HO1.out B 3 _ _ _ rfl hr1.out ints_one (by unfold maxLen; omega) (by omega) (by omega) ?_); intro v2 w2 hown2 hg2 hat2)
  have hb2 := below_own HL1.out (Nat.le_refl _) HO1.out hg2
  have HO2 := Lib.hid hown2
  have HL2 := Lib.hid hb2
  have y2' := (hb2.cell (p := ⟨g, 1, none⟩) hlt).trans (show w.cell? ⟨g, 1, none⟩ = _ from (HG.out.cell 1).trans rfl)
  have hr2 : Hid (Rd B 3 1 w2 (.slice A' lb.length c') lb.length (lb.map (.int .i64))) := HB.out.below hb2
  have hbs2 := hb2.size
  clear hown2 hg2 hat2 hb2 y1 y2 hr1
  go_wp2_with fail
  rw [rounds_succ]
  go_wp2_with (at_builtin; go_loud (refine wpList_append_rd _ rfl (.tmp 31) (.tmp 32) 41 rfl w.heap.size 3 i1 _ 1 8 Try.underlying41 hi1 hz01 hz11 hz21 rfl (by decide) _ _ _ rfl HO2.out B 3 _ _ _ rfl hr2.out ints_one (by unfold maxLen; omega) (by omega) (by omega) ?_); intro v3 w3 hown3 hg3 hat3)
  have hb3 := below_own HL2.out (Nat.le_refl _) HO2.out hg3
  have HO3 := Lib.hid hown3
  have HL3 := Lib.hid hb3
  clear hown3 hg3 hat3 hb3 hr2 hi1 hz01 hz11 hz21
  go_wp2_with fail
  rw [rounds_succ]
  go_wp2_with fail
  go_ret
  refine ⟨_, rfl, ?_, HL3.out⟩
  have := HO3.out
  simpa using this
/-- slices.Concat of two, as numbers that can be read. -/
theorem concat_rd (B g : Nat) (va vb : Value) (la lb : List Int) (w : World) (hg : Blk w g 41 #[va, vb]) (ha : Ints B w va la) (hb : Ints B w vb lb) (h1 : la.length ≤ 1000000) (h2 : lb.length ≤ 1000000) :
    Calls Try.prog 98 #[.slice (some ⟨g, 0, none⟩) 2 2] w fun e w' => ∃ v, e = .returned v ∧ Ints B w' v (la ++ lb) ∧ Below w.heap.size w w' :=
  (concat_any B g va vb la lb w hg ha hb h1 h2).mono fun e w' ⟨v, he, hown, hbl⟩ => ⟨v, he, Rd.of_own hown, hbl⟩
/-- Is it in it? -/
def inL (l : List Int) (x : Int) : Bool := l.contains x
theorem ints_getD {l : List Int} {w : World} {b o : Nat} (h : ∀ j u, (l.map (Value.int .i64))[j]? = some u → w.cell? ⟨b, o + j, none⟩ = some u) : ∀ j, j < l.length → w.cell? ⟨b, o + j, none⟩ = some (.int .i64 (l.getD j 0)) := fun j hj => by
  refine h j _ ?_
  rw [List.getElem?_map, List.getD_eq_getElem?_getD, List.getElem?_eq_getElem hj]
  rfl
theorem contains_any (B : Nat) (v : Value) (l : List Int) (x : Int) (w : World) (h : Ints B w v l) :
    Calls Try.prog 99 #[v, .int .i64 x] w fun e w' => e = .returned (.bool (inL l x)) ∧ w = w' := by
  obtain ⟨_, A, c, rfl, hc, hc2, h4⟩ := h
  rcases Nat.eq_zero_or_pos l.length with h0 | h0
  · have hl : l = [] := List.eq_nil_of_length_eq_zero h0
    subst hl
    exact (Try.slices_Contains_int_empty A c x w).mono fun e w' ⟨h1, h2⟩ => ⟨h1, h2.symm⟩
  · obtain ⟨b, o, rfl, _, _, hcell⟩ := h4 h0
    exact (Try.slices_Contains_int b o l.length c l x w (Nat.le_refl _) (by omega) (ints_getD hcell)).mono fun e w' ⟨h1, h2⟩ => ⟨by rw [h1, List.take_length]; rfl, h2.symm⟩
theorem clone_any (B : Nat) (v : Value) (l : List Int) (w : World) (h : Ints B w v l) (hn : l.length ≤ 1000000) :
    Calls Try.prog 115 #[v] w fun e w' => ∃ v', e = .returned v' ∧ Ints B w' v' l ∧ Below w.heap.size w w' := by
  obtain ⟨_, A, c, rfl, hc, hc2, h4⟩ := h
  rcases Nat.eq_zero_or_pos l.length with h0 | h0
  · have hl : l = [] := List.eq_nil_of_length_eq_zero h0
    subst hl
    cases A with
    | none => exact (Try.slices_Clone_int_nil 0 c w).mono fun e w' ⟨h1, h2⟩ => ⟨_, h1, Rd.nil _ _ _ _, by rw [h2]; exact Below.refl _ _⟩
    | some a => exact (Try.slices_Clone_int_zero a c w).mono fun e w' ⟨v', h1, h2, _, h3⟩ => ⟨v', h1, Rd.of_own h2, h3⟩
  · obtain ⟨b, o, rfl, _, _, hcell⟩ := h4 h0
    exact (Try.slices_Clone_int b o l.length c l w (Nat.le_refl _) (by omega) (ints_getD hcell)).mono fun e w' ⟨v', h1, h2, _, h3⟩ => ⟨v', h1, by rw [List.take_length] at h2; exact Rd.of_own h2, h3⟩
end Go.Proofs.Ytaepdbkfaoiimaa
