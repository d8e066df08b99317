/- The contracts of the reference's chip. Conditions: none but the sizes of any memory. -/
import Derived.Test.YtaepdbkfaoiimaaMg
import Derived.Deep.OwnRows
import Derived.Laws.BytesArg
set_option linter.unusedVariables false
set_option linter.unusedSimpArgs false
namespace Go.Proofs.Ytaepdbkfaoiimaa
open Go.RowKit
/-! ### how it lies in memory -/
def rcell (V : Nat → Value) (c : Chip) (h : Int) (d : ByteArray) (j : Nat) : Value :=
  if j < 24 then V j else if j < 48 then .int .i64 (c.b (j - 24)).wear else if j < 72 then .bool (c.b (j - 48)).weak else if j < 96 then .bool (c.b (j - 72)).bad
  else if j = 96 then .int .i64 c.fuse else if j = 97 then .bool c.down else if j = 98 then .int .i64 h else .string d
def rcells (V : Nat → Value) (c : Chip) (h : Int) (d : ByteArray) : Array Value := ((List.range 100).map (rcell V c h d)).toArray
section
variable {V V' : Nat → Value} {c c' : Chip} {h h' : Int} {d d' : ByteArray} {j n : Nat} {x : Value}
theorem rcells_at (hj : j < 100) : (rcells V c h d)[j]? = some (rcell V c h d j) := by simp [rcells, hj]
theorem rcells_size : (rcells V c h d).size = 100 := by simp [rcells]
theorem rcells_set (hj : j < 100) (hx : ∀ i, i < 100 → rcell V' c' h' d' i = if i = j then x else rcell V c h d i) : (rcells V c h d).setIfInBounds j x = rcells V' c' h' d' := by
  apply Array.ext_getElem?
  intro i
  rw [Array.getElem?_setIfInBounds]
  by_cases e : j = i
  · subst e
    rw [if_pos rfl, if_pos (by rw [rcells_size]; exact hj), rcells_at hj, hx j hj, if_pos rfl]
  · rw [if_neg e]
    by_cases hi : i < 100
    · rw [rcells_at hi, rcells_at hi, hx i hi, if_neg (Ne.symm e)]
    · simp [rcells, hi]
theorem rcell_V (hn : n < 24) : rcell V c h d n = V n := by unfold rcell; rw [if_pos hn]
theorem rcell_wear (hn : n < 24) : rcell V c h d (24 + n) = .int .i64 (c.b n).wear := by
  unfold rcell; rw [if_neg (by omega), if_pos (by omega), show 24 + n - 24 = n by omega]
theorem rcell_weak (hn : n < 24) : rcell V c h d (48 + n) = .bool (c.b n).weak := by
  unfold rcell; rw [if_neg (by omega), if_neg (by omega), if_pos (by omega), show 48 + n - 48 = n by omega]
theorem rcell_bad (hn : n < 24) : rcell V c h d (72 + n) = .bool (c.b n).bad := by
  unfold rcell; rw [if_neg (by omega), if_neg (by omega), if_neg (by omega), if_pos (by omega), show 72 + n - 72 = n by omega]
end
/-- The reference's chip of block m: V b is the slice of block b's pages; h, d: what is on its way. -/
structure RChipV (B : Nat) (w : World) (m : Nat) (V : Nat → Value) (c : Chip) (h : Int) (d : ByteArray) : Prop where
  blk : Blk w m 85 (rcells V c h d)
  rows : ∀ b, b < 24 → Rd B 152 2 w (V b) (c.b b).l.length (sheetL (c.b b).l)
  base : B ≤ m
def HalfOk : Option Pend → Int → ByteArray → Prop
  | none, h, _ => h = 0
  | some (.wr b d), h, d' => h = 1 + (b : Int) ∧ d' = d
  | some (.er b), h, _ => h = 101 + (b : Int)
def RChipR (B : Nat) (w : World) (m : Nat) (c : Chip) : Prop := ∃ V h d, RChipV B w m V c h d ∧ HalfOk c.pend h d ∧ CWf c
section
variable {B m n j : Nat} {M : Nat → Prop} {w w' w0 : World} {V V' : Nat → Value} {c c' : Chip} {h h' : Int} {d d' : ByteArray} {x : Value}
theorem RChipV.cell (hv : RChipV B w m V c h d) (hj : j < 100) : w.cell? ⟨m, j, none⟩ = some (rcell V c h d j) := by rw [hv.blk.cell, rcells_at hj]
theorem RChipV.keep (hv : RChipV B w m V c h d) (hf : Fr B M w w') (hM : ¬ M m) : RChipV B w' m V c h d :=
  ⟨hv.blk.fr hf (.inr (.inl hM)), fun b hb => (hv.rows b hb).fr hf (by decide), hv.base⟩
theorem RChipV.below (hv : RChipV B w m V c h d) (hb : Below w.heap.size w w') : RChipV B w' m V c h d := hv.keep (M := fun _ => False) (.of_below hb) id
theorem RChipV.drewN (hv : RChipV B w m V c h d) (n : Nat) : RChipV B (w.drewN n) m V c h d := ⟨hv.blk, hv.rows, hv.base⟩
theorem RChipV.mut (hv : RChipV B w m V c h d) : m < w.heap.size → ∃ cs T fz, w.heap[m]? = some (.cells cs T fz) ∧ mutT T = true := fun _ => ⟨_, _, _, hv.blk, by decide⟩
theorem RChipV.far {g : Nat} {cs : Array Value} {T : TypeId} (hv : RChipV B w m V c h d) (hg : Blk w g T cs) (hB : B ≤ g) (h1 : T ≠ 85) (h2 : T ≠ 152) (o : Nat) (x : Value) : RChipV B (w.setCell ⟨g, o, none⟩ x) m V c h d :=
  ⟨hv.blk.far (fun e => blk_ne hv.blk (by rw [e]; exact hg) (Ne.symm h1)) x, fun b hb => Rd.far' (hv.rows b hb) hg hB h2 x, hv.base⟩
theorem RChipV.set_ (hv : RChipV B w m V c h d) (hj : j < 100) (hx : ∀ i, i < 100 → rcell V' c' h' d' i = if i = j then x else rcell V c h d i)
    (hr : ∀ b, b < 24 → Rd B 152 2 w (V' b) (c'.b b).l.length (sheetL (c'.b b).l)) : RChipV B (w.setCell ⟨m, j, none⟩ x) m V' c' h' d' :=
  ⟨by have := hv.blk.set_ j x; rw [rcells_set hj hx] at this; exact this, fun b hb => Rd.far' (hr b hb) hv.blk hv.base (by decide) x, hv.base⟩
theorem rfr (hf : Fr B (· = m) w0 w) (hv : RChipV B w m V c h d) (o : Nat) (x : Value) (hk : m < w0.heap.size → ∃ cs T fz, w0.heap[m]? = some (.cells cs T fz) ∧ mutT T = true) : Fr B (· = m) w0 (w.setCell ⟨m, o, none⟩ x) := hf.setCell hv.base (.inl rfl) hk x
theorem RChipR.keep (hr : RChipR B w m c) (hf : Fr B M w w') (hM : ¬ M m) : RChipR B w' m c := by
  obtain ⟨V, h, d, h1, h2, h3⟩ := hr
  exact ⟨V, h, d, h1.keep hf hM, h2, h3⟩
theorem RChipR.below (hr : RChipR B w m c) (hb : Below w.heap.size w w') : RChipR B w' m c := hr.keep (M := fun _ => False) (.of_below hb) id
theorem RChipR.drewN (hr : RChipR B w m c) (n : Nat) : RChipR B (w.drewN n) m c := by
  obtain ⟨V, h, d, h1, h2, h3⟩ := hr
  exact ⟨V, h, d, h1.drewN n, h2, h3⟩
theorem RChipR.lt (hr : RChipR B w m c) : m < w.heap.size := by obtain ⟨V, h, d, h1, h2, h3⟩ := hr; exact h1.blk.lt
theorem RChipR.wf (hr : RChipR B w m c) : CWf c := by obtain ⟨V, h, d, h1, h2, h3⟩ := hr; exact h3
/-- The fields of one block, stored. -/
theorem RChipV.setFuse (hv : RChipV B w m V c h d) (y : Int) : RChipV B (w.setCell ⟨m, 96, none⟩ (.int .i64 y)) m V { c with fuse := y } h d :=
  hv.set_ (by omega) (fun i hi => by unfold rcell; (repeat' split) <;> first | rfl | omega) hv.rows
theorem RChipV.setDown (hv : RChipV B w m V c h d) (y : Bool) : RChipV B (w.setCell ⟨m, 97, none⟩ (.bool y)) m V { c with down := y } h d :=
  hv.set_ (by omega) (fun i hi => by unfold rcell; (repeat' split) <;> first | rfl | omega) hv.rows
theorem RChipV.setHalf (hv : RChipV B w m V c h d) (y : Int) : RChipV B (w.setCell ⟨m, 98, none⟩ (.int .i64 y)) m V c y d :=
  hv.set_ (by omega) (fun i hi => by unfold rcell; (repeat' split) <;> first | rfl | omega) hv.rows
theorem RChipV.setData (hv : RChipV B w m V c h d) (y : ByteArray) : RChipV B (w.setCell ⟨m, 99, none⟩ (.string y)) m V c h y :=
  hv.set_ (by omega) (fun i hi => by unfold rcell; (repeat' split) <;> first | rfl | omega) hv.rows
/-- The same chip but for what is on its way. -/
theorem RChipV.like (hv : RChipV B w m V c h d) (h1 : c'.b = c.b) (h2 : c'.fuse = c.fuse) (h3 : c'.down = c.down) : RChipV B w m V c' h d := by
  refine ⟨?_, fun b hb => by rw [h1]; exact hv.rows b hb, hv.base⟩
  have e : rcells V c' h d = rcells V c h d := by unfold rcells rcell; rw [h1, h2, h3]
  rw [e]; exact hv.blk
theorem RChipV.setWear (hv : RChipV B w m V c h d) (hn : n < 24) (y : Int) : RChipV B (w.setCell ⟨m, 24 + n, none⟩ (.int .i64 y)) m V (c.set n { c.b n with wear := y }) h d := by
  refine hv.set_ (by omega) (fun i hi => ?_) (fun b hb => ?_)
  · unfold rcell
    by_cases e : i = 24 + n
    · subst e
      rw [if_neg (by omega), if_pos (by omega), if_pos rfl, show 24 + n - 24 = n by omega, Chip.set_same]
    · rw [if_neg e]
      by_cases hq : i < 24
      · rw [if_pos hq, if_pos hq]
      by_cases hq2 : i < 48
      · rw [if_neg hq, if_pos hq2, if_neg hq, if_pos hq2, Chip.set_far _ _ (by omega)]
      have e1 : ((c.set n { c.b n with wear := y }).b (i - 48)).weak = (c.b (i - 48)).weak := by
        by_cases hh : i - 48 = n
        · rw [hh, Chip.set_same]
        · rw [Chip.set_far _ _ hh]
      have e2 : ((c.set n { c.b n with wear := y }).b (i - 72)).bad = (c.b (i - 72)).bad := by
        by_cases hh : i - 72 = n
        · rw [hh, Chip.set_same]
        · rw [Chip.set_far _ _ hh]
      rw [e1, e2, if_neg hq, if_neg hq2, if_neg hq, if_neg hq2]; rfl
  · by_cases e : b = n
    · subst e; rw [Chip.set_same]; exact hv.rows b hb
    · rw [Chip.set_far _ _ e]; exact hv.rows b hb
theorem RChipV.setWeak (hv : RChipV B w m V c h d) (hn : n < 24) (y : Bool) : RChipV B (w.setCell ⟨m, 48 + n, none⟩ (.bool y)) m V (c.set n { c.b n with weak := y }) h d := by
  refine hv.set_ (by omega) (fun i hi => ?_) (fun b hb => ?_)
  · unfold rcell
    by_cases e : i = 48 + n
    · subst e
      rw [if_neg (by omega), if_neg (by omega), if_pos (by omega), if_pos rfl, show 48 + n - 48 = n by omega, Chip.set_same]
    · rw [if_neg e]
      have e1 : ((c.set n { c.b n with weak := y }).b (i - 24)).wear = (c.b (i - 24)).wear := by
        by_cases hh : i - 24 = n
        · rw [hh, Chip.set_same]
        · rw [Chip.set_far _ _ hh]
      have e2 : ((c.set n { c.b n with weak := y }).b (i - 72)).bad = (c.b (i - 72)).bad := by
        by_cases hh : i - 72 = n
        · rw [hh, Chip.set_same]
        · rw [Chip.set_far _ _ hh]
      rw [e1, e2]
      by_cases hq : i < 24
      · rw [if_pos hq, if_pos hq]
      by_cases hq1 : i < 48
      · rw [if_neg hq, if_pos hq1, if_neg hq, if_pos hq1]
      by_cases hq2 : i < 72
      · rw [if_neg hq, if_neg hq1, if_pos hq2, if_neg hq, if_neg hq1, if_pos hq2, Chip.set_far _ _ (by omega)]
      rw [if_neg hq, if_neg hq1, if_neg hq2, if_neg hq, if_neg hq1, if_neg hq2]; rfl
  · by_cases e : b = n
    · subst e; rw [Chip.set_same]; exact hv.rows b hb
    · rw [Chip.set_far _ _ e]; exact hv.rows b hb
theorem RChipV.setBad (hv : RChipV B w m V c h d) (hn : n < 24) (y : Bool) : RChipV B (w.setCell ⟨m, 72 + n, none⟩ (.bool y)) m V (c.set n { c.b n with bad := y }) h d := by
  refine hv.set_ (by omega) (fun i hi => ?_) (fun b hb => ?_)
  · unfold rcell
    by_cases e : i = 72 + n
    · subst e
      rw [if_neg (by omega), if_neg (by omega), if_neg (by omega), if_pos (by omega), if_pos rfl, show 72 + n - 72 = n by omega, Chip.set_same]
    · rw [if_neg e]
      have e1 : ((c.set n { c.b n with bad := y }).b (i - 24)).wear = (c.b (i - 24)).wear := by
        by_cases hh : i - 24 = n
        · rw [hh, Chip.set_same]
        · rw [Chip.set_far _ _ hh]
      have e2 : ((c.set n { c.b n with bad := y }).b (i - 48)).weak = (c.b (i - 48)).weak := by
        by_cases hh : i - 48 = n
        · rw [hh, Chip.set_same]
        · rw [Chip.set_far _ _ hh]
      rw [e1, e2]
      by_cases hq : i < 24
      · rw [if_pos hq, if_pos hq]
      by_cases hq1 : i < 48
      · rw [if_neg hq, if_pos hq1, if_neg hq, if_pos hq1]
      by_cases hq2 : i < 72
      · rw [if_neg hq, if_neg hq1, if_pos hq2, if_neg hq, if_neg hq1, if_pos hq2]
      by_cases hq3 : i < 96
      · rw [if_neg hq, if_neg hq1, if_neg hq2, if_pos hq3, if_neg hq, if_neg hq1, if_neg hq2, if_pos hq3, Chip.set_far _ _ (by omega)]
      rw [if_neg hq, if_neg hq1, if_neg hq2, if_neg hq3, if_neg hq, if_neg hq1, if_neg hq2, if_neg hq3]; rfl
  · by_cases e : b = n
    · subst e; rw [Chip.set_same]; exact hv.rows b hb
    · rw [Chip.set_far _ _ e]; exact hv.rows b hb
theorem RChipV.setRow (hv : RChipV B w m V c h d) (hn : n < 24) (l : List Sheet) {v : Value} (hr : Rd B 152 2 w v l.length (sheetL l)) :
    RChipV B (w.setCell ⟨m, n, none⟩ v) m (fun i => if i = n then v else V i) (c.set n { c.b n with l := l }) h d := by
  refine hv.set_ (by omega) (fun i hi => ?_) (fun b hb => ?_)
  · unfold rcell
    by_cases e : i = n
    · subst e
      rw [if_pos hn, if_pos rfl]
      exact if_pos rfl
    · rw [if_neg e]
      have e1 : ((c.set n { c.b n with l := l }).b (i - 24)).wear = (c.b (i - 24)).wear := by
        by_cases hh : i - 24 = n
        · rw [hh, Chip.set_same]
        · rw [Chip.set_far _ _ hh]
      have e2 : ((c.set n { c.b n with l := l }).b (i - 48)).weak = (c.b (i - 48)).weak := by
        by_cases hh : i - 48 = n
        · rw [hh, Chip.set_same]
        · rw [Chip.set_far _ _ hh]
      have e3 : ((c.set n { c.b n with l := l }).b (i - 72)).bad = (c.b (i - 72)).bad := by
        by_cases hh : i - 72 = n
        · rw [hh, Chip.set_same]
        · rw [Chip.set_far _ _ hh]
      rw [e1, e2, e3]
      by_cases hq : i < 24
      · rw [if_pos hq, if_pos hq]
        exact if_neg e
      rw [if_neg hq, if_neg hq]; rfl
  · by_cases e : b = n
    · subst e; rw [Chip.set_same, if_pos rfl]; exact hr
    · rw [Chip.set_far _ _ e, if_neg e]; exact hv.rows b hb
end
theorem rnew_any (B : Nat) (w : World) (hB : B ≤ w.heap.size) :
    Calls Try.prog 44 #[] w fun e w' => ∃ m, e = .returned (.pointer (some ⟨m, 0, none⟩)) ∧ w.heap.size ≤ m ∧ RChipR B w' m Chip.new ∧ Below w.heap.size w w' := by
  go_enter Try.func44, Try.ntmps44
  go_wp2_with fail
  go_ret
  refine ⟨w.heap.size, rfl, Nat.le_refl _, ⟨fun _ => .slice none 0 0, 0, ⟨#[]⟩, ⟨?_, fun b hb => Rd.nil _ _ _ _, hB⟩, rfl, CWf.new⟩, (Below.refl _ _).alloc (Nat.le_refl _) _⟩
  exact Blk.new w 85 (rcells (fun _ => .slice none 0 0) Chip.new 0 ⟨#[]⟩)
theorem rready_any (B m : Nat) (c : Chip) (b : Int) (w : World) (hr : RChipR B w m c) :
    Calls Try.prog 93 #[.pointer (some ⟨m, 0, none⟩), .int .i64 b] w fun e w' => e = .returned (.int .i64 (c.ready b)) ∧ w = w' := by
  obtain ⟨V, h, d, hv, _, _⟩ := hr
  have hd : w.cell? ⟨m, 97, none⟩ = some (.bool c.down) := hv.cell (j := 97) (by omega)
  cases hdn : c.down
  · rw [hdn] at hd
    by_cases hb : b < 0 ∨ 24 ≤ b
    · have e : c.ready b = 1 := by unfold Chip.ready; rw [hdn, if_neg (by simp), if_pos hb]
      rw [e]
      clear hv e hdn
      rcases hb with hb | hb
      · go_enter Try.func93, Try.ntmps93
        go_wp2_with fail
        go_ret
        exact ⟨rfl, rfl⟩
      · have hb2 : ¬ b < 0 := by omega
        have hb3 : (23 : Int) < b := by omega
        go_enter Try.func93, Try.ntmps93
        go_wp2_with fail
        go_ret
        exact ⟨rfl, rfl⟩
    · obtain ⟨n, rfl⟩ := Int.eq_ofNat_of_zero_le (show 0 ≤ b by omega)
      have hn : n < 24 := by omega
      have hc := hv.cell (j := 72 + n) (by omega)
      rw [rcell_bad hn] at hc
      have hn2 : ¬ ((n : Int) < 0) := by omega
      have hn3 : ¬ (23 < (n : Int)) := by omega
      have hn4 : decide (23 < (n : Int)) = false := by simpa using hn3
      have e : c.ready n = if (c.b n).bad then 7 else 0 := by unfold Chip.ready; rw [hdn, if_neg (by simp), if_neg hb, Int.toNat_natCast]
      rw [e]
      clear hv e hdn hb
      cases hbd : (c.b n).bad <;> rw [hbd] at hc <;> clear hbd
      all_goals
        go_enter Try.func93, Try.ntmps93
        go_wp2_with fail
        go_ret
        exact ⟨rfl, rfl⟩
  · rw [hdn] at hd
    have e : c.ready b = 9 := by unfold Chip.ready; rw [hdn, if_pos rfl]
    rw [e]
    clear hv e hdn
    go_enter Try.func93, Try.ntmps93
    go_wp2_with fail
    go_ret
    exact ⟨rfl, rfl⟩
theorem rfalls_yes (B m : Nat) (V : Nat → Value) (c : Chip) (h : Int) (d : ByteArray) (w : World) (hv : RChipV B w m V c h d) (hf : c.fuse = 0) :
    Calls Try.prog 94 #[.pointer (some ⟨m, 0, none⟩)] w fun e w' => e = .returned (.bool true) ∧ RChipV B w' m V { c with down := true } h d ∧ Fr B (· = m) w w' := by
  have hc : w.cell? ⟨m, 96, none⟩ = some (.int .i64 c.fuse) := hv.cell (j := 96) (by omega)
  have hc2 : w.cell? ⟨m, 97, none⟩ = some (.bool c.down) := hv.cell (j := 97) (by omega)
  have hz := hv.blk.frozen 97
  rw [hf] at hc
  have HV := Lib.hid hv
  clear hv hf
  go_enter Try.func94, Try.ntmps94
  go_wp2_with fail
  go_ret
  exact ⟨rfl, HV.out.setDown true, rfr (Fr.refl B _ w) HV.out _ _ HV.out.mut⟩
theorem rfalls_no (B m : Nat) (V : Nat → Value) (c : Chip) (h : Int) (d : ByteArray) (w : World) (hv : RChipV B w m V c h d) (hf : c.fuse ≠ 0) (hf2 : -1 ≤ c.fuse ∧ c.fuse ≤ 9223372036854775807) :
    Calls Try.prog 94 #[.pointer (some ⟨m, 0, none⟩)] w fun e w' => e = .returned (.bool false) ∧ RChipV B w' m V { c with fuse := if 0 < c.fuse then c.fuse - 1 else c.fuse } h d ∧ Fr B (· = m) w w' := by
  have hc : w.cell? ⟨m, 96, none⟩ = some (.int .i64 c.fuse) := hv.cell (j := 96) (by omega)
  have hz := hv.blk.frozen 96
  have t7 : (c.fuse == 0) = false := by rw [beq_eq_false_iff_ne]; exact hf
  have HV := Lib.hid hv
  by_cases hp : 0 < c.fuse
  · have t15 : decide (0 < c.fuse) = true := decide_eq_true hp
    have HW : Hid (wrap64 (c.fuse - 1) = c.fuse - 1) := w64 _ (by omega) (by omega)
    rw [if_pos hp]
    clear hv hf hf2 hp
    generalize hfu : c.fuse = fu at *
    go_enter Try.func94, Try.ntmps94
    go_wp2_with fail
    go_ret
    refine ⟨rfl, ?_, rfr (Fr.refl B _ w) HV.out _ _ HV.out.mut⟩
    have := HV.out.setFuse (fu - 1)
    first | exact this | (rw [HW.out]; exact this)
  · have t15 : decide (0 < c.fuse) = false := decide_eq_false hp
    rw [if_neg hp]
    clear hv hf hf2 hp
    have HC : Hid (({ c with fuse := c.fuse } : Chip) = c) := rfl
    generalize hfu : c.fuse = fu at *
    go_enter Try.func94, Try.ntmps94
    go_wp2_with fail
    go_ret
    exact ⟨rfl, by subst hfu; exact HV.out, Fr.refl B _ w⟩
theorem rweaken_any (B m : Nat) (c : Chip) (b : Int) (w : World) (hr : RChipR B w m c) :
    Calls Try.prog 50 #[.pointer (some ⟨m, 0, none⟩), .int .i64 b] w fun e w' => e = .returned (.int .i64 (c.weaken b).2) ∧ RChipR B w' m (c.weaken b).1 ∧ Fr B (· = m) w w' := by
  by_cases hb : b < 2 ∨ 24 ≤ b
  · have e : c.weaken b = (c, 1) := if_pos hb
    rw [e]
    have HR := Lib.hid hr
    clear hr e
    rcases hb with hb | hb
    · go_enter Try.func50, Try.ntmps50
      go_wp2_with fail
      go_ret
      exact ⟨rfl, HR.out, Fr.refl _ _ _⟩
    · have hb2 : ¬ b < 2 := by omega
      have hb3 : 23 < b := by omega
      go_enter Try.func50, Try.ntmps50
      go_wp2_with fail
      go_ret
      exact ⟨rfl, HR.out, Fr.refl _ _ _⟩
  · have e : c.weaken b = (c.set b.toNat { c.b b.toNat with weak := true }, 0) := if_neg hb
    obtain ⟨V, h, d, hv, hu, hwf⟩ := hr
    have hw' := hwf.weaken_ b
    rw [e] at hw' ⊢
    obtain ⟨n, rfl⟩ := Int.eq_ofNat_of_zero_le (show 0 ≤ b by omega)
    have hn : n < 24 := by omega
    have hn2 : ¬ ((n : Int) < 2) := by omega
    have hn3 : ¬ (23 < (n : Int)) := by omega
    rw [Int.toNat_natCast] at *
    have hc := hv.cell (j := 48 + n) (by omega)
    rw [rcell_weak hn] at hc
    have hfz := hv.blk.frozen (48 + n)
    have HV := Lib.hid hv
    have HU := Lib.hid hu
    have HW := Lib.hid hw'
    clear hv hu hwf hw' e hb
    go_enter Try.func50, Try.ntmps50
    go_wp2_with fail
    go_ret
    exact ⟨rfl, ⟨V, h, d, HV.out.setWeak hn true, HU.out, HW.out⟩, rfr (Fr.refl B _ w) HV.out _ _ HV.out.mut⟩
theorem rsheets_form {B : Nat} {w : World} {v : Value} {l : List Sheet} (h : Rd B 152 2 w v l.length (sheetL l)) : ∃ A cap, v = .slice A l.length cap ∧ l.length ≤ cap ∧ cap ≤ 9223372036854775807 ∧ ∀ i s, l[i]? = some s → ∃ b o, A = some ⟨b, o, none⟩ ∧ b < w.heap.size ∧ w.cell? ⟨b, o + i * 2, none⟩ = some (.string s.d) ∧ w.cell? ⟨b, o + i * 2 + 1, none⟩ = some (.bool s.t) := by
  obtain ⟨_, A, c, h1, h2, h3, h4⟩ := h
  refine ⟨A, c, h1, h2, h3, fun i s hi => ?_⟩
  have hlt : i < l.length := by
    rcases Nat.lt_or_ge i l.length with h | h
    · exact h
    · rw [List.getElem?_eq_none h] at hi; cases hi
  obtain ⟨b, o, hA, _, hb, hc⟩ := h4 (by omega)
  obtain ⟨f1, f2⟩ := sheetL_at hi
  exact ⟨b, o, hA, hb, hc _ _ f1, by have := hc _ _ f2; rwa [← Nat.add_assoc] at this⟩
set_option maxHeartbeats 1000000 in
theorem rread_any (B m : Nat) (c : Chip) (b q : Int) (w : World) (hr : RChipR B w m c) :
    Calls Try.prog 55 #[.pointer (some ⟨m, 0, none⟩), .int .i64 b, .int .i64 q] w fun e w' => e = .returned (.tuple #[.string (c.read b q).1, .int .i64 (c.read b q).2]) ∧ w = w' := by
  have fin : ∀ (s : ByteArray) (n : Nat), c.read b q = (s, n) → ∀ (tmps : Array Value), tmps[6]? = some (.string s) → tmps[7]? = some (.int .i64 n) →
      bodyPost Try.prog Try.f55 (fun e w' => e = .returned (.tuple #[.string (c.read b q).1, .int .i64 (c.read b q).2]) ∧ w = w') .ret { tmps := tmps, defers := [] } w := by
    intro s n e tmps h6 h7
    rw [e]
    exact bodyPost_ret (v := .tuple #[.string s, .int .i64 n]) (by simp [results, Try.results55, go_sem, h6, h7]) rfl ⟨rfl, rfl⟩
  have FIN := Lib.hid fin
  clear fin
  obtain ⟨V, h, d, hv, _, _⟩ := hr
  have hd : w.cell? ⟨m, 97, none⟩ = some (.bool c.down) := hv.cell (j := 97) (by omega)
  cases hdn : c.down
  · rw [hdn] at hd
    by_cases hb : b < 0 ∨ 24 ≤ b ∨ q < 0 ∨ 8 ≤ q
    · have e : c.read b q = (ByteArray.empty, 1) := by unfold Chip.read; rw [hdn, if_neg (by simp), if_pos hb]
      have E := Lib.hid e
      clear hv e hdn
      by_cases h1 : b < 0
      · go_enter Try.func55, Try.ntmps55
        go_wp2_with fail
        exact FIN.out _ 1 E.out _ rfl rfl
      · by_cases h2 : 23 < b
        · clear hb
          go_enter Try.func55, Try.ntmps55
          go_wp2_with fail
          exact FIN.out _ 1 E.out _ rfl rfl
        · by_cases h3 : q < 0
          · clear hb
            go_enter Try.func55, Try.ntmps55
            go_wp2_with fail
            exact FIN.out _ 1 E.out _ rfl rfl
          · have h4 : 7 < q := by omega
            clear hb
            go_enter Try.func55, Try.ntmps55
            go_wp2_with fail
            exact FIN.out _ 1 E.out _ rfl rfl
    · obtain ⟨n, rfl⟩ := Int.eq_ofNat_of_zero_le (show 0 ≤ b by omega)
      obtain ⟨k, rfl⟩ := Int.eq_ofNat_of_zero_le (show 0 ≤ q by omega)
      have hn : n < 24 := by omega
      have hk : k < 8 := by omega
      have hc := hv.cell (j := n) (by omega)
      rw [rcell_V hn] at hc
      obtain ⟨A, cap, h1, h2, h3, h4⟩ := rsheets_form (hv.rows n hn)
      rw [h1] at hc
      have e : c.read n k = match (c.b n).l[k]? with
          | none => (ByteArray.empty, 5)
          | some s => if s.t then (ByteArray.empty, 4) else (s.d, 0) := by
        unfold Chip.read; rw [hdn, if_neg (by simp), if_neg hb, Int.toNat_natCast, Int.toNat_natCast]; try rfl
      have n1 : ¬ ((n : Int) < 0) := by omega
      have n2 : ¬ (23 < (n : Int)) := by omega
      have n3 : ¬ ((k : Int) < 0) := by omega
      have n4 : ¬ (7 < (k : Int)) := by omega
      have H4 := Lib.hid h4
      have E := Lib.hid e
      clear hv e hdn hb h1 h4
      by_cases hkl : k < (c.b n).l.length
      · obtain ⟨s, hs, _, _⟩ := getElem?_of_lt hkl
        obtain ⟨bb, o, rfl, hbb, c1, c2⟩ := H4.out k s hs
        have g1 : (0 : Int) ≤ (k : Int) := by omega
        have g2 : (k : Int) < ((c.b n).l.length : Int) := by omega
        have t1 : decide (((c.b n).l.length : Int) ≤ (k : Int)) = false := decide_eq_false (by omega)
        have HE : Hid (c.read n k = if s.t then (ByteArray.empty, 4) else (s.d, 0)) := by rw [Hid, E.out, hs]
        clear hs E
        cases hst : s.t
        · rw [hst] at c2 HE
          clear hst
          go_enter Try.func55, Try.ntmps55
          go_wp2_with fail
          exact FIN.out _ 0 HE.out _ rfl rfl
        · rw [hst] at c2 HE
          clear hst
          go_enter Try.func55, Try.ntmps55
          go_wp2_with fail
          exact FIN.out _ 4 HE.out _ rfl rfl
      · have HE : Hid (c.read n k = (ByteArray.empty, 5)) := by rw [Hid, E.out, List.getElem?_eq_none (by omega)]
        have t1 : decide (((c.b n).l.length : Int) ≤ (k : Int)) = true := decide_eq_true (by omega)
        clear E
        go_enter Try.func55, Try.ntmps55
        go_wp2_with fail
        exact FIN.out _ 5 HE.out _ rfl rfl
  · rw [hdn] at hd
    have e : c.read b q = (ByteArray.empty, 9) := by unfold Chip.read; rw [hdn, if_pos rfl]
    have E := Lib.hid e
    clear hv e hdn
    go_enter Try.func55, Try.ntmps55
    go_wp2_with fail
    exact FIN.out _ 9 E.out _ rfl rfl
set_option maxRecDepth 20000 in
set_option maxHeartbeats 4000000 in
theorem rerase_any (B m : Nat) (c : Chip) (b : Int) (w : World) (hr : RChipR B w m c) :
    Calls Try.prog 48 #[.pointer (some ⟨m, 0, none⟩), .int .i64 b] w fun e w' => e = .returned (.int .i64 (c.erase b).2) ∧ RChipR B w' m (c.erase b).1 ∧ Fr B (· = m) w w' := by
  have HRD := Lib.hid (rready_any B m c b w hr)
  by_cases h0 : c.ready b = 0
  case neg =>
    have HE : Hid (c.erase b = (c, c.ready b)) := if_pos h0
    have t11 : decide ((0 : Int) < (c.ready b : Int)) = true := decide_eq_true (by omega)
    have t11n : decide (0 < c.ready b) = true := decide_eq_true (by omega)
    have HR := Lib.hid hr
    rw [HE.out]
    clear hr h0 HE
    go_enter Try.func48, Try.ntmps48
    go_wp2_with fail
    refine HRD.out.mono ?_
    rintro e w1 ⟨rfl, rfl⟩
    go_wp2_with fail
    go_ret
    exact ⟨rfl, HR.out, Fr.refl _ _ _⟩
  obtain ⟨hd, hb0, hb1, hbad⟩ := ready_zero h0
  have hwf' := hr.wf.erase_ b
  rw [h0] at HRD
  have HE0 : Hid (c.erase b = if (c.b b.toNat).weak then (c.spoil b.toNat, 7) else c.step (.er b.toNat)) := by rw [Hid, Chip.erase, if_neg (by simp [h0])]
  obtain ⟨n, rfl⟩ := Int.eq_ofNat_of_zero_le hb0
  rw [Int.toNat_natCast] at *
  have hn : n < 24 := by omega
  obtain ⟨V, h, d, hv, hu, hwf⟩ := hr
  have hn2 : ¬ ((n : Int) < 0) := by omega
  have c0 := hv.cell (j := n) (by omega)
  have c1 := hv.cell (j := 24 + n) (by omega)
  have c2 := hv.cell (j := 48 + n) (by omega)
  have c3 := hv.cell (j := 72 + n) (by omega)
  rw [rcell_V hn] at c0
  rw [rcell_wear hn] at c1
  rw [rcell_weak hn] at c2
  rw [rcell_bad hn] at c3
  have HV := Lib.hid hv
  have HU := Lib.hid hu
  have HW := Lib.hid hwf'
  have HFU := Lib.hid hwf.fuse
  cases hwk : (c.b n).weak
  case true =>
    rw [hwk] at c2
    have HE : Hid (c.erase (n : Int) = (c.spoil n, 7)) := by rw [Hid, HE0.out, if_pos hwk]
    have HSP : Hid (c.spoil n = c.set n { c.b n with bad := true }) := if_pos hwk
    rw [HE.out] at HW ⊢
    have f3 := hv.blk.frozen (72 + n)
    clear hv hu hwf hwf' hwk HE0 HE h0 hd hbad c0 c1
    go_enter Try.func48, Try.ntmps48
    go_wp2_with fail
    refine HRD.out.mono ?_
    rintro e w1 ⟨rfl, rfl⟩
    go_wp2_with fail
    go_ret
    refine ⟨rfl, ⟨V, h, d, ?_, ?_, HW.out⟩, rfr (Fr.refl B _ w) HV.out _ _ HV.out.mut⟩
    · rw [HSP.out]; exact HV.out.setBad hn true
    · rw [HSP.out]; exact HU.out
  case false =>
    rw [hwk] at c2
    have HE : Hid (c.erase (n : Int) = c.step (.er n)) := by rw [Hid, HE0.out, if_neg (by rw [hwk]; simp)]
    rw [HE.out] at HW ⊢
    by_cases hf : c.fuse = 0
    · have HFA := Lib.hid (rfalls_yes B m V c h d w hv hf)
      have HS : Hid (c.step (.er n) = ({ c with down := true, pend := some (.er n) }, 9)) := if_pos hf
      rw [HS.out] at HW ⊢
      clear hv hu hwf hwf' hwk HE0 HE h0 hd hbad c0 c1 hf
      go_enter Try.func48, Try.ntmps48
      go_wp2_with fail
      refine HRD.out.mono ?_
      rintro e w1 ⟨rfl, rfl⟩
      go_wp2_with fail
      refine HFA.out.mono ?_
      rintro e w2 ⟨rfl, hv2, hf2⟩
      have f98 := hv2.blk.frozen 98
      have c98 : w2.cell? ⟨m, 98, none⟩ = some (.int .i64 h) := hv2.cell (j := 98) (by omega)
      have HV2 := Lib.hid hv2
      have HF2 := Lib.hid hf2
      have HWR : Hid (wrap64 (101 + (n : Int)) = 101 + (n : Int)) := w64 _ (by omega) (by omega)
      clear hv2 hf2 HFA HRD
      go_wp2_with fail
      go_ret
      refine ⟨rfl, ⟨V, 101 + (n : Int), d, ?_, rfl, HW.out⟩, rfr HF2.out HV2.out _ _ HV.out.mut⟩
      have := (HV2.out.setHalf (101 + (n : Int))).like (c' := { c with down := true, pend := some (.er n) }) rfl rfl rfl
      first | exact this | (rw [HWR.out]; exact this)
    · have HFA := Lib.hid (rfalls_no B m V c h d w hv hf hwf.fuse)
      have HS : Hid (c.step (.er n) = (doP { c with fuse := if 0 < c.fuse then c.fuse - 1 else c.fuse } (.er n), 0)) := if_neg hf
      obtain ⟨cc, hcc⟩ : ∃ cc : Chip, ({ c with fuse := if 0 < c.fuse then c.fuse - 1 else c.fuse } : Chip) = cc := ⟨_, rfl⟩
      rw [hcc] at HFA HS
      have HU1 : Hid (HalfOk (doP cc (.er n)).pend h d) := by rw [← hcc]; exact hu
      rw [HS.out] at HW ⊢
      clear hv hu hwf hwf' hwk HE0 HE h0 hd hbad hf hcc HU HFU HS
      go_enter Try.func48, Try.ntmps48
      go_wp2_with fail
      refine HRD.out.mono ?_
      rintro e w1 ⟨rfl, rfl⟩
      go_wp2_with fail
      refine HFA.out.mono ?_
      rintro e w2 ⟨rfl, hv2, hf2⟩
      have f0 := hv2.blk.frozen n
      have f1 := hv2.blk.frozen (24 + n)
      have y0 := hv2.cell (j := n) (by omega)
      have y1 := hv2.cell (j := 24 + n) (by omega)
      rw [rcell_V hn] at y0
      rw [rcell_wear hn] at y1
      have HV2 := Lib.hid hv2
      have HF2 := Lib.hid hf2
      clear hv2 hf2 HFA HRD c0 c1
      go_wp2_with fail
      go_region
      go_wp2_with fail
      go_ret
      have hs1 := HV2.out.setRow hn [] (Rd.nil _ _ _ _)
      have hs2 := hs1.setWear hn (wrap64 ((cc.b n).wear + 1))
      refine ⟨rfl, ⟨fun i => if i = n then .slice none 0 0 else V i, h, d, ?_, HU1.out, HW.out⟩, (rfr (rfr HF2.out HV2.out _ _ HV.out.mut) hs1 _ _ HV.out.mut).drewN 1⟩
      have e : doP cc (.er n) = ((cc.set n { cc.b n with l := [] }).set n { cc.b n with l := [], wear := wrap64 ((cc.b n).wear + 1) }) := by
        unfold doP Chip.set
        simp only
        congr 1
        funext i
        split <;> rfl
      rw [e]
      simp only [Chip.set_same] at hs2
      exact hs2.drewN 1
theorem info_sheet : (Try.prog.info? 152).map (fun i => (i.zero, i.size, i.bytes)) = some (some (.agg #[.string ByteArray.empty, .bool false]), 2, 24) := by kernel_rfl
theorem new_sheet {w0 W : World} (h : Below w0.heap.size w0 W) (x y : Value) : Below w0.heap.size w0 (W.alloc (.cells #[x, y] 152)) ∧ Rd w0.heap.size 152 2 (W.alloc (.cells #[x, y] 152)) (.slice (some ⟨W.heap.size, 0, none⟩) 1 1) 1 [x, y] := by
  refine ⟨h.alloc h.size _, by simp, some ⟨W.heap.size, 0, none⟩, 1, rfl, Nat.le_refl _, by omega, fun _ => ⟨W.heap.size, 0, rfl, .inr ⟨_, _, heap_alloc_new _ _⟩, by simp, fun j u hu => ?_⟩⟩
  rw [(Blk.new W 152 #[x, y]).cell, Nat.zero_add]
  simpa using hu
theorem sheet_one (l : List Sheet) : ∀ u ∈ sheetL l, u.oneCell' = true := by
  intro u hu
  obtain ⟨s, _, hs⟩ := List.mem_flatMap.1 hu
  simp at hs
  rcases hs with rfl | rfl <;> rfl
theorem make_pad (d : ByteArray) (hd : d.size ≤ 64) (W : World) : (Instr.makeSlice 139 (.int .i64 (64 - (d.size : Int))) (.int .i64 (64 - (d.size : Int)))).run Try.prog W = .ok (.slice (some ⟨W.heap.size, 0, none⟩) (64 - d.size) (64 - d.size)) (W.alloc (.cells (madeCells #[.int .u8 0] (64 - d.size)) 5)) := by
  rw [show (64 - (d.size : Int)) = ((64 - d.size : Nat) : Int) by omega]
  exact run_make_row' 139 5 (.int .u8 0) 1 Try.underlying139 (by kernel_rfl) rfl .i64 .i64 _ (by omega) (by omega) W
theorem conv_pad (n : Nat) (W : World) : (convert 139 9 (.slice (some ⟨W.heap.size, 0, none⟩) n n)).run Try.prog (W.alloc (.cells (madeCells #[.int .u8 0] n) 5)) = .ok (.string (zpad n)) (W.alloc (.cells (madeCells #[.int .u8 0] n) 5)) := by
  have hz : zpad n = strOfNums (List.replicate n 0) := by simp [zpad, strOfNums]
  rw [hz]
  refine run_convert_bytes_arg _ _ _ Try.underlying139 Try.underlying5 W.heap.size 0 n n (List.replicate n 0) (by simp) (fun i hi => ?_) _ Try.underlying9
  rw [(Blk.new W 5 (madeCells #[.int .u8 0] n)).cell, Nat.zero_add, ← Array.getElem?_toList, toList_madeCells_one]
  simp [hi]
set_option maxRecDepth 20000 in
set_option maxHeartbeats 8000000 in
theorem rcwrite_any (B m : Nat) (c : Chip) (b : Int) (d : ByteArray) (w : World) (hr : RChipR B w m c) (hs : d.size ≤ 9223372036854775807) :
    Calls Try.prog 46 #[.pointer (some ⟨m, 0, none⟩), .int .i64 b, .string d] w fun e w' => e = .returned (.int .i64 (c.write b d).2) ∧ RChipR B w' m (c.write b d).1 ∧ Fr B (· = m) w w' := by
  have HRD := Lib.hid (rready_any B m c b w hr)
  by_cases h0 : c.ready b = 0
  case neg =>
    have HE : Hid (c.write b d = (c, c.ready b)) := if_pos h0
    have t11 : decide ((0 : Int) < (c.ready b : Int)) = true := decide_eq_true (by omega)
    have t11n : decide (0 < c.ready b) = true := decide_eq_true (by omega)
    have HR := Lib.hid hr
    rw [HE.out]
    clear hr h0 HE
    go_enter Try.func46, Try.ntmps46
    go_wp2_with fail
    refine HRD.out.mono ?_
    rintro e w1 ⟨rfl, rfl⟩
    go_wp2_with fail
    go_ret
    exact ⟨rfl, HR.out, Fr.refl _ _ _⟩
  obtain ⟨hd, hb0, hb1, hbad⟩ := ready_zero h0
  have hwf' := hr.wf.write_ b d
  rw [h0] at HRD
  have HE0 : Hid (c.write b d = if 64 < d.size then (c, 2) else if (c.b b.toNat).l.length = 8 then (c, 6) else if (c.b b.toNat).weak then (c.spoil b.toNat, 7) else c.step (.wr b.toNat (pad d))) := by rw [Hid, Chip.write, if_neg (by simp [h0])]
  obtain ⟨n, rfl⟩ := Int.eq_ofNat_of_zero_le hb0
  rw [Int.toNat_natCast] at *
  have hn : n < 24 := by omega
  by_cases hd64 : 64 < d.size
  · have HE : Hid (c.write (n : Int) d = (c, 2)) := by rw [Hid, HE0.out, if_pos hd64]
    have t17 : decide ((64 : Int) < (d.size : Int)) = true := decide_eq_true (by omega)
    have HR := Lib.hid hr
    rw [HE.out]
    clear hr h0 HE HE0 hwf' hd64 hd hbad
    go_enter Try.func46, Try.ntmps46
    go_wp2_with fail
    refine HRD.out.mono ?_
    rintro e w1 ⟨rfl, rfl⟩
    go_wp2_with fail
    go_ret
    exact ⟨rfl, HR.out, Fr.refl _ _ _⟩
  have t17 : decide ((64 : Int) < (d.size : Int)) = false := decide_eq_false (by omega)
  have HR := Lib.hid hr
  obtain ⟨V, h, dd, hv, hu, hwf⟩ := hr
  have hn2 : ¬ ((n : Int) < 0) := by omega
  obtain ⟨A0, k0, hV, _, _, _⟩ := rsheets_form (hv.rows n hn)
  have c0 := hv.cell (j := n) (by omega)
  have c2 := hv.cell (j := 48 + n) (by omega)
  have c3 := hv.cell (j := 72 + n) (by omega)
  rw [rcell_V hn, hV] at c0
  rw [rcell_weak hn] at c2
  rw [rcell_bad hn] at c3
  by_cases hl8 : (c.b n).l.length = 8
  · have HE : Hid (c.write (n : Int) d = (c, 6)) := by rw [Hid, HE0.out, if_neg hd64, if_pos hl8]
    rw [hl8] at c0
    rw [HE.out]
    clear h0 HE HE0 hwf' hd64 hd hbad hv hu hwf c2 c3
    go_enter Try.func46, Try.ntmps46
    go_wp2_with fail
    refine HRD.out.mono ?_
    rintro e w1 ⟨rfl, rfl⟩
    go_wp2_with fail
    go_ret
    exact ⟨rfl, HR.out, Fr.refl _ _ _⟩
  have t25 : (((c.b n).l.length : Int) == 8) = false := by rw [beq_eq_false_iff_ne]; omega
  have HV := Lib.hid hv
  have HU := Lib.hid hu
  have HW := Lib.hid hwf'
  have HFU := Lib.hid hwf.fuse
  have hlen := hwf.len n hn
  cases hwk : (c.b n).weak
  case true =>
    rw [hwk] at c2
    have HE : Hid (c.write (n : Int) d = (c.spoil n, 7)) := by rw [Hid, HE0.out, if_neg hd64, if_neg hl8, if_pos hwk]
    have HSP : Hid (c.spoil n = c.set n { c.b n with bad := true }) := if_pos hwk
    rw [HE.out] at HW ⊢
    have f3 := hv.blk.frozen (72 + n)
    clear hv hu hwf hwf' hwk HE0 HE h0 hd hbad HR hd64 hl8
    go_enter Try.func46, Try.ntmps46
    go_wp2_with fail
    refine HRD.out.mono ?_
    rintro e w1 ⟨rfl, rfl⟩
    go_wp2_with fail
    go_ret
    refine ⟨rfl, ⟨V, h, dd, ?_, ?_, HW.out⟩, rfr (Fr.refl B _ w) HV.out _ _ HV.out.mut⟩
    · rw [HSP.out]; exact HV.out.setBad hn true
    · rw [HSP.out]; exact HU.out
  rw [hwk] at c2
  have HE : Hid (c.write (n : Int) d = c.step (.wr n (pad d))) := by rw [Hid, HE0.out, if_neg hd64, if_neg hl8, if_neg (by rw [hwk]; simp)]
  rw [HE.out] at HW ⊢
  have hmk := fun W => make_pad d (by omega) W
  have hcv := fun W => conv_pad (64 - d.size) W
  have HPD := Lib.hid (pad_eq d)
  have z1 : (zpad (64 - d.size)).size = 64 - d.size := zpad_size _
  have hb1 : Below w.heap.size w (w.alloc (.cells (madeCells #[.int .u8 0] (64 - d.size)) 5)) := (Below.refl _ _).alloc (Nat.le_refl _) _
  have hv1 := hv.below hb1
  have HB1 := Lib.hid hb1
  have hlen8 : (c.b n).l.length < 8 := by omega
  by_cases hf : c.fuse = 0
  · have HFA := Lib.hid (rfalls_yes B m V c h dd _ hv1 hf)
    have HS : Hid (c.step (.wr n (pad d)) = ({ c with down := true, pend := some (.wr n (pad d)) }, 9)) := if_pos hf
    rw [HS.out] at HW ⊢
    clear hv hu hwf hwf' hwk HE0 HE h0 hd hbad hf HR hd64 hl8 hv1 hb1
    go_enter Try.func46, Try.ntmps46
    go_wp2_with fail
    refine HRD.out.mono ?_
    rintro e w1 ⟨rfl, rfl⟩
    go_wp2_with fail
    refine HFA.out.mono ?_
    rintro e w2 ⟨rfl, hv2, hf2⟩
    have f98 := hv2.blk.frozen 98
    have f99 := hv2.blk.frozen 99
    have c98 : w2.cell? ⟨m, 98, none⟩ = some (.int .i64 h) := hv2.cell (j := 98) (by omega)
    have c99 : w2.cell? ⟨m, 99, none⟩ = some (.string dd) := hv2.cell (j := 99) (by omega)
    have HV2 := Lib.hid hv2
    have HF2 : Hid (Fr B (· = m) w w2) := (Fr.of_below HB1.out).trans' hf2 (fun _ _ h => h)
    clear hv2 hf2 HFA HRD
    rw [HPD.out]
    go_wp2_with fail
    go_ret
    have hv3 := HV2.out.setHalf (1 + (n : Int))
    refine ⟨rfl, ⟨V, 1 + (n : Int), pad d, ?_, ⟨rfl, rfl⟩, HW.out⟩, rfr (rfr HF2.out HV2.out _ _ HV.out.mut) hv3 _ _ HV.out.mut⟩
    exact (hv3.setData (pad d)).like (c' := { c with down := true, pend := some (.wr n (pad d)) }) rfl rfl rfl
  have HFA := Lib.hid (rfalls_no B m V c h dd _ hv1 hf hwf.fuse)
  have HS : Hid (c.step (.wr n (pad d)) = (doP { c with fuse := if 0 < c.fuse then c.fuse - 1 else c.fuse } (.wr n (pad d)), 0)) := if_neg hf
  obtain ⟨cc, hcc⟩ : ∃ cc : Chip, ({ c with fuse := if 0 < c.fuse then c.fuse - 1 else c.fuse } : Chip) = cc := ⟨_, rfl⟩
  rw [hcc] at HFA HS
  have HU1 : Hid (HalfOk (doP cc (.wr n (pad d))).pend h dd) := by rw [← hcc]; exact hu
  have hlc : (cc.b n).l = (c.b n).l := by rw [← hcc]
  rw [HS.out] at HW ⊢
  obtain ⟨ii, hi, hz0, hz1, hz2⟩ := info_parts info_sheet
  clear hv hu hwf hwf' hwk HE0 HE h0 hd hbad hf HR hd64 hl8 hv1 hb1 hcc HU HFU HS
  go_enter Try.func46, Try.ntmps46
  go_wp2_with fail
  refine HRD.out.mono ?_
  rintro e w1 ⟨rfl, rfl⟩
  go_wp2_with fail
  refine HFA.out.mono ?_
  rintro e w2 ⟨rfl, hv2, hf2⟩
  rw [HPD.out]
  have HF2 : Hid (Fr B (· = m) w w2) := (Fr.of_below HB1.out).trans' hf2 (fun _ _ h => h)
  have y0 : w2.cell? ⟨m, n, none⟩ = some (.slice A0 (c.b n).l.length k0) := by have := hv2.cell (j := n) (by omega); rw [rcell_V hn, hV] at this; exact this
  have f0 := hv2.blk.frozen n
  have HRc : Hid (∀ W, Below w2.heap.size w2 W → Rd B 152 2 W (.slice A0 (c.b n).l.length k0) (c.b n).l.length (sheetL (c.b n).l)) := fun W hW => by
    have := hv2.rows n hn
    rw [hV, hlc] at this
    exact this.below hW
  have FINW : Hid (∀ w4 v, Below w2.heap.size w2 w4 → Rd B 152 2 w4 v ((c.b n).l.length + 1) (sheetL (c.b n).l ++ [.string (pad d), .bool false]) → RChipR B (w4.setCell ⟨m, n, none⟩ v) m (doP cc (.wr n (pad d))) ∧ Fr B (· = m) w (w4.setCell ⟨m, n, none⟩ v)) := by
    intro w4 v hb hr
    have hr' : Rd B 152 2 w4 v ((cc.b n).l ++ [(⟨pad d, false⟩ : Sheet)]).length (sheetL ((cc.b n).l ++ [(⟨pad d, false⟩ : Sheet)])) := by
      rw [sheetL_snoc, hlc, List.length_append]; exact hr
    exact And.intro (⟨fun i => if i = n then v else V i, h, dd, (hv2.below hb).setRow hn _ hr', HU1.out, HW.out⟩ : RChipR B _ m (doP cc (.wr n (pad d)))) (rfr (HF2.out.trans' (Fr.of_below hb) (fun _ _ h => h)) (hv2.below hb) _ _ HV.out.mut)
  have HBc : Hid (Below w2.heap.size w2 w2.drew) := (Below.refl _ _).drew
  clear hv2 hf2 HFA HRD hlc
  generalize (c.b n).l = L at *
  go_wp2_with fail
  refine wp_region_held_drew (S := fun w' => True) (by kernel_rfl) (trivial) (fun hHeld => ?_)
  refine wpAnyH_take (i := 0) (oi := ⟨some 56, _, _, _, _, _⟩) (v := .pointer (some ⟨m, 0, none⟩)) rfl (by kernel_rfl) (by kernel_rfl) (by kernel_rfl) (fun _ _ _ h => h) (Or.inl ⟨by rfl, ?_⟩) (by assumption) ?_
  · intro wS hSw
    (try dsimp only at hSw)
    go_simp
  simp only [Act.put, List.setIfInBounds_toArray, List.set_cons_zero, List.set_cons_succ]
  refine wpAnyH_take (i := 1) (oi := ⟨some 57, _, _, _, _, _⟩) (v := .int .i64 (n : Int)) rfl (by kernel_rfl) (by kernel_rfl) (by kernel_rfl) (fun _ _ _ h => h) (Or.inl ⟨by rfl, ?_⟩) (by assumption) ?_
  · intro wS hSw
    (try dsimp only at hSw)
    go_simp
  simp only [Act.put, List.setIfInBounds_toArray, List.set_cons_zero, List.set_cons_succ]
  refine wpAnyH_take (i := 2) (oi := ⟨some 58, _, _, _, _, _⟩) (v := .pointer (some ⟨m, 0, none⟩)) rfl (by kernel_rfl) (by kernel_rfl) (by kernel_rfl) (fun _ _ _ h => h) (Or.inl ⟨by rfl, ?_⟩) (by assumption) ?_
  · intro wS hSw
    (try dsimp only at hSw)
    go_simp
  simp only [Act.put, List.setIfInBounds_toArray, List.set_cons_zero, List.set_cons_succ]
  refine wpAnyH_take (i := 3) (oi := ⟨some 59, _, _, _, _, _⟩) (v := .int .i64 (n : Int)) rfl (by kernel_rfl) (by kernel_rfl) (by kernel_rfl) (fun _ _ _ h => h) (Or.inl ⟨by rfl, ?_⟩) (by assumption) ?_
  · intro wS hSw
    (try dsimp only at hSw)
    go_simp
  simp only [Act.put, List.setIfInBounds_toArray, List.set_cons_zero, List.set_cons_succ]
  refine wpAnyH_take (i := 4) (oi := ⟨some 60, _, _, _, _, _⟩) (v := .pointer (some ⟨m, 0, none⟩)) rfl (by kernel_rfl) (by kernel_rfl) (by kernel_rfl) (fun _ _ _ h => h) (Or.inl ⟨by rfl, ?_⟩) (by assumption) ?_
  · intro wS hSw
    (try dsimp only at hSw)
    go_simp
  simp only [Act.put, List.setIfInBounds_toArray, List.set_cons_zero, List.set_cons_succ]
  refine wpAnyH_take (i := 5) (oi := ⟨some 61, _, _, _, _, _⟩) (v := .pointer (some ⟨m, 0, none⟩)) rfl (by kernel_rfl) (by kernel_rfl) (by kernel_rfl) (fun _ _ _ h => h) (Or.inl ⟨by rfl, ?_⟩) (by assumption) ?_
  · intro wS hSw
    (try dsimp only at hSw)
    go_simp
  simp only [Act.put, List.setIfInBounds_toArray, List.set_cons_zero, List.set_cons_succ]
  refine wpAnyH_take (i := 6) (oi := ⟨some 62, _, _, _, _, _⟩) (v := .pointer (some ⟨m, n, none⟩)) rfl (by kernel_rfl) (by kernel_rfl) (by kernel_rfl) (fun _ _ _ h => h) (Or.inl ⟨by rfl, ?_⟩) (by assumption) ?_
  · intro wS hSw
    (try dsimp only at hSw)
    go_simp
  simp only [Act.put, List.setIfInBounds_toArray, List.set_cons_zero, List.set_cons_succ]
  refine wpAnyH_take (i := 9) (oi := ⟨some 65, _, _, _, _, _⟩) (v := .string (pad d)) rfl (by kernel_rfl) (by kernel_rfl) (by kernel_rfl) (fun _ _ _ h => h) (Or.inl ⟨by rfl, ?_⟩) (by assumption) ?_
  · intro wS hSw
    (try dsimp only at hSw)
    go_simp
  simp only [Act.put, List.setIfInBounds_toArray, List.set_cons_zero, List.set_cons_succ]
  refine wpAnyH_take (i := 10) (oi := ⟨some 66, _, _, _, _, _⟩) (v := .agg #[.string (pad d), .bool false]) rfl (by kernel_rfl) (by kernel_rfl) (by kernel_rfl) (fun _ _ _ h => h) (Or.inl ⟨by rfl, ?_⟩) (by assumption) ?_
  · intro wS hSw
    (try dsimp only at hSw)
    go_simp
  simp only [Act.put, List.setIfInBounds_toArray, List.set_cons_zero, List.set_cons_succ]
  refine wpAnyH_take (i := 13) (oi := ⟨some 69, _, _, _, _, _⟩) (v := .pointer (some ⟨m, 0, none⟩)) rfl (by kernel_rfl) (by kernel_rfl) (by kernel_rfl) (fun _ _ _ h => h) (Or.inl ⟨by rfl, ?_⟩) (by assumption) ?_
  · intro wS hSw
    (try dsimp only at hSw)
    go_simp
  simp only [Act.put, List.setIfInBounds_toArray, List.set_cons_zero, List.set_cons_succ]
  refine wpAnyH_take (i := 14) (oi := ⟨some 70, _, _, _, _, _⟩) (v := .pointer (some ⟨m, 0, none⟩)) rfl (by kernel_rfl) (by kernel_rfl) (by kernel_rfl) (fun _ _ _ h => h) (Or.inl ⟨by rfl, ?_⟩) (by assumption) ?_
  · intro wS hSw
    (try dsimp only at hSw)
    go_simp
  simp only [Act.put, List.setIfInBounds_toArray, List.set_cons_zero, List.set_cons_succ]
  refine wpAnyH_ready (rs := [7, 11]) (by kernel_rfl) (by simp) ?_
  refine AllReadyH.cons (o := ⟨some 63, _, _, _, _, _⟩) rfl (fun K hK => ?_) ?_
  · have yM := (((Below.refl w2.heap.size w2).alloc (Nat.le_refl _) (.cells #[.string (pad d), .bool false] 152)).cell (p := ⟨m, n, none⟩) (cell_lt y0)).trans y0
    have yL := (HBc.out.cell (p := ⟨m, n, none⟩) (cell_lt y0)).trans y0
    go_simp
    refine hK.out _ _ (trivial) (fun hHeld => ?_)
    clear hK K yL yM
    try simp only [Act.put, List.setIfInBounds_toArray, List.set_cons_zero, List.set_cons_succ]
    refine wpAnyH_ready (rs := [8, 11]) (by kernel_rfl) (by simp) ?_
    refine AllReadyH.cons (o := ⟨some 64, _, _, _, _, _⟩) rfl (fun K hK => ?_) ?_
    · refine step_append_rd rfl (.const (.slice none 0 0)) (.tmp 63) 80 rfl w2.heap.size 152 ii _ 2 24 Try.underlying80 hi hz0 hz1 hz2 rfl (by decide) (.slice none 0 0) 0 [] rfl (World.ownsRow_nil _ _ _ _) B 152 (.slice A0 L.length k0) L.length (sheetL L) (by rfl) (HRc.out _ HBc.out) (sheet_one L) (by unfold maxLen; omega) (by omega) HBc.out.size ?_
      intro v1 w3 hown1 hg1 hat1
      rw [Nat.zero_add, List.nil_append] at hown1
      obtain ⟨A1, k1, rfl⟩ := rd_form (B := w2.heap.size) (Rd.of_own hown1)
      have hb3 := below_own HBc.out (Nat.le_refl _) (World.ownsRow_nil _ _ 152 2) hg1
      have HB3 := Lib.hid hb3
      refine hK.out _ _ (trivial) (fun hHeld => ?_)
      clear hK K HB3
      have HOc := Lib.hid hown1
      have HBc := Lib.hid hb3
      clear hown1 hg1 hat1 hb3
      try simp only [Act.put, List.setIfInBounds_toArray, List.set_cons_zero, List.set_cons_succ]
      refine wpAnyH_ready (rs := [11]) (by kernel_rfl) (by simp) ?_
      refine AllReadyH.cons (o := ⟨some 67, _, _, _, _, _⟩) rfl (fun K hK => ?_) AllReadyH.nil
      go_simp
      obtain ⟨hbN, hnN⟩ := new_sheet HBc.out (.string (pad d)) (.bool false)
      have HBn := Lib.hid hbN
      refine hK.out _ _ (trivial) (fun hHeld => ?_)
      clear hK K HBn
      have HOc := Lib.hid (own_alloc HOc.out (.cells #[.string (pad d), .bool false] 152))
      have HBc := Lib.hid hbN
      have HNc := Lib.hid hnN
      clear hbN hnN
      try simp only [Act.put, List.setIfInBounds_toArray, List.set_cons_zero, List.set_cons_succ]
      refine wpAnyH_ready (rs := [12]) (by kernel_rfl) (by simp) ?_
      refine AllReadyH.cons (o := ⟨some 68, _, _, _, _, _⟩) rfl (fun K hK => ?_) AllReadyH.nil
      refine step_append_rd rfl (.tmp 64) (.tmp 67) 80 rfl w2.heap.size 152 ii _ 2 24 Try.underlying80 hi hz0 hz1 hz2 rfl (by decide) (.slice A1 L.length k1) L.length (sheetL L) (by rfl) HOc.out w2.heap.size 152 (.slice (some ⟨_, 0, none⟩) 1 1) 1 [.string (pad d), .bool false] (by rfl) HNc.out (by simp [Value.oneCell']) (by unfold maxLen; omega) (by omega) HBc.out.size ?_
      intro v2 w4 hown2 hg2 hat2
      obtain ⟨A2, k2, rfl⟩ := rd_form (B := w2.heap.size) (Rd.of_own hown2)
      have hb4 := below_own HBc.out (Nat.le_refl _) HOc.out hg2
      have HR4 : Hid (Rd B 152 2 w4 (.slice A2 (L.length + 1) k2) (L.length + 1) (sheetL L ++ [.string (pad d), .bool false])) := Rd.of_own hown2
      have q1 := (hb4.cell (p := ⟨m, n, none⟩) (cell_lt y0)).trans y0
      have q2 := (hb4.frozen (p := ⟨m, n, none⟩) (cell_lt y0)).trans f0
      have HB4 := Lib.hid hb4
      refine hK.out _ _ (trivial) (fun hHeld => ?_)
      clear hK K hown2 hg2 hat2 hb4
      try simp only [Act.put, List.setIfInBounds_toArray, List.set_cons_zero, List.set_cons_succ]
      refine wpAnyH_take (i := 15) (oi := ⟨some 71, _, _, _, _, _⟩) (v := .pointer (some ⟨m, n, none⟩)) rfl (by kernel_rfl) (by kernel_rfl) (by kernel_rfl) (fun _ _ _ h => h) (Or.inl ⟨by rfl, ?_⟩) (by assumption) ?_
      · intro wS hSw
        (try dsimp only at hSw)
        go_simp
      simp only [Act.put, List.setIfInBounds_toArray, List.set_cons_zero, List.set_cons_succ]
      refine wpAnyH_ready (rs := [16]) (by kernel_rfl) (by simp) ?_
      refine AllReadyH.cons (o := ⟨none, _, _, _, _, _⟩) rfl (fun K hK => ?_) AllReadyH.nil
      go_simp
      refine hK.out _ _ (trivial) (fun hHeld => ?_)
      clear hK K
      refine wpAnyH_done (by kernel_rfl) ?_ _
      go_wp2_with fail
      go_ret
      obtain ⟨f1, f2⟩ := FINW.out _ _ HB4.out HR4.out
      exact ⟨rfl, f1, f2⟩
    · refine AllReadyH.cons (o := ⟨some 67, _, _, _, _, _⟩) rfl (fun K hK => ?_) AllReadyH.nil
      go_simp
      obtain ⟨hbN, hnN⟩ := new_sheet HBc.out (.string (pad d)) (.bool false)
      have HBn := Lib.hid hbN
      refine hK.out _ _ (trivial) (fun hHeld => ?_)
      clear hK K HBn
      have HBc := Lib.hid hbN
      have HNc := Lib.hid hnN
      clear hbN hnN
      try simp only [Act.put, List.setIfInBounds_toArray, List.set_cons_zero, List.set_cons_succ]
      refine wpAnyH_ready (rs := [8]) (by kernel_rfl) (by simp) ?_
      refine AllReadyH.cons (o := ⟨some 64, _, _, _, _, _⟩) rfl (fun K hK => ?_) AllReadyH.nil
      refine step_append_rd rfl (.const (.slice none 0 0)) (.tmp 63) 80 rfl w2.heap.size 152 ii _ 2 24 Try.underlying80 hi hz0 hz1 hz2 rfl (by decide) (.slice none 0 0) 0 [] rfl (World.ownsRow_nil _ _ _ _) B 152 (.slice A0 L.length k0) L.length (sheetL L) (by rfl) (HRc.out _ HBc.out) (sheet_one L) (by unfold maxLen; omega) (by omega) HBc.out.size ?_
      intro v1 w3 hown1 hg1 hat1
      rw [Nat.zero_add, List.nil_append] at hown1
      obtain ⟨A1, k1, rfl⟩ := rd_form (B := w2.heap.size) (Rd.of_own hown1)
      have hb3 := below_own HBc.out (Nat.le_refl _) (World.ownsRow_nil _ _ 152 2) hg1
      have HB3 := Lib.hid hb3
      refine hK.out _ _ (trivial) (fun hHeld => ?_)
      clear hK K HB3
      have HOc := Lib.hid hown1
      have HNc := Lib.hid (HNc.out.grown hg1 (fun g e => by simp [Value.ownBlock] at e))
      have HBc := Lib.hid hb3
      clear hown1 hg1 hat1 hb3
      try simp only [Act.put, List.setIfInBounds_toArray, List.set_cons_zero, List.set_cons_succ]
      refine wpAnyH_ready (rs := [12]) (by kernel_rfl) (by simp) ?_
      refine AllReadyH.cons (o := ⟨some 68, _, _, _, _, _⟩) rfl (fun K hK => ?_) AllReadyH.nil
      refine step_append_rd rfl (.tmp 64) (.tmp 67) 80 rfl w2.heap.size 152 ii _ 2 24 Try.underlying80 hi hz0 hz1 hz2 rfl (by decide) (.slice A1 L.length k1) L.length (sheetL L) (by rfl) HOc.out w2.heap.size 152 (.slice (some ⟨_, 0, none⟩) 1 1) 1 [.string (pad d), .bool false] (by rfl) HNc.out (by simp [Value.oneCell']) (by unfold maxLen; omega) (by omega) HBc.out.size ?_
      intro v2 w4 hown2 hg2 hat2
      obtain ⟨A2, k2, rfl⟩ := rd_form (B := w2.heap.size) (Rd.of_own hown2)
      have hb4 := below_own HBc.out (Nat.le_refl _) HOc.out hg2
      have HR4 : Hid (Rd B 152 2 w4 (.slice A2 (L.length + 1) k2) (L.length + 1) (sheetL L ++ [.string (pad d), .bool false])) := Rd.of_own hown2
      have q1 := (hb4.cell (p := ⟨m, n, none⟩) (cell_lt y0)).trans y0
      have q2 := (hb4.frozen (p := ⟨m, n, none⟩) (cell_lt y0)).trans f0
      have HB4 := Lib.hid hb4
      refine hK.out _ _ (trivial) (fun hHeld => ?_)
      clear hK K hown2 hg2 hat2 hb4
      try simp only [Act.put, List.setIfInBounds_toArray, List.set_cons_zero, List.set_cons_succ]
      refine wpAnyH_take (i := 15) (oi := ⟨some 71, _, _, _, _, _⟩) (v := .pointer (some ⟨m, n, none⟩)) rfl (by kernel_rfl) (by kernel_rfl) (by kernel_rfl) (fun _ _ _ h => h) (Or.inl ⟨by rfl, ?_⟩) (by assumption) ?_
      · intro wS hSw
        (try dsimp only at hSw)
        go_simp
      simp only [Act.put, List.setIfInBounds_toArray, List.set_cons_zero, List.set_cons_succ]
      refine wpAnyH_ready (rs := [16]) (by kernel_rfl) (by simp) ?_
      refine AllReadyH.cons (o := ⟨none, _, _, _, _, _⟩) rfl (fun K hK => ?_) AllReadyH.nil
      go_simp
      refine hK.out _ _ (trivial) (fun hHeld => ?_)
      clear hK K
      refine wpAnyH_done (by kernel_rfl) ?_ _
      go_wp2_with fail
      go_ret
      obtain ⟨f1, f2⟩ := FINW.out _ _ HB4.out HR4.out
      exact ⟨rfl, f1, f2⟩
  · refine AllReadyH.cons (o := ⟨some 67, _, _, _, _, _⟩) rfl (fun K hK => ?_) AllReadyH.nil
    go_simp
    obtain ⟨hbN, hnN⟩ := new_sheet HBc.out (.string (pad d)) (.bool false)
    have HBn := Lib.hid hbN
    refine hK.out _ _ (trivial) (fun hHeld => ?_)
    clear hK K HBn
    have HBc := Lib.hid hbN
    have HNc := Lib.hid hnN
    clear hbN hnN
    try simp only [Act.put, List.setIfInBounds_toArray, List.set_cons_zero, List.set_cons_succ]
    refine wpAnyH_ready (rs := [7]) (by kernel_rfl) (by simp) ?_
    refine AllReadyH.cons (o := ⟨some 63, _, _, _, _, _⟩) rfl (fun K hK => ?_) AllReadyH.nil
    have yM := (((Below.refl w2.heap.size w2).alloc (Nat.le_refl _) (.cells #[.string (pad d), .bool false] 152)).cell (p := ⟨m, n, none⟩) (cell_lt y0)).trans y0
    have yL := (HBc.out.cell (p := ⟨m, n, none⟩) (cell_lt y0)).trans y0
    go_simp
    refine hK.out _ _ (trivial) (fun hHeld => ?_)
    clear hK K yL yM
    try simp only [Act.put, List.setIfInBounds_toArray, List.set_cons_zero, List.set_cons_succ]
    refine wpAnyH_ready (rs := [8]) (by kernel_rfl) (by simp) ?_
    refine AllReadyH.cons (o := ⟨some 64, _, _, _, _, _⟩) rfl (fun K hK => ?_) AllReadyH.nil
    refine step_append_rd rfl (.const (.slice none 0 0)) (.tmp 63) 80 rfl w2.heap.size 152 ii _ 2 24 Try.underlying80 hi hz0 hz1 hz2 rfl (by decide) (.slice none 0 0) 0 [] rfl (World.ownsRow_nil _ _ _ _) B 152 (.slice A0 L.length k0) L.length (sheetL L) (by rfl) (HRc.out _ HBc.out) (sheet_one L) (by unfold maxLen; omega) (by omega) HBc.out.size ?_
    intro v1 w3 hown1 hg1 hat1
    rw [Nat.zero_add, List.nil_append] at hown1
    obtain ⟨A1, k1, rfl⟩ := rd_form (B := w2.heap.size) (Rd.of_own hown1)
    have hb3 := below_own HBc.out (Nat.le_refl _) (World.ownsRow_nil _ _ 152 2) hg1
    have HB3 := Lib.hid hb3
    refine hK.out _ _ (trivial) (fun hHeld => ?_)
    clear hK K HB3
    have HOc := Lib.hid hown1
    have HNc := Lib.hid (HNc.out.grown hg1 (fun g e => by simp [Value.ownBlock] at e))
    have HBc := Lib.hid hb3
    clear hown1 hg1 hat1 hb3
    try simp only [Act.put, List.setIfInBounds_toArray, List.set_cons_zero, List.set_cons_succ]
    refine wpAnyH_ready (rs := [12]) (by kernel_rfl) (by simp) ?_
    refine AllReadyH.cons (o := ⟨some 68, _, _, _, _, _⟩) rfl (fun K hK => ?_) AllReadyH.nil
    refine step_append_rd rfl (.tmp 64) (.tmp 67) 80 rfl w2.heap.size 152 ii _ 2 24 Try.underlying80 hi hz0 hz1 hz2 rfl (by decide) (.slice A1 L.length k1) L.length (sheetL L) (by rfl) HOc.out w2.heap.size 152 (.slice (some ⟨_, 0, none⟩) 1 1) 1 [.string (pad d), .bool false] (by rfl) HNc.out (by simp [Value.oneCell']) (by unfold maxLen; omega) (by omega) HBc.out.size ?_
    intro v2 w4 hown2 hg2 hat2
    obtain ⟨A2, k2, rfl⟩ := rd_form (B := w2.heap.size) (Rd.of_own hown2)
    have hb4 := below_own HBc.out (Nat.le_refl _) HOc.out hg2
    have HR4 : Hid (Rd B 152 2 w4 (.slice A2 (L.length + 1) k2) (L.length + 1) (sheetL L ++ [.string (pad d), .bool false])) := Rd.of_own hown2
    have q1 := (hb4.cell (p := ⟨m, n, none⟩) (cell_lt y0)).trans y0
    have q2 := (hb4.frozen (p := ⟨m, n, none⟩) (cell_lt y0)).trans f0
    have HB4 := Lib.hid hb4
    refine hK.out _ _ (trivial) (fun hHeld => ?_)
    clear hK K hown2 hg2 hat2 hb4
    try simp only [Act.put, List.setIfInBounds_toArray, List.set_cons_zero, List.set_cons_succ]
    refine wpAnyH_take (i := 15) (oi := ⟨some 71, _, _, _, _, _⟩) (v := .pointer (some ⟨m, n, none⟩)) rfl (by kernel_rfl) (by kernel_rfl) (by kernel_rfl) (fun _ _ _ h => h) (Or.inl ⟨by rfl, ?_⟩) (by assumption) ?_
    · intro wS hSw
      (try dsimp only at hSw)
      go_simp
    simp only [Act.put, List.setIfInBounds_toArray, List.set_cons_zero, List.set_cons_succ]
    refine wpAnyH_ready (rs := [16]) (by kernel_rfl) (by simp) ?_
    refine AllReadyH.cons (o := ⟨none, _, _, _, _, _⟩) rfl (fun K hK => ?_) AllReadyH.nil
    go_simp
    refine hK.out _ _ (trivial) (fun hHeld => ?_)
    clear hK K
    refine wpAnyH_done (by kernel_rfl) ?_ _
    go_wp2_with fail
    go_ret
    obtain ⟨f1, f2⟩ := FINW.out _ _ HB4.out HR4.out
    exact ⟨rfl, f1, f2⟩
theorem Fr.then_below {B : Nat} {M : Nat → Prop} {w0 w w1 : World} (h : Fr B M w0 w) (hb : Below w0.heap.size w w1) : Fr B M w0 w1 :=
  ⟨hb.os.trans h.os, hb.tape.trans h.tape, hb.output.trans h.output, Nat.le_trans h.size hb.size, fun k hk hc => (hb.block k hk).trans (h.block k hk hc)⟩
/-- What is left when the machine has been started anew: three stores. -/
theorem RChipV.fin {B m : Nat} {w w0 : World} {V : Nat → Value} {c : Chip} {h : Int} {d : ByteArray} (hv : RChipV B w m V c h d) (hf : Fr B (· = m) w0 w) (hm : m < w0.heap.size → ∃ cs T fz, w0.heap[m]? = some (.cells cs T fz) ∧ mutT T = true) (hw : CWf { c with pend := none, down := false, fuse := -1 }) :
    RChipR B (((w.setCell ⟨m, 98, none⟩ (.int .i64 0)).setCell ⟨m, 97, none⟩ (.bool false)).setCell ⟨m, 96, none⟩ (.int .i64 (-1))) m { c with pend := none, down := false, fuse := -1 } ∧ Fr B (· = m) w0 (((w.setCell ⟨m, 98, none⟩ (.int .i64 0)).setCell ⟨m, 97, none⟩ (.bool false)).setCell ⟨m, 96, none⟩ (.int .i64 (-1))) := by
  have h1 := hv.setHalf 0
  have h2 := h1.setDown false
  have h3 := h2.setFuse (-1)
  exact ⟨⟨V, 0, d, h3.like rfl rfl rfl, rfl, hw⟩, rfr (rfr (rfr hf hv _ _ hm) h1 _ _ hm) h2 _ _ hm⟩
/-- The cells that the last stores want. -/
theorem RChipV.last {B m : Nat} {w : World} {V : Nat → Value} {c : Chip} {h : Int} {d : ByteArray} (hv : RChipV B w m V c h d) :
    w.cell? ⟨m, 96, none⟩ = some (.int .i64 c.fuse) ∧ w.cell? ⟨m, 97, none⟩ = some (.bool c.down) ∧ w.cell? ⟨m, 98, none⟩ = some (.int .i64 h) ∧ w.frozen? ⟨m, 96, none⟩ = false ∧ w.frozen? ⟨m, 97, none⟩ = false ∧ w.frozen? ⟨m, 98, none⟩ = false :=
  ⟨hv.cell (j := 96) (by omega), hv.cell (j := 97) (by omega), hv.cell (j := 98) (by omega), hv.blk.frozen 96, hv.blk.frozen 97, hv.blk.frozen 98⟩
set_option maxRecDepth 20000 in
set_option maxHeartbeats 8000000 in
theorem rrestart_any (B m : Nat) (c : Chip) (how : Int) (w : World) (hr : RChipR B w m c) :
    Calls Try.prog 53 #[.pointer (some ⟨m, 0, none⟩), .int .i64 how] w fun e w' => e = .returned (.tuple #[]) ∧ RChipR B w' m (c.restart how) ∧ Fr B (· = m) w w' := by
  have hw' := hr.wf.restart_ how
  obtain ⟨V, h, dd, hv, hu, hwf⟩ := hr
  obtain ⟨l1, l2, l3, l4, l5, l6⟩ := hv.last
  have HV := Lib.hid hv
  have HW : Hid (CWf (c.restart how)) := hw'
  have hpk := hwf.pend
  cases hp : c.pend with
  | none =>
    rw [hp] at hu
    have hu : h = 0 := hu
    subst hu
    have HF := Lib.hid (hv.fin (Fr.refl B _ w) hv.mut (by have := hw'; unfold Chip.restart Chip.undone at this; rw [hp] at this; exact this))
    have HE : Hid (c.restart how = { c with pend := none, down := false, fuse := -1 }) := by rw [Hid, Chip.restart, Chip.undone, hp]
    rw [HE.out]
    clear hv hwf hw' hpk HW hp HE
    go_enter Try.func53, Try.ntmps53
    go_wp2_with fail
    go_end0
    exact ⟨rfl, HF.out⟩
  | some pd =>
    rw [hp] at hu
    have hpd := hpk pd hp
    by_cases hh : how = 1 ∨ how = 2
    case neg =>
      have hh1 : (how == 1) = false := beq_eq_false_iff_ne.2 (fun e => hh (.inl e))
      have hh2 : (how == 2) = false := beq_eq_false_iff_ne.2 (fun e => hh (.inr e))
      have hue : c.undone how = c := by unfold Chip.undone; rw [hp]; simp only; rw [if_neg (fun e => hh (.inl e)), if_neg (fun e => hh (.inr e))]
      have HE : Hid (c.restart how = { c with pend := none, down := false, fuse := -1 }) := by rw [Hid, Chip.restart, hue]
      have HF := Lib.hid (hv.fin (Fr.refl B _ w) hv.mut (by rw [← HE.out]; exact hw'))
      rw [HE.out]
      obtain ⟨t12, ht12⟩ : ∃ t12, decide ((100 : Int) < h) = t12 := ⟨_, rfl⟩
      obtain ⟨t67, ht67⟩ : ∃ t67, decide ((0 : Int) < h) = t67 := ⟨_, rfl⟩
      clear hv hwf hw' hpk HW hp HE hue hu hpd
      cases t12 <;> cases t67
      all_goals
        go_enter Try.func53, Try.ntmps53
        go_wp2_with fail
        go_end0
        exact ⟨rfl, HF.out⟩
    cases pd with
    | er n =>
      have hu : h = 101 + (n : Int) := hu
      have hn : n < 24 := hpd
      subst hu
      have t12 : decide ((100 : Int) < 101 + (n : Int)) = true := decide_eq_true (by omega)
      have t25 : 101 + (n : Int) - 101 = (n : Int) := by omega
      have c0 := hv.cell (j := n) (by omega)
      have c1 := hv.cell (j := 24 + n) (by omega)
      rw [rcell_V hn] at c0
      rw [rcell_wear hn] at c1
      have f0 := hv.blk.frozen n
      have f1 := hv.blk.frozen (24 + n)
      have hs1 := hv.setRow hn [] (Rd.nil _ _ _ _)
      have hs2 := hs1.setWear hn (wrap64 ((c.b n).wear + 1))
      simp only [Chip.set_same] at hs2
      have hs2 : RChipV B ((w.setCell ⟨m, n, none⟩ (.slice none 0 0)).setCell ⟨m, 24 + n, none⟩ (.int .i64 (wrap64 ((c.b n).wear + 1)))).drew m _ _ _ _ := hs2.drewN 1
      have HF2 : Hid (Fr B (· = m) w (((w.setCell ⟨m, n, none⟩ (.slice none 0 0)).setCell ⟨m, 24 + n, none⟩ (.int .i64 (wrap64 ((c.b n).wear + 1)))).drew)) := (rfr (rfr (Fr.refl B _ w) hv _ _ hv.mut) hs1 _ _ hv.mut).drewN 1
      have HS2 := Lib.hid hs2
      have HMU := Lib.hid hv.mut
      by_cases h1 : how = 1
      case neg =>
        have h2 : how = 2 := by omega
        subst h2
        have HE : Hid (c.restart 2 = { ((c.set n { c.b n with l := [] }).set n { c.b n with l := [], wear := wrap64 ((c.b n).wear + 1) }) with pend := none, down := false, fuse := -1 }) := by
          have e2 : c.undone 2 = doP c (.er n) := by unfold Chip.undone; rw [hp]; rfl
          rw [Hid, Chip.restart, e2]
          unfold doP Chip.set
          simp only
          congr 1
          funext i
          split <;> rfl
        have HF := Lib.hid (HS2.out.fin HF2.out hv.mut (by rw [← HE.out]; exact hw'))
        rw [HE.out]
        clear hv hwf hw' hpk HW hp HE hpd hs1 hs2 h1 hh
        go_enter Try.func53, Try.ntmps53
        go_wp2_with fail
        go_region
        go_wp2_with fail
        generalize (((w.setCell ⟨m, n, none⟩ (.slice none 0 0)).setCell ⟨m, 24 + n, none⟩ (.int .i64 (wrap64 ((c.b n).wear + 1)))).drew) = w5 at *
        obtain ⟨l1, l2, l3, l4, l5, l6⟩ := HS2.out.last
        go_loopw [5] (fun i wr => i = .int .i64 0 ∧ wr = w5) (fun _ _ => 0)
        case atStart => exact ⟨rfl, rfl⟩
        case round =>
          obtain ⟨rfl, rfl⟩ := hrel
          go_wp2_with fail
          go_end0
          exact ⟨rfl, HF.out⟩
      subst h1
      have HE : Hid (c.restart 1 = { (c.set n { c.b n with l := List.replicate 8 torn, wear := wrap64 ((c.b n).wear + 1) }) with pend := none, down := false, fuse := -1 }) := by
        have e2 : c.undone 1 = halfP c (.er n) := by unfold Chip.undone; rw [hp]; rfl
        rw [Hid, Chip.restart, e2]
        rfl
      have HWF : Hid (CWf { (c.set n { c.b n with l := List.replicate 8 torn, wear := wrap64 ((c.b n).wear + 1) }) with pend := none, down := false, fuse := -1 }) := by rw [Hid, ← HE.out]; exact hw'
      rw [HE.out]
      obtain ⟨ii, hi, hz0, hz1, hz2⟩ := info_parts info_sheet
      have HRO : Hid (∀ b, b < 24 → b ≠ n → ∀ W, Fr B (· = m) w W → Rd B 152 2 W (V b) (c.b b).l.length (sheetL (c.b b).l)) := fun b hb _ W hW => (hv.rows b hb).fr hW (by decide)
      have HBm : Hid (B ≤ m) := hv.base
      have hmw := hv.blk.lt
      have HK2 : Hid (Blk (((w.setCell ⟨m, n, none⟩ (.slice none 0 0)).setCell ⟨m, 24 + n, none⟩ (.int .i64 (wrap64 ((c.b n).wear + 1)))).drew) m 85 (rcells (fun i => if i = n then .slice none 0 0 else V i) (c.set n { c.b n with l := [], wear := wrap64 ((c.b n).wear + 1) }) (101 + (n : Int)) dd)) := by
        have := HS2.out.blk
        rw [show ((c.set n { c.b n with l := [] }).set n { c.b n with l := [], wear := wrap64 ((c.b n).wear + 1) }) = c.set n { c.b n with l := [], wear := wrap64 ((c.b n).wear + 1) } from by unfold Chip.set; simp only; congr 1; funext i; split <;> rfl] at this
        exact this
      have HCC := Lib.hid (And.intro l1 (And.intro l2 (And.intro l4 (And.intro l5 l6))))
      clear hv hwf hw' hpk HW hp HE hpd hs1 hs2 hh HS2
      go_enter Try.func53, Try.ntmps53
      go_wp2_with fail
      go_region
      go_wp2_with fail
      generalize (((w.setCell ⟨m, n, none⟩ (.slice none 0 0)).setCell ⟨m, 24 + n, none⟩ (.int .i64 (wrap64 ((c.b n).wear + 1)))).drew) = w5 at *
      go_loopw [5] (fun i wr => ∃ (k : Nat) (A1 : Option Addr) (k1 : Nat), k ≤ 8 ∧ i = .int .i64 (k : Int) ∧ Hid (Blk wr m 85 (rcells (fun i => if i = n then .slice A1 k k1 else V i) (c.set n { c.b n with l := [], wear := wrap64 ((c.b n).wear + 1) }) (101 + (n : Int)) dd)) ∧ Hid (wr.ownsRow w.heap.size 152 2 (.slice A1 k k1) k (sheetL (List.replicate k torn))) ∧ Hid (Fr B (· = m) w wr)) (fun i _ => 8 - (intOf i).toNat)
      case atStart => exact ⟨0, none, 0, by omega, rfl, HK2.out, World.ownsRow_nil _ _ _ _, HF2.out⟩
      case round =>
        clear HK2 HF2 c0 c1 f0 f1 t12 t25 l1 l2 l3 l4 l5 l6
        obtain ⟨k, A1, k1, hk, rfl, hb, ho, hf⟩ := hrel
        have y0 := hb.out.cell n
        rw [rcells_at (by omega), rcell_V hn, if_pos rfl] at y0
        have f0 := hb.out.frozen n
        by_cases hlt : k < 8
        · have g1 : (k : Int) < 8 := by omega
          have g24 : (n : Int) < 24 := by omega
          have g0 : (0 : Int) ≤ (n : Int) := by omega
          have hw0 : w.heap.size ≤ wr.heap.size := hf.out.size
          have HWZ := Lib.hid hw0
          have HBc : Hid (Below wr.heap.size wr wr.drew) := (Below.refl _ _).drew
          have HOc : Hid (wr.drew.ownsRow w.heap.size 152 2 (.slice A1 k k1) k (sheetL (List.replicate k torn))) := own_drewN ho.out 1
          clear ho hw0
          go_wp2_with fail
          refine wp_region_held_drew (S := fun _ => True) (by kernel_rfl) trivial (fun hHeld => ?_)
          refine wpAnyH_take (i := 0) (oi := ⟨some 49, _, _, _, _, _⟩) (v := .pointer (some ⟨m, 0, none⟩)) rfl (by kernel_rfl) (by kernel_rfl) (by kernel_rfl) (fun _ _ _ h => h) (Or.inl ⟨by rfl, ?_⟩) (by assumption) ?_
          · intro wS hSw
            (try dsimp only at hSw)
            go_simp
          simp only [Act.put, List.setIfInBounds_toArray, List.set_cons_zero, List.set_cons_succ]
          refine wpAnyH_take (i := 1) (oi := ⟨some 50, _, _, _, _, _⟩) (v := .int .i64 (n : Int)) rfl (by kernel_rfl) (by kernel_rfl) (by kernel_rfl) (fun _ _ _ h => h) (Or.inl ⟨by rfl, ?_⟩) (by assumption) ?_
          · intro wS hSw
            (try dsimp only at hSw)
            go_simp
          simp only [Act.put, List.setIfInBounds_toArray, List.set_cons_zero, List.set_cons_succ]
          refine wpAnyH_take (i := 2) (oi := ⟨some 51, _, _, _, _, _⟩) (v := .pointer (some ⟨m, 0, none⟩)) rfl (by kernel_rfl) (by kernel_rfl) (by kernel_rfl) (fun _ _ _ h => h) (Or.inl ⟨by rfl, ?_⟩) (by assumption) ?_
          · intro wS hSw
            (try dsimp only at hSw)
            go_simp
          simp only [Act.put, List.setIfInBounds_toArray, List.set_cons_zero, List.set_cons_succ]
          refine wpAnyH_take (i := 3) (oi := ⟨some 52, _, _, _, _, _⟩) (v := .int .i64 (n : Int)) rfl (by kernel_rfl) (by kernel_rfl) (by kernel_rfl) (fun _ _ _ h => h) (Or.inl ⟨by rfl, ?_⟩) (by assumption) ?_
          · intro wS hSw
            (try dsimp only at hSw)
            go_simp
          simp only [Act.put, List.setIfInBounds_toArray, List.set_cons_zero, List.set_cons_succ]
          refine wpAnyH_take (i := 4) (oi := ⟨some 53, _, _, _, _, _⟩) (v := .pointer (some ⟨m, 0, none⟩)) rfl (by kernel_rfl) (by kernel_rfl) (by kernel_rfl) (fun _ _ _ h => h) (Or.inl ⟨by rfl, ?_⟩) (by assumption) ?_
          · intro wS hSw
            (try dsimp only at hSw)
            go_simp
          simp only [Act.put, List.setIfInBounds_toArray, List.set_cons_zero, List.set_cons_succ]
          refine wpAnyH_take (i := 5) (oi := ⟨some 54, _, _, _, _, _⟩) (v := .pointer (some ⟨m, 0, none⟩)) rfl (by kernel_rfl) (by kernel_rfl) (by kernel_rfl) (fun _ _ _ h => h) (Or.inl ⟨by rfl, ?_⟩) (by assumption) ?_
          · intro wS hSw
            (try dsimp only at hSw)
            go_simp
          simp only [Act.put, List.setIfInBounds_toArray, List.set_cons_zero, List.set_cons_succ]
          refine wpAnyH_take (i := 6) (oi := ⟨some 55, _, _, _, _, _⟩) (v := .pointer (some ⟨m, n, none⟩)) rfl (by kernel_rfl) (by kernel_rfl) (by kernel_rfl) (fun _ _ _ h => h) (Or.inl ⟨by rfl, ?_⟩) (by assumption) ?_
          · intro wS hSw
            (try dsimp only at hSw)
            go_simp
          simp only [Act.put, List.setIfInBounds_toArray, List.set_cons_zero, List.set_cons_succ]
          refine wpAnyH_take (i := 8) (oi := ⟨some 57, _, _, _, _, _⟩) (v := .agg #[.string ⟨#[]⟩, .bool true]) rfl (by kernel_rfl) (by kernel_rfl) (by kernel_rfl) (fun _ _ _ h => h) (Or.inl ⟨by rfl, ?_⟩) (by assumption) ?_
          · intro wS hSw
            (try dsimp only at hSw)
            go_simp
          simp only [Act.put, List.setIfInBounds_toArray, List.set_cons_zero, List.set_cons_succ]
          refine wpAnyH_take (i := 11) (oi := ⟨some 60, _, _, _, _, _⟩) (v := .pointer (some ⟨m, 0, none⟩)) rfl (by kernel_rfl) (by kernel_rfl) (by kernel_rfl) (fun _ _ _ h => h) (Or.inl ⟨by rfl, ?_⟩) (by assumption) ?_
          · intro wS hSw
            (try dsimp only at hSw)
            go_simp
          simp only [Act.put, List.setIfInBounds_toArray, List.set_cons_zero, List.set_cons_succ]
          refine wpAnyH_take (i := 12) (oi := ⟨some 61, _, _, _, _, _⟩) (v := .pointer (some ⟨m, 0, none⟩)) rfl (by kernel_rfl) (by kernel_rfl) (by kernel_rfl) (fun _ _ _ h => h) (Or.inl ⟨by rfl, ?_⟩) (by assumption) ?_
          · intro wS hSw
            (try dsimp only at hSw)
            go_simp
          simp only [Act.put, List.setIfInBounds_toArray, List.set_cons_zero, List.set_cons_succ]
          refine wpAnyH_ready (rs := [7, 9]) (by kernel_rfl) (by simp) ?_
          refine AllReadyH.cons (o := ⟨some 56, _, _, _, _, _⟩) rfl (fun K hK => ?_) ?_
          · have yM := (((Below.refl wr.heap.size wr).alloc (Nat.le_refl _) (.cells #[.string ⟨#[]⟩, .bool true] 152)).cell (p := ⟨m, n, none⟩) (cell_lt y0)).trans y0
            go_simp
            refine hK.out _ _ trivial (fun hHeld => ?_)
            clear hK K yM
            try simp only [Act.put, List.setIfInBounds_toArray, List.set_cons_zero, List.set_cons_succ]
            refine wpAnyH_ready (rs := [9]) (by kernel_rfl) (by simp) ?_
            refine AllReadyH.cons (o := ⟨some 58, _, _, _, _, _⟩) rfl (fun K hK => ?_) AllReadyH.nil
            go_simp
            obtain ⟨hbN, hnN⟩ := new_sheet HBc.out (.string ⟨#[]⟩) (.bool true)
            have HOc := Lib.hid (own_alloc HOc.out (.cells #[.string ⟨#[]⟩, .bool true] 152))
            have HBc := Lib.hid hbN
            have HNc := Lib.hid hnN
            clear hbN hnN
            refine hK.out _ _ trivial (fun hHeld => ?_)
            clear hK K
            try simp only [Act.put, List.setIfInBounds_toArray, List.set_cons_zero, List.set_cons_succ]
            refine wpAnyH_ready (rs := [10]) (by kernel_rfl) (by simp) ?_
            refine AllReadyH.cons (o := ⟨some 59, _, _, _, _, _⟩) rfl (fun K hK => ?_) AllReadyH.nil
            refine step_append_rd rfl (.tmp 56) (.tmp 58) 80 rfl w.heap.size 152 ii _ 2 24 Try.underlying80 hi hz0 hz1 hz2 rfl (by decide) (.slice A1 k k1) k (sheetL (List.replicate k torn)) (by rfl) HOc.out wr.heap.size 152 (.slice (some ⟨_, 0, none⟩) 1 1) 1 [.string ⟨#[]⟩, .bool true] (by rfl) HNc.out (by simp [Value.oneCell']) (by unfold maxLen; omega) (by omega) (Nat.le_trans HWZ.out HBc.out.size) ?_
            intro v2 w4 hown2 hg2 hat2
            obtain ⟨A2, k2, rfl⟩ := rd_form (B := w.heap.size) (Rd.of_own hown2)
            have hbl4 := (hb.out.below HBc.out hb.out.lt)
            have hbk4 := blk_other hbl4 HOc.out (by decide) hg2
            have hf4 : Fr B (· = m) w w4 := (hf.out.then_below ((HBc.out.mono HWZ.out))).then_below ((Below.refl _ _).grown hg2 (Nat.le_trans HWZ.out HBc.out.size) (own_ge HOc.out))
            have q1 := hbk4.cell n
            rw [rcells_at (by omega), rcell_V hn, if_pos rfl] at q1
            have q2 := hbk4.frozen n
            have HO2 := Lib.hid hown2
            have HK4 := Lib.hid hbk4
            have HF4 := Lib.hid hf4
            refine hK.out _ _ trivial (fun hHeld => ?_)
            clear hK K hown2 hg2 hat2 hbl4 hbk4 hf4
            try simp only [Act.put, List.setIfInBounds_toArray, List.set_cons_zero, List.set_cons_succ]
            refine wpAnyH_take (i := 13) (oi := ⟨some 62, _, _, _, _, _⟩) (v := .pointer (some ⟨m, n, none⟩)) rfl (by kernel_rfl) (by kernel_rfl) (by kernel_rfl) (fun _ _ _ h => h) (Or.inl ⟨by rfl, ?_⟩) (by assumption) ?_
            · intro wS hSw
              (try dsimp only at hSw)
              go_simp
            simp only [Act.put, List.setIfInBounds_toArray, List.set_cons_zero, List.set_cons_succ]
            refine wpAnyH_ready (rs := [14]) (by kernel_rfl) (by simp) ?_
            refine AllReadyH.cons (o := ⟨none, _, _, _, _, _⟩) rfl (fun K hK => ?_) AllReadyH.nil
            go_simp
            refine hK.out _ _ trivial (fun hHeld => ?_)
            clear hK K
            refine wpAnyH_done (by kernel_rfl) ?_ _
            have HNX : Hid (Blk (w4.setCell ⟨m, n, none⟩ (.slice A2 (k + 1) k2)) m 85 (rcells (fun i => if i = n then .slice A2 (k + 1) k2 else V i) (c.set n { c.b n with l := [], wear := wrap64 ((c.b n).wear + 1) }) (101 + (n : Int)) dd) ∧ (w4.setCell ⟨m, n, none⟩ (.slice A2 (k + 1) k2)).ownsRow w.heap.size 152 2 (.slice A2 (k + 1) k2) (k + 1) (sheetL (List.replicate (k + 1) torn)) ∧ Fr B (· = m) w (w4.setCell ⟨m, n, none⟩ (.slice A2 (k + 1) k2))) := by
              refine ⟨?_, ?_, HF4.out.setCell HBm.out (.inl rfl) HMU.out _⟩
              · have := HK4.out.set_ n (.slice A2 (k + 1) k2)
                rw [rcells_set (V' := fun i => if i = n then .slice A2 (k + 1) k2 else V i) (c' := c.set n { c.b n with l := [], wear := wrap64 ((c.b n).wear + 1) }) (h' := 101 + (n : Int)) (d' := dd) (by omega) (fun i hi' => by
                  by_cases e : i = n
                  · subst e; rw [if_pos rfl, rcell_V hn]; exact if_pos rfl
                  · rw [if_neg e]; unfold rcell; split
                    · exact (if_neg e).trans (if_neg e).symm
                    · rfl)] at this
                exact this
              · rw [show List.replicate (k + 1) torn = List.replicate k torn ++ [torn] from List.replicate_succ', sheetL_snoc]
                exact ownsRow_setCell_other HO2.out (a := ⟨m, n, none⟩) (own_ne_blk HO2.out HK4.out (by decide)) _
            clear HO2 HK4 HF4 HOc HNc HBc hb hf q1 q2
            go_wp2_with fail
            go_roundw
            case rel => exact ⟨k + 1, A2, k2, by omega, by go_num, HNX.out⟩
            case measure => simp [intOf] <;> omega
          · refine AllReadyH.cons (o := ⟨some 58, _, _, _, _, _⟩) rfl (fun K hK => ?_) AllReadyH.nil
            go_simp
            obtain ⟨hbN, hnN⟩ := new_sheet HBc.out (.string ⟨#[]⟩) (.bool true)
            have HOc := Lib.hid (own_alloc HOc.out (.cells #[.string ⟨#[]⟩, .bool true] 152))
            have HBc := Lib.hid hbN
            have HNc := Lib.hid hnN
            clear hbN hnN
            refine hK.out _ _ trivial (fun hHeld => ?_)
            clear hK K
            try simp only [Act.put, List.setIfInBounds_toArray, List.set_cons_zero, List.set_cons_succ]
            refine wpAnyH_ready (rs := [7]) (by kernel_rfl) (by simp) ?_
            refine AllReadyH.cons (o := ⟨some 56, _, _, _, _, _⟩) rfl (fun K hK => ?_) AllReadyH.nil
            have yM := (((Below.refl wr.heap.size wr).alloc (Nat.le_refl _) (.cells #[.string ⟨#[]⟩, .bool true] 152)).cell (p := ⟨m, n, none⟩) (cell_lt y0)).trans y0
            go_simp
            refine hK.out _ _ trivial (fun hHeld => ?_)
            clear hK K yM
            try simp only [Act.put, List.setIfInBounds_toArray, List.set_cons_zero, List.set_cons_succ]
            refine wpAnyH_ready (rs := [10]) (by kernel_rfl) (by simp) ?_
            refine AllReadyH.cons (o := ⟨some 59, _, _, _, _, _⟩) rfl (fun K hK => ?_) AllReadyH.nil
            refine step_append_rd rfl (.tmp 56) (.tmp 58) 80 rfl w.heap.size 152 ii _ 2 24 Try.underlying80 hi hz0 hz1 hz2 rfl (by decide) (.slice A1 k k1) k (sheetL (List.replicate k torn)) (by rfl) HOc.out wr.heap.size 152 (.slice (some ⟨_, 0, none⟩) 1 1) 1 [.string ⟨#[]⟩, .bool true] (by rfl) HNc.out (by simp [Value.oneCell']) (by unfold maxLen; omega) (by omega) (Nat.le_trans HWZ.out HBc.out.size) ?_
            intro v2 w4 hown2 hg2 hat2
            obtain ⟨A2, k2, rfl⟩ := rd_form (B := w.heap.size) (Rd.of_own hown2)
            have hbl4 := (hb.out.below HBc.out hb.out.lt)
            have hbk4 := blk_other hbl4 HOc.out (by decide) hg2
            have hf4 : Fr B (· = m) w w4 := (hf.out.then_below ((HBc.out.mono HWZ.out))).then_below ((Below.refl _ _).grown hg2 (Nat.le_trans HWZ.out HBc.out.size) (own_ge HOc.out))
            have q1 := hbk4.cell n
            rw [rcells_at (by omega), rcell_V hn, if_pos rfl] at q1
            have q2 := hbk4.frozen n
            have HO2 := Lib.hid hown2
            have HK4 := Lib.hid hbk4
            have HF4 := Lib.hid hf4
            refine hK.out _ _ trivial (fun hHeld => ?_)
            clear hK K hown2 hg2 hat2 hbl4 hbk4 hf4
            try simp only [Act.put, List.setIfInBounds_toArray, List.set_cons_zero, List.set_cons_succ]
            refine wpAnyH_take (i := 13) (oi := ⟨some 62, _, _, _, _, _⟩) (v := .pointer (some ⟨m, n, none⟩)) rfl (by kernel_rfl) (by kernel_rfl) (by kernel_rfl) (fun _ _ _ h => h) (Or.inl ⟨by rfl, ?_⟩) (by assumption) ?_
            · intro wS hSw
              (try dsimp only at hSw)
              go_simp
            simp only [Act.put, List.setIfInBounds_toArray, List.set_cons_zero, List.set_cons_succ]
            refine wpAnyH_ready (rs := [14]) (by kernel_rfl) (by simp) ?_
            refine AllReadyH.cons (o := ⟨none, _, _, _, _, _⟩) rfl (fun K hK => ?_) AllReadyH.nil
            go_simp
            refine hK.out _ _ trivial (fun hHeld => ?_)
            clear hK K
            refine wpAnyH_done (by kernel_rfl) ?_ _
            have HNX : Hid (Blk (w4.setCell ⟨m, n, none⟩ (.slice A2 (k + 1) k2)) m 85 (rcells (fun i => if i = n then .slice A2 (k + 1) k2 else V i) (c.set n { c.b n with l := [], wear := wrap64 ((c.b n).wear + 1) }) (101 + (n : Int)) dd) ∧ (w4.setCell ⟨m, n, none⟩ (.slice A2 (k + 1) k2)).ownsRow w.heap.size 152 2 (.slice A2 (k + 1) k2) (k + 1) (sheetL (List.replicate (k + 1) torn)) ∧ Fr B (· = m) w (w4.setCell ⟨m, n, none⟩ (.slice A2 (k + 1) k2))) := by
              refine ⟨?_, ?_, HF4.out.setCell HBm.out (.inl rfl) HMU.out _⟩
              · have := HK4.out.set_ n (.slice A2 (k + 1) k2)
                rw [rcells_set (V' := fun i => if i = n then .slice A2 (k + 1) k2 else V i) (c' := c.set n { c.b n with l := [], wear := wrap64 ((c.b n).wear + 1) }) (h' := 101 + (n : Int)) (d' := dd) (by omega) (fun i hi' => by
                  by_cases e : i = n
                  · subst e; rw [if_pos rfl, rcell_V hn]; exact if_pos rfl
                  · rw [if_neg e]; unfold rcell; split
                    · exact (if_neg e).trans (if_neg e).symm
                    · rfl)] at this
                exact this
              · rw [show List.replicate (k + 1) torn = List.replicate k torn ++ [torn] from List.replicate_succ', sheetL_snoc]
                exact ownsRow_setCell_other HO2.out (a := ⟨m, n, none⟩) (own_ne_blk HO2.out HK4.out (by decide)) _
            clear HO2 HK4 HF4 HOc HNc HBc hb hf q1 q2
            go_wp2_with fail
            go_roundw
            case rel => exact ⟨k + 1, A2, k2, by omega, by go_num, HNX.out⟩
            case measure => simp [intOf] <;> omega
        · obtain rfl : k = 8 := by omega
          have g1 : ¬ ((8 : Int) < 8) := by omega
          have HV5 : Hid (RChipV B wr m (fun i => if i = n then .slice A1 8 k1 else V i) (c.set n { c.b n with l := List.replicate 8 torn, wear := wrap64 ((c.b n).wear + 1) }) (101 + (n : Int)) dd) := by
            refine ⟨?_, fun b hb' => ?_, HBm.out⟩
            · have e : rcells (fun i => if i = n then .slice A1 8 k1 else V i) (c.set n { c.b n with l := List.replicate 8 torn, wear := wrap64 ((c.b n).wear + 1) }) (101 + (n : Int)) dd = rcells (fun i => if i = n then .slice A1 8 k1 else V i) (c.set n { c.b n with l := [], wear := wrap64 ((c.b n).wear + 1) }) (101 + (n : Int)) dd := by
                unfold rcells
                congr 1
                refine List.map_congr_left fun i _ => ?_
                unfold rcell
                have q : ∀ j, ((c.set n { c.b n with l := List.replicate 8 torn, wear := wrap64 ((c.b n).wear + 1) }).b j).wear = ((c.set n { c.b n with l := [], wear := wrap64 ((c.b n).wear + 1) }).b j).wear ∧ ((c.set n { c.b n with l := List.replicate 8 torn, wear := wrap64 ((c.b n).wear + 1) }).b j).weak = ((c.set n { c.b n with l := [], wear := wrap64 ((c.b n).wear + 1) }).b j).weak ∧ ((c.set n { c.b n with l := List.replicate 8 torn, wear := wrap64 ((c.b n).wear + 1) }).b j).bad = ((c.set n { c.b n with l := [], wear := wrap64 ((c.b n).wear + 1) }).b j).bad := fun j => by
                  unfold Chip.set
                  simp only
                  split <;> exact ⟨rfl, rfl, rfl⟩
                rw [(q _).1, (q _).2.1, (q _).2.2]
                rfl
              rw [e]; exact hb.out
            · by_cases e : b = n
              · subst e
                rw [Chip.set_same, if_pos rfl]
                exact Rd.of_own ho.out
              · rw [Chip.set_far _ _ e, if_neg e]
                exact HRO.out b hb' e wr hf.out
          obtain ⟨l1, l2, l3, l4, l5, l6⟩ := HV5.out.last
          have HF := Lib.hid (HV5.out.fin hf.out HMU.out HWF.out)
          clear hb ho hf y0 f0 HV5
          go_wp2_with fail
          go_end0
          exact ⟨rfl, HF.out⟩
    | wr n d =>
      obtain ⟨hu, hud⟩ : h = 1 + (n : Int) ∧ dd = d := hu
      obtain ⟨hn, hd, hl⟩ : n < 24 ∧ d.size = 64 ∧ (c.b n).l.length < 8 := hpd
      subst hu
      subst hud
      have t12 : decide ((100 : Int) < 1 + (n : Int)) = false := decide_eq_false (by omega)
      have t67 : decide ((0 : Int) < 1 + (n : Int)) = true := decide_eq_true (by omega)
      have t80 : 1 + (n : Int) - 1 = (n : Int) := by omega
      have g24 : (n : Int) < 24 := by omega
      have g0 : (0 : Int) ≤ (n : Int) := by omega
      obtain ⟨ii, hi, hz0, hz1, hz2⟩ := info_parts info_sheet
      obtain ⟨A0, k0, hV, _, _, _⟩ := rsheets_form (hv.rows n hn)
      have HMU := Lib.hid hv.mut
      by_cases h1 : how = 1
      · subst h1
        have HE : Hid (c.restart 1 = { (c.set n { c.b n with l := (c.b n).l ++ [(⟨⟨#[]⟩, true⟩ : Sheet)] }) with pend := none, down := false, fuse := -1 }) := by
          have e2 : c.undone 1 = halfP c (.wr n dd) := by unfold Chip.undone; rw [hp]; rfl
          rw [Hid, Chip.restart, e2]
          rfl
        have HWF : Hid (CWf { (c.set n { c.b n with l := (c.b n).l ++ [(⟨⟨#[]⟩, true⟩ : Sheet)] }) with pend := none, down := false, fuse := -1 }) := by rw [Hid, ← HE.out]; exact hw'
        rw [HE.out]
        obtain ⟨cR, hcR⟩ : ∃ cR : Chip, (c.set n { c.b n with l := (c.b n).l ++ [(⟨⟨#[]⟩, true⟩ : Sheet)] }) = cR := ⟨_, rfl⟩
        rw [hcR] at HWF ⊢
        have HCR := Lib.hid hcR
        clear hcR
        have hb2 : Below w.heap.size w (w.alloc (.cells #[.string ⟨#[]⟩, .bool true] 152)) := (Below.refl _ _).alloc (Nat.le_refl _) _
        have HV2 := Lib.hid (hv.below hb2)
        have HF2 : Hid (Fr B (· = m) w (w.alloc (.cells #[.string ⟨#[]⟩, .bool true] 152))) := Fr.of_below hb2
        have HK2 : Hid (Blk (w.alloc (.cells #[.string ⟨#[]⟩, .bool true] 152)) w.heap.size 152 #[.string ⟨#[]⟩, .bool true]) := Blk.new _ _ _
        have hne : m ≠ w.heap.size := by have := hv.blk.lt; omega
        have l7 : w.cell? ⟨m, 99, none⟩ = some (.string dd) := hv.cell (j := 99) (by omega)
        clear hv hwf hw' hpk HW hp HE hh hb2 hd
        go_enter Try.func53, Try.ntmps53
        go_wp2_with fail
        generalize hW2 : (w.alloc (.cells #[.string ⟨#[]⟩, .bool true] 152)) = w2 at *
        clear hW2 l1 l2 l3 l4 l5 l6 l7
        have y0 : w2.cell? ⟨m, n, none⟩ = some (.slice A0 (c.b n).l.length k0) := by have := HV2.out.cell (j := n) (by omega); rw [rcell_V hn, hV] at this; exact this
        have f0 := HV2.out.blk.frozen n
        have HRc : Hid (∀ W, Below w2.heap.size w2 W → Rd B 152 2 W (.slice A0 (c.b n).l.length k0) (c.b n).l.length (sheetL (c.b n).l)) := fun W hW => by
          have := HV2.out.rows n hn
          rw [hV] at this
          exact this.below hW
        have HPC : Hid (∀ W, Below w2.heap.size w2 W → W.cell? ⟨w.heap.size, 0, none⟩ = some (.string ⟨#[]⟩) ∧ W.cell? ⟨w.heap.size, 1, none⟩ = some (.bool true)) := fun W hW => by
          have := HK2.out.below hW HK2.out.lt
          exact ⟨this.cell 0, this.cell 1⟩
        have FINW : Hid (∀ w4 v, Below w2.heap.size w2 w4 → Rd B 152 2 w4 v ((c.b n).l.length + 1) (sheetL (c.b n).l ++ [.string ⟨#[]⟩, .bool true]) → RChipV B (w4.setCell ⟨m, n, none⟩ v) m (fun i => if i = n then v else V i) cR (1 + (n : Int)) dd ∧ Fr B (· = m) w (w4.setCell ⟨m, n, none⟩ v)) := by
          intro w4 v hb hr
          have hr' : Rd B 152 2 w4 v ((c.b n).l ++ [(⟨⟨#[]⟩, true⟩ : Sheet)]).length (sheetL ((c.b n).l ++ [(⟨⟨#[]⟩, true⟩ : Sheet)])) := by
            rw [sheetL_snoc, List.length_append]; exact hr
          rw [← HCR.out]
          exact ⟨(HV2.out.below hb).setRow hn _ hr', rfr (HF2.out.trans' (Fr.of_below hb) (fun _ _ h => h)) (HV2.out.below hb) _ _ HMU.out⟩
        have HBc : Hid (Below w2.heap.size w2 w2.drew) := (Below.refl _ _).drew
        clear HV2 HF2 HK2 HV hV HCR
        generalize (c.b n).l = L at *
        refine wp_region_held_drew (S := fun w' => w'.cell? ⟨w.heap.size, 0, none⟩ = some (.string ⟨#[]⟩) ∧ w'.cell? ⟨w.heap.size, 1, none⟩ = some (.bool true)) (by kernel_rfl) (HPC.out _ HBc.out) (fun hHeld => ?_)
        refine wpAnyH_take (i := 0) (oi := ⟨some 89, _, _, _, _, _⟩) (v := .pointer (some ⟨m, 0, none⟩)) rfl (by kernel_rfl) (by kernel_rfl) (by kernel_rfl) (fun _ _ _ h => h) (Or.inl ⟨by rfl, ?_⟩) (by assumption) ?_
        · intro wS hSw
          (try dsimp only at hSw)
          go_simp
        simp only [Act.put, List.setIfInBounds_toArray, List.set_cons_zero, List.set_cons_succ]
        refine wpAnyH_take (i := 1) (oi := ⟨some 90, _, _, _, _, _⟩) (v := .int .i64 (n : Int)) rfl (by kernel_rfl) (by kernel_rfl) (by kernel_rfl) (fun _ _ _ h => h) (Or.inl ⟨by rfl, ?_⟩) (by assumption) ?_
        · intro wS hSw
          (try dsimp only at hSw)
          go_simp
        simp only [Act.put, List.setIfInBounds_toArray, List.set_cons_zero, List.set_cons_succ]
        refine wpAnyH_take (i := 2) (oi := ⟨some 91, _, _, _, _, _⟩) (v := .pointer (some ⟨m, 0, none⟩)) rfl (by kernel_rfl) (by kernel_rfl) (by kernel_rfl) (fun _ _ _ h => h) (Or.inl ⟨by rfl, ?_⟩) (by assumption) ?_
        · intro wS hSw
          (try dsimp only at hSw)
          go_simp
        simp only [Act.put, List.setIfInBounds_toArray, List.set_cons_zero, List.set_cons_succ]
        refine wpAnyH_take (i := 3) (oi := ⟨some 92, _, _, _, _, _⟩) (v := .int .i64 (n : Int)) rfl (by kernel_rfl) (by kernel_rfl) (by kernel_rfl) (fun _ _ _ h => h) (Or.inl ⟨by rfl, ?_⟩) (by assumption) ?_
        · intro wS hSw
          (try dsimp only at hSw)
          go_simp
        simp only [Act.put, List.setIfInBounds_toArray, List.set_cons_zero, List.set_cons_succ]
        refine wpAnyH_take (i := 4) (oi := ⟨some 93, _, _, _, _, _⟩) (v := .pointer (some ⟨m, 0, none⟩)) rfl (by kernel_rfl) (by kernel_rfl) (by kernel_rfl) (fun _ _ _ h => h) (Or.inl ⟨by rfl, ?_⟩) (by assumption) ?_
        · intro wS hSw
          (try dsimp only at hSw)
          go_simp
        simp only [Act.put, List.setIfInBounds_toArray, List.set_cons_zero, List.set_cons_succ]
        refine wpAnyH_take (i := 5) (oi := ⟨some 94, _, _, _, _, _⟩) (v := .pointer (some ⟨m, 0, none⟩)) rfl (by kernel_rfl) (by kernel_rfl) (by kernel_rfl) (fun _ _ _ h => h) (Or.inl ⟨by rfl, ?_⟩) (by assumption) ?_
        · intro wS hSw
          (try dsimp only at hSw)
          go_simp
        simp only [Act.put, List.setIfInBounds_toArray, List.set_cons_zero, List.set_cons_succ]
        refine wpAnyH_take (i := 6) (oi := ⟨some 95, _, _, _, _, _⟩) (v := .pointer (some ⟨m, n, none⟩)) rfl (by kernel_rfl) (by kernel_rfl) (by kernel_rfl) (fun _ _ _ h => h) (Or.inl ⟨by rfl, ?_⟩) (by assumption) ?_
        · intro wS hSw
          (try dsimp only at hSw)
          go_simp
        simp only [Act.put, List.setIfInBounds_toArray, List.set_cons_zero, List.set_cons_succ]
        refine wpAnyH_take (i := 9) (oi := ⟨some 98, _, _, _, _, _⟩) (v := .agg #[.string ⟨#[]⟩, .bool true]) rfl (by kernel_rfl) (by kernel_rfl) (by kernel_rfl) (fun _ _ _ h => h) (Or.inl ⟨by rfl, ?_⟩) (by assumption) ?_
        · intro wS hSw
          (try dsimp only at hSw)
          go_simp
        simp only [Act.put, List.setIfInBounds_toArray, List.set_cons_zero, List.set_cons_succ]
        refine wpAnyH_take (i := 12) (oi := ⟨some 101, _, _, _, _, _⟩) (v := .pointer (some ⟨m, 0, none⟩)) rfl (by kernel_rfl) (by kernel_rfl) (by kernel_rfl) (fun _ _ _ h => h) (Or.inl ⟨by rfl, ?_⟩) (by assumption) ?_
        · intro wS hSw
          (try dsimp only at hSw)
          go_simp
        simp only [Act.put, List.setIfInBounds_toArray, List.set_cons_zero, List.set_cons_succ]
        refine wpAnyH_take (i := 13) (oi := ⟨some 102, _, _, _, _, _⟩) (v := .pointer (some ⟨m, 0, none⟩)) rfl (by kernel_rfl) (by kernel_rfl) (by kernel_rfl) (fun _ _ _ h => h) (Or.inl ⟨by rfl, ?_⟩) (by assumption) ?_
        · intro wS hSw
          (try dsimp only at hSw)
          go_simp
        simp only [Act.put, List.setIfInBounds_toArray, List.set_cons_zero, List.set_cons_succ]
        refine wpAnyH_ready (rs := [7, 10]) (by kernel_rfl) (by simp) ?_
        refine AllReadyH.cons (o := ⟨some 96, _, _, _, _, _⟩) rfl (fun K hK => ?_) ?_
        · have yM := (((Below.refl w2.heap.size w2).alloc (Nat.le_refl _) (.cells #[.string ⟨#[]⟩, .bool true] 152)).cell (p := ⟨m, n, none⟩) (cell_lt y0)).trans y0
          have yL := (HBc.out.cell (p := ⟨m, n, none⟩) (cell_lt y0)).trans y0
          go_simp
          refine hK.out _ _ (HPC.out _ HBc.out) (fun hHeld => ?_)
          clear hK K yL yM
          try simp only [Act.put, List.setIfInBounds_toArray, List.set_cons_zero, List.set_cons_succ]
          refine wpAnyH_ready (rs := [8, 10]) (by kernel_rfl) (by simp) ?_
          refine AllReadyH.cons (o := ⟨some 97, _, _, _, _, _⟩) rfl (fun K hK => ?_) ?_
          · refine step_append_rd rfl (.const (.slice none 0 0)) (.tmp 96) 80 rfl w2.heap.size 152 ii _ 2 24 Try.underlying80 hi hz0 hz1 hz2 rfl (by decide) (.slice none 0 0) 0 [] rfl (World.ownsRow_nil _ _ _ _) B 152 (.slice A0 L.length k0) L.length (sheetL L) (by rfl) (HRc.out _ HBc.out) (sheet_one L) (by unfold maxLen; omega) (by omega) HBc.out.size ?_
            intro v1 w3 hown1 hg1 hat1
            rw [Nat.zero_add, List.nil_append] at hown1
            obtain ⟨A1, k1, rfl⟩ := rd_form (B := w2.heap.size) (Rd.of_own hown1)
            have hb3 := below_own HBc.out (Nat.le_refl _) (World.ownsRow_nil _ _ 152 2) hg1
            have HB3 := Lib.hid hb3
            refine hK.out _ _ (HPC.out _ HB3.out) (fun hHeld => ?_)
            clear hK K HB3
            have HOc := Lib.hid hown1
            have HBc := Lib.hid hb3
            clear hown1 hg1 hat1 hb3
            try simp only [Act.put, List.setIfInBounds_toArray, List.set_cons_zero, List.set_cons_succ]
            refine wpAnyH_ready (rs := [10]) (by kernel_rfl) (by simp) ?_
            refine AllReadyH.cons (o := ⟨some 99, _, _, _, _, _⟩) rfl (fun K hK => ?_) AllReadyH.nil
            go_simp
            obtain ⟨hbN, hnN⟩ := new_sheet HBc.out (.string ⟨#[]⟩) (.bool true)
            have HBn := Lib.hid hbN
            refine hK.out _ _ (HPC.out _ HBn.out) (fun hHeld => ?_)
            clear hK K HBn
            have HOc := Lib.hid (own_alloc HOc.out (.cells #[.string ⟨#[]⟩, .bool true] 152))
            have HBc := Lib.hid hbN
            have HNc := Lib.hid hnN
            clear hbN hnN
            try simp only [Act.put, List.setIfInBounds_toArray, List.set_cons_zero, List.set_cons_succ]
            refine wpAnyH_ready (rs := [11]) (by kernel_rfl) (by simp) ?_
            refine AllReadyH.cons (o := ⟨some 100, _, _, _, _, _⟩) rfl (fun K hK => ?_) AllReadyH.nil
            refine step_append_rd rfl (.tmp 97) (.tmp 99) 80 rfl w2.heap.size 152 ii _ 2 24 Try.underlying80 hi hz0 hz1 hz2 rfl (by decide) (.slice A1 L.length k1) L.length (sheetL L) (by rfl) HOc.out w2.heap.size 152 (.slice (some ⟨_, 0, none⟩) 1 1) 1 [.string ⟨#[]⟩, .bool true] (by rfl) HNc.out (by simp [Value.oneCell']) (by unfold maxLen; omega) (by omega) HBc.out.size ?_
            intro v2 w4 hown2 hg2 hat2
            obtain ⟨A2, k2, rfl⟩ := rd_form (B := w2.heap.size) (Rd.of_own hown2)
            have hb4 := below_own HBc.out (Nat.le_refl _) HOc.out hg2
            have HR4 : Hid (Rd B 152 2 w4 (.slice A2 (L.length + 1) k2) (L.length + 1) (sheetL L ++ [.string ⟨#[]⟩, .bool true])) := Rd.of_own hown2
            have q1 := (hb4.cell (p := ⟨m, n, none⟩) (cell_lt y0)).trans y0
            have q2 := (hb4.frozen (p := ⟨m, n, none⟩) (cell_lt y0)).trans f0
            have HB4 := Lib.hid hb4
            refine hK.out _ _ (HPC.out _ HB4.out) (fun hHeld => ?_)
            clear hK K hown2 hg2 hat2 hb4
            try simp only [Act.put, List.setIfInBounds_toArray, List.set_cons_zero, List.set_cons_succ]
            refine wpAnyH_take (i := 14) (oi := ⟨some 103, _, _, _, _, _⟩) (v := .pointer (some ⟨m, n, none⟩)) rfl (by kernel_rfl) (by kernel_rfl) (by kernel_rfl) (fun _ _ _ h => h) (Or.inl ⟨by rfl, ?_⟩) (by assumption) ?_
            · intro wS hSw
              (try dsimp only at hSw)
              go_simp
            simp only [Act.put, List.setIfInBounds_toArray, List.set_cons_zero, List.set_cons_succ]
            refine wpAnyH_ready (rs := [15]) (by kernel_rfl) (by simp) ?_
            refine AllReadyH.cons (o := ⟨none, _, _, _, _, _⟩) rfl (fun K hK => ?_) AllReadyH.nil
            go_simp
            refine hK.out _ _ (⟨by rw [World.cell?_setCell_far _ _ _ _ hne]; exact (HPC.out _ HB4.out).1, by rw [World.cell?_setCell_far _ _ _ _ hne]; exact (HPC.out _ HB4.out).2⟩) (fun hHeld => ?_)
            clear hK K
            refine wpAnyH_done (by kernel_rfl) ?_ _
            obtain ⟨f1, f2⟩ := FINW.out _ _ HB4.out HR4.out
            obtain ⟨l1, l2, l3, l4, l5, l6⟩ := f1.last
            have HF := Lib.hid (f1.fin f2 HMU.out HWF.out)
            clear f1 f2
            generalize w4.setCell ⟨m, n, none⟩ (.slice A2 (L.length + 1) k2) = w5 at *
            clear y0 f0 q1 q2
            go_wp2_with fail
            go_end0
            exact ⟨rfl, HF.out⟩
          · refine AllReadyH.cons (o := ⟨some 99, _, _, _, _, _⟩) rfl (fun K hK => ?_) AllReadyH.nil
            go_simp
            obtain ⟨hbN, hnN⟩ := new_sheet HBc.out (.string ⟨#[]⟩) (.bool true)
            have HBn := Lib.hid hbN
            refine hK.out _ _ (HPC.out _ HBn.out) (fun hHeld => ?_)
            clear hK K HBn
            have HBc := Lib.hid hbN
            have HNc := Lib.hid hnN
            clear hbN hnN
            try simp only [Act.put, List.setIfInBounds_toArray, List.set_cons_zero, List.set_cons_succ]
            refine wpAnyH_ready (rs := [8]) (by kernel_rfl) (by simp) ?_
            refine AllReadyH.cons (o := ⟨some 97, _, _, _, _, _⟩) rfl (fun K hK => ?_) AllReadyH.nil
            refine step_append_rd rfl (.const (.slice none 0 0)) (.tmp 96) 80 rfl w2.heap.size 152 ii _ 2 24 Try.underlying80 hi hz0 hz1 hz2 rfl (by decide) (.slice none 0 0) 0 [] rfl (World.ownsRow_nil _ _ _ _) B 152 (.slice A0 L.length k0) L.length (sheetL L) (by rfl) (HRc.out _ HBc.out) (sheet_one L) (by unfold maxLen; omega) (by omega) HBc.out.size ?_
            intro v1 w3 hown1 hg1 hat1
            rw [Nat.zero_add, List.nil_append] at hown1
            obtain ⟨A1, k1, rfl⟩ := rd_form (B := w2.heap.size) (Rd.of_own hown1)
            have hb3 := below_own HBc.out (Nat.le_refl _) (World.ownsRow_nil _ _ 152 2) hg1
            have HB3 := Lib.hid hb3
            refine hK.out _ _ (HPC.out _ HB3.out) (fun hHeld => ?_)
            clear hK K HB3
            have HOc := Lib.hid hown1
            have HNc := Lib.hid (HNc.out.grown hg1 (fun g e => by simp [Value.ownBlock] at e))
            have HBc := Lib.hid hb3
            clear hown1 hg1 hat1 hb3
            try simp only [Act.put, List.setIfInBounds_toArray, List.set_cons_zero, List.set_cons_succ]
            refine wpAnyH_ready (rs := [11]) (by kernel_rfl) (by simp) ?_
            refine AllReadyH.cons (o := ⟨some 100, _, _, _, _, _⟩) rfl (fun K hK => ?_) AllReadyH.nil
            refine step_append_rd rfl (.tmp 97) (.tmp 99) 80 rfl w2.heap.size 152 ii _ 2 24 Try.underlying80 hi hz0 hz1 hz2 rfl (by decide) (.slice A1 L.length k1) L.length (sheetL L) (by rfl) HOc.out w2.heap.size 152 (.slice (some ⟨_, 0, none⟩) 1 1) 1 [.string ⟨#[]⟩, .bool true] (by rfl) HNc.out (by simp [Value.oneCell']) (by unfold maxLen; omega) (by omega) HBc.out.size ?_
            intro v2 w4 hown2 hg2 hat2
            obtain ⟨A2, k2, rfl⟩ := rd_form (B := w2.heap.size) (Rd.of_own hown2)
            have hb4 := below_own HBc.out (Nat.le_refl _) HOc.out hg2
            have HR4 : Hid (Rd B 152 2 w4 (.slice A2 (L.length + 1) k2) (L.length + 1) (sheetL L ++ [.string ⟨#[]⟩, .bool true])) := Rd.of_own hown2
            have q1 := (hb4.cell (p := ⟨m, n, none⟩) (cell_lt y0)).trans y0
            have q2 := (hb4.frozen (p := ⟨m, n, none⟩) (cell_lt y0)).trans f0
            have HB4 := Lib.hid hb4
            refine hK.out _ _ (HPC.out _ HB4.out) (fun hHeld => ?_)
            clear hK K hown2 hg2 hat2 hb4
            try simp only [Act.put, List.setIfInBounds_toArray, List.set_cons_zero, List.set_cons_succ]
            refine wpAnyH_take (i := 14) (oi := ⟨some 103, _, _, _, _, _⟩) (v := .pointer (some ⟨m, n, none⟩)) rfl (by kernel_rfl) (by kernel_rfl) (by kernel_rfl) (fun _ _ _ h => h) (Or.inl ⟨by rfl, ?_⟩) (by assumption) ?_
            · intro wS hSw
              (try dsimp only at hSw)
              go_simp
            simp only [Act.put, List.setIfInBounds_toArray, List.set_cons_zero, List.set_cons_succ]
            refine wpAnyH_ready (rs := [15]) (by kernel_rfl) (by simp) ?_
            refine AllReadyH.cons (o := ⟨none, _, _, _, _, _⟩) rfl (fun K hK => ?_) AllReadyH.nil
            go_simp
            refine hK.out _ _ (⟨by rw [World.cell?_setCell_far _ _ _ _ hne]; exact (HPC.out _ HB4.out).1, by rw [World.cell?_setCell_far _ _ _ _ hne]; exact (HPC.out _ HB4.out).2⟩) (fun hHeld => ?_)
            clear hK K
            refine wpAnyH_done (by kernel_rfl) ?_ _
            obtain ⟨f1, f2⟩ := FINW.out _ _ HB4.out HR4.out
            obtain ⟨l1, l2, l3, l4, l5, l6⟩ := f1.last
            have HF := Lib.hid (f1.fin f2 HMU.out HWF.out)
            clear f1 f2
            generalize w4.setCell ⟨m, n, none⟩ (.slice A2 (L.length + 1) k2) = w5 at *
            clear y0 f0 q1 q2
            go_wp2_with fail
            go_end0
            exact ⟨rfl, HF.out⟩
        · refine AllReadyH.cons (o := ⟨some 99, _, _, _, _, _⟩) rfl (fun K hK => ?_) AllReadyH.nil
          go_simp
          obtain ⟨hbN, hnN⟩ := new_sheet HBc.out (.string ⟨#[]⟩) (.bool true)
          have HBn := Lib.hid hbN
          refine hK.out _ _ (HPC.out _ HBn.out) (fun hHeld => ?_)
          clear hK K HBn
          have HBc := Lib.hid hbN
          have HNc := Lib.hid hnN
          clear hbN hnN
          try simp only [Act.put, List.setIfInBounds_toArray, List.set_cons_zero, List.set_cons_succ]
          refine wpAnyH_ready (rs := [7]) (by kernel_rfl) (by simp) ?_
          refine AllReadyH.cons (o := ⟨some 96, _, _, _, _, _⟩) rfl (fun K hK => ?_) AllReadyH.nil
          have yM := (((Below.refl w2.heap.size w2).alloc (Nat.le_refl _) (.cells #[.string ⟨#[]⟩, .bool true] 152)).cell (p := ⟨m, n, none⟩) (cell_lt y0)).trans y0
          have yL := (HBc.out.cell (p := ⟨m, n, none⟩) (cell_lt y0)).trans y0
          go_simp
          refine hK.out _ _ (HPC.out _ HBc.out) (fun hHeld => ?_)
          clear hK K yL yM
          try simp only [Act.put, List.setIfInBounds_toArray, List.set_cons_zero, List.set_cons_succ]
          refine wpAnyH_ready (rs := [8]) (by kernel_rfl) (by simp) ?_
          refine AllReadyH.cons (o := ⟨some 97, _, _, _, _, _⟩) rfl (fun K hK => ?_) AllReadyH.nil
          refine step_append_rd rfl (.const (.slice none 0 0)) (.tmp 96) 80 rfl w2.heap.size 152 ii _ 2 24 Try.underlying80 hi hz0 hz1 hz2 rfl (by decide) (.slice none 0 0) 0 [] rfl (World.ownsRow_nil _ _ _ _) B 152 (.slice A0 L.length k0) L.length (sheetL L) (by rfl) (HRc.out _ HBc.out) (sheet_one L) (by unfold maxLen; omega) (by omega) HBc.out.size ?_
          intro v1 w3 hown1 hg1 hat1
          rw [Nat.zero_add, List.nil_append] at hown1
          obtain ⟨A1, k1, rfl⟩ := rd_form (B := w2.heap.size) (Rd.of_own hown1)
          have hb3 := below_own HBc.out (Nat.le_refl _) (World.ownsRow_nil _ _ 152 2) hg1
          have HB3 := Lib.hid hb3
          refine hK.out _ _ (HPC.out _ HB3.out) (fun hHeld => ?_)
          clear hK K HB3
          have HOc := Lib.hid hown1
          have HNc := Lib.hid (HNc.out.grown hg1 (fun g e => by simp [Value.ownBlock] at e))
          have HBc := Lib.hid hb3
          clear hown1 hg1 hat1 hb3
          try simp only [Act.put, List.setIfInBounds_toArray, List.set_cons_zero, List.set_cons_succ]
          refine wpAnyH_ready (rs := [11]) (by kernel_rfl) (by simp) ?_
          refine AllReadyH.cons (o := ⟨some 100, _, _, _, _, _⟩) rfl (fun K hK => ?_) AllReadyH.nil
          refine step_append_rd rfl (.tmp 97) (.tmp 99) 80 rfl w2.heap.size 152 ii _ 2 24 Try.underlying80 hi hz0 hz1 hz2 rfl (by decide) (.slice A1 L.length k1) L.length (sheetL L) (by rfl) HOc.out w2.heap.size 152 (.slice (some ⟨_, 0, none⟩) 1 1) 1 [.string ⟨#[]⟩, .bool true] (by rfl) HNc.out (by simp [Value.oneCell']) (by unfold maxLen; omega) (by omega) HBc.out.size ?_
          intro v2 w4 hown2 hg2 hat2
          obtain ⟨A2, k2, rfl⟩ := rd_form (B := w2.heap.size) (Rd.of_own hown2)
          have hb4 := below_own HBc.out (Nat.le_refl _) HOc.out hg2
          have HR4 : Hid (Rd B 152 2 w4 (.slice A2 (L.length + 1) k2) (L.length + 1) (sheetL L ++ [.string ⟨#[]⟩, .bool true])) := Rd.of_own hown2
          have q1 := (hb4.cell (p := ⟨m, n, none⟩) (cell_lt y0)).trans y0
          have q2 := (hb4.frozen (p := ⟨m, n, none⟩) (cell_lt y0)).trans f0
          have HB4 := Lib.hid hb4
          refine hK.out _ _ (HPC.out _ HB4.out) (fun hHeld => ?_)
          clear hK K hown2 hg2 hat2 hb4
          try simp only [Act.put, List.setIfInBounds_toArray, List.set_cons_zero, List.set_cons_succ]
          refine wpAnyH_take (i := 14) (oi := ⟨some 103, _, _, _, _, _⟩) (v := .pointer (some ⟨m, n, none⟩)) rfl (by kernel_rfl) (by kernel_rfl) (by kernel_rfl) (fun _ _ _ h => h) (Or.inl ⟨by rfl, ?_⟩) (by assumption) ?_
          · intro wS hSw
            (try dsimp only at hSw)
            go_simp
          simp only [Act.put, List.setIfInBounds_toArray, List.set_cons_zero, List.set_cons_succ]
          refine wpAnyH_ready (rs := [15]) (by kernel_rfl) (by simp) ?_
          refine AllReadyH.cons (o := ⟨none, _, _, _, _, _⟩) rfl (fun K hK => ?_) AllReadyH.nil
          go_simp
          refine hK.out _ _ (⟨by rw [World.cell?_setCell_far _ _ _ _ hne]; exact (HPC.out _ HB4.out).1, by rw [World.cell?_setCell_far _ _ _ _ hne]; exact (HPC.out _ HB4.out).2⟩) (fun hHeld => ?_)
          clear hK K
          refine wpAnyH_done (by kernel_rfl) ?_ _
          obtain ⟨f1, f2⟩ := FINW.out _ _ HB4.out HR4.out
          obtain ⟨l1, l2, l3, l4, l5, l6⟩ := f1.last
          have HF := Lib.hid (f1.fin f2 HMU.out HWF.out)
          clear f1 f2
          generalize w4.setCell ⟨m, n, none⟩ (.slice A2 (L.length + 1) k2) = w5 at *
          clear y0 f0 q1 q2
          go_wp2_with fail
          go_end0
          exact ⟨rfl, HF.out⟩
      · have h2 : how = 2 := by omega
        subst h2
        have HE : Hid (c.restart 2 = { (c.set n { c.b n with l := (c.b n).l ++ [(⟨dd, false⟩ : Sheet)] }) with pend := none, down := false, fuse := -1 }) := by
          have e2 : c.undone 2 = doP c (.wr n dd) := by unfold Chip.undone; rw [hp]; rfl
          rw [Hid, Chip.restart, e2]
          rfl
        have HWF : Hid (CWf { (c.set n { c.b n with l := (c.b n).l ++ [(⟨dd, false⟩ : Sheet)] }) with pend := none, down := false, fuse := -1 }) := by rw [Hid, ← HE.out]; exact hw'
        rw [HE.out]
        obtain ⟨cR, hcR⟩ : ∃ cR : Chip, (c.set n { c.b n with l := (c.b n).l ++ [(⟨dd, false⟩ : Sheet)] }) = cR := ⟨_, rfl⟩
        rw [hcR] at HWF ⊢
        have HCR := Lib.hid hcR
        clear hcR
        have hb2 : Below w.heap.size w (w.alloc (.cells #[.string dd, .bool false] 152)) := (Below.refl _ _).alloc (Nat.le_refl _) _
        have HV2 := Lib.hid (hv.below hb2)
        have HF2 : Hid (Fr B (· = m) w (w.alloc (.cells #[.string dd, .bool false] 152))) := Fr.of_below hb2
        have HK2 : Hid (Blk (w.alloc (.cells #[.string dd, .bool false] 152)) w.heap.size 152 #[.string dd, .bool false]) := Blk.new _ _ _
        have hne : m ≠ w.heap.size := by have := hv.blk.lt; omega
        have l7 : w.cell? ⟨m, 99, none⟩ = some (.string dd) := hv.cell (j := 99) (by omega)
        clear hv hwf hw' hpk HW hp HE hh hb2 hd
        go_enter Try.func53, Try.ntmps53
        go_wp2_with fail
        generalize hW2 : (w.alloc (.cells #[.string dd, .bool false] 152)) = w2 at *
        clear hW2 l1 l2 l3 l4 l5 l6 l7
        have y0 : w2.cell? ⟨m, n, none⟩ = some (.slice A0 (c.b n).l.length k0) := by have := HV2.out.cell (j := n) (by omega); rw [rcell_V hn, hV] at this; exact this
        have f0 := HV2.out.blk.frozen n
        have HRc : Hid (∀ W, Below w2.heap.size w2 W → Rd B 152 2 W (.slice A0 (c.b n).l.length k0) (c.b n).l.length (sheetL (c.b n).l)) := fun W hW => by
          have := HV2.out.rows n hn
          rw [hV] at this
          exact this.below hW
        have HPC : Hid (∀ W, Below w2.heap.size w2 W → W.cell? ⟨w.heap.size, 0, none⟩ = some (.string dd) ∧ W.cell? ⟨w.heap.size, 1, none⟩ = some (.bool false)) := fun W hW => by
          have := HK2.out.below hW HK2.out.lt
          exact ⟨this.cell 0, this.cell 1⟩
        have FINW : Hid (∀ w4 v, Below w2.heap.size w2 w4 → Rd B 152 2 w4 v ((c.b n).l.length + 1) (sheetL (c.b n).l ++ [.string dd, .bool false]) → RChipV B (w4.setCell ⟨m, n, none⟩ v) m (fun i => if i = n then v else V i) cR (1 + (n : Int)) dd ∧ Fr B (· = m) w (w4.setCell ⟨m, n, none⟩ v)) := by
          intro w4 v hb hr
          have hr' : Rd B 152 2 w4 v ((c.b n).l ++ [(⟨dd, false⟩ : Sheet)]).length (sheetL ((c.b n).l ++ [(⟨dd, false⟩ : Sheet)])) := by
            rw [sheetL_snoc, List.length_append]; exact hr
          rw [← HCR.out]
          exact ⟨(HV2.out.below hb).setRow hn _ hr', rfr (HF2.out.trans' (Fr.of_below hb) (fun _ _ h => h)) (HV2.out.below hb) _ _ HMU.out⟩
        have HBc : Hid (Below w2.heap.size w2 w2.drew) := (Below.refl _ _).drew
        clear HV2 HF2 HK2 HV hV HCR
        generalize (c.b n).l = L at *
        refine wp_region_held_drew (S := fun w' => w'.cell? ⟨w.heap.size, 0, none⟩ = some (.string dd) ∧ w'.cell? ⟨w.heap.size, 1, none⟩ = some (.bool false)) (by kernel_rfl) (HPC.out _ HBc.out) (fun hHeld => ?_)
        refine wpAnyH_take (i := 0) (oi := ⟨some 89, _, _, _, _, _⟩) (v := .pointer (some ⟨m, 0, none⟩)) rfl (by kernel_rfl) (by kernel_rfl) (by kernel_rfl) (fun _ _ _ h => h) (Or.inl ⟨by rfl, ?_⟩) (by assumption) ?_
        · intro wS hSw
          (try dsimp only at hSw)
          go_simp
        simp only [Act.put, List.setIfInBounds_toArray, List.set_cons_zero, List.set_cons_succ]
        refine wpAnyH_take (i := 1) (oi := ⟨some 90, _, _, _, _, _⟩) (v := .int .i64 (n : Int)) rfl (by kernel_rfl) (by kernel_rfl) (by kernel_rfl) (fun _ _ _ h => h) (Or.inl ⟨by rfl, ?_⟩) (by assumption) ?_
        · intro wS hSw
          (try dsimp only at hSw)
          go_simp
        simp only [Act.put, List.setIfInBounds_toArray, List.set_cons_zero, List.set_cons_succ]
        refine wpAnyH_take (i := 2) (oi := ⟨some 91, _, _, _, _, _⟩) (v := .pointer (some ⟨m, 0, none⟩)) rfl (by kernel_rfl) (by kernel_rfl) (by kernel_rfl) (fun _ _ _ h => h) (Or.inl ⟨by rfl, ?_⟩) (by assumption) ?_
        · intro wS hSw
          (try dsimp only at hSw)
          go_simp
        simp only [Act.put, List.setIfInBounds_toArray, List.set_cons_zero, List.set_cons_succ]
        refine wpAnyH_take (i := 3) (oi := ⟨some 92, _, _, _, _, _⟩) (v := .int .i64 (n : Int)) rfl (by kernel_rfl) (by kernel_rfl) (by kernel_rfl) (fun _ _ _ h => h) (Or.inl ⟨by rfl, ?_⟩) (by assumption) ?_
        · intro wS hSw
          (try dsimp only at hSw)
          go_simp
        simp only [Act.put, List.setIfInBounds_toArray, List.set_cons_zero, List.set_cons_succ]
        refine wpAnyH_take (i := 4) (oi := ⟨some 93, _, _, _, _, _⟩) (v := .pointer (some ⟨m, 0, none⟩)) rfl (by kernel_rfl) (by kernel_rfl) (by kernel_rfl) (fun _ _ _ h => h) (Or.inl ⟨by rfl, ?_⟩) (by assumption) ?_
        · intro wS hSw
          (try dsimp only at hSw)
          go_simp
        simp only [Act.put, List.setIfInBounds_toArray, List.set_cons_zero, List.set_cons_succ]
        refine wpAnyH_take (i := 5) (oi := ⟨some 94, _, _, _, _, _⟩) (v := .pointer (some ⟨m, 0, none⟩)) rfl (by kernel_rfl) (by kernel_rfl) (by kernel_rfl) (fun _ _ _ h => h) (Or.inl ⟨by rfl, ?_⟩) (by assumption) ?_
        · intro wS hSw
          (try dsimp only at hSw)
          go_simp
        simp only [Act.put, List.setIfInBounds_toArray, List.set_cons_zero, List.set_cons_succ]
        refine wpAnyH_take (i := 6) (oi := ⟨some 95, _, _, _, _, _⟩) (v := .pointer (some ⟨m, n, none⟩)) rfl (by kernel_rfl) (by kernel_rfl) (by kernel_rfl) (fun _ _ _ h => h) (Or.inl ⟨by rfl, ?_⟩) (by assumption) ?_
        · intro wS hSw
          (try dsimp only at hSw)
          go_simp
        simp only [Act.put, List.setIfInBounds_toArray, List.set_cons_zero, List.set_cons_succ]
        refine wpAnyH_take (i := 9) (oi := ⟨some 98, _, _, _, _, _⟩) (v := .agg #[.string dd, .bool false]) rfl (by kernel_rfl) (by kernel_rfl) (by kernel_rfl) (fun _ _ _ h => h) (Or.inl ⟨by rfl, ?_⟩) (by assumption) ?_
        · intro wS hSw
          (try dsimp only at hSw)
          go_simp
        simp only [Act.put, List.setIfInBounds_toArray, List.set_cons_zero, List.set_cons_succ]
        refine wpAnyH_take (i := 12) (oi := ⟨some 101, _, _, _, _, _⟩) (v := .pointer (some ⟨m, 0, none⟩)) rfl (by kernel_rfl) (by kernel_rfl) (by kernel_rfl) (fun _ _ _ h => h) (Or.inl ⟨by rfl, ?_⟩) (by assumption) ?_
        · intro wS hSw
          (try dsimp only at hSw)
          go_simp
        simp only [Act.put, List.setIfInBounds_toArray, List.set_cons_zero, List.set_cons_succ]
        refine wpAnyH_take (i := 13) (oi := ⟨some 102, _, _, _, _, _⟩) (v := .pointer (some ⟨m, 0, none⟩)) rfl (by kernel_rfl) (by kernel_rfl) (by kernel_rfl) (fun _ _ _ h => h) (Or.inl ⟨by rfl, ?_⟩) (by assumption) ?_
        · intro wS hSw
          (try dsimp only at hSw)
          go_simp
        simp only [Act.put, List.setIfInBounds_toArray, List.set_cons_zero, List.set_cons_succ]
        refine wpAnyH_ready (rs := [7, 10]) (by kernel_rfl) (by simp) ?_
        refine AllReadyH.cons (o := ⟨some 96, _, _, _, _, _⟩) rfl (fun K hK => ?_) ?_
        · have yM := (((Below.refl w2.heap.size w2).alloc (Nat.le_refl _) (.cells #[.string dd, .bool false] 152)).cell (p := ⟨m, n, none⟩) (cell_lt y0)).trans y0
          have yL := (HBc.out.cell (p := ⟨m, n, none⟩) (cell_lt y0)).trans y0
          go_simp
          refine hK.out _ _ (HPC.out _ HBc.out) (fun hHeld => ?_)
          clear hK K yL yM
          try simp only [Act.put, List.setIfInBounds_toArray, List.set_cons_zero, List.set_cons_succ]
          refine wpAnyH_ready (rs := [8, 10]) (by kernel_rfl) (by simp) ?_
          refine AllReadyH.cons (o := ⟨some 97, _, _, _, _, _⟩) rfl (fun K hK => ?_) ?_
          · refine step_append_rd rfl (.const (.slice none 0 0)) (.tmp 96) 80 rfl w2.heap.size 152 ii _ 2 24 Try.underlying80 hi hz0 hz1 hz2 rfl (by decide) (.slice none 0 0) 0 [] rfl (World.ownsRow_nil _ _ _ _) B 152 (.slice A0 L.length k0) L.length (sheetL L) (by rfl) (HRc.out _ HBc.out) (sheet_one L) (by unfold maxLen; omega) (by omega) HBc.out.size ?_
            intro v1 w3 hown1 hg1 hat1
            rw [Nat.zero_add, List.nil_append] at hown1
            obtain ⟨A1, k1, rfl⟩ := rd_form (B := w2.heap.size) (Rd.of_own hown1)
            have hb3 := below_own HBc.out (Nat.le_refl _) (World.ownsRow_nil _ _ 152 2) hg1
            have HB3 := Lib.hid hb3
            refine hK.out _ _ (HPC.out _ HB3.out) (fun hHeld => ?_)
            clear hK K HB3
            have HOc := Lib.hid hown1
            have HBc := Lib.hid hb3
            clear hown1 hg1 hat1 hb3
            try simp only [Act.put, List.setIfInBounds_toArray, List.set_cons_zero, List.set_cons_succ]
            refine wpAnyH_ready (rs := [10]) (by kernel_rfl) (by simp) ?_
            refine AllReadyH.cons (o := ⟨some 99, _, _, _, _, _⟩) rfl (fun K hK => ?_) AllReadyH.nil
            go_simp
            obtain ⟨hbN, hnN⟩ := new_sheet HBc.out (.string dd) (.bool false)
            have HBn := Lib.hid hbN
            refine hK.out _ _ (HPC.out _ HBn.out) (fun hHeld => ?_)
            clear hK K HBn
            have HOc := Lib.hid (own_alloc HOc.out (.cells #[.string dd, .bool false] 152))
            have HBc := Lib.hid hbN
            have HNc := Lib.hid hnN
            clear hbN hnN
            try simp only [Act.put, List.setIfInBounds_toArray, List.set_cons_zero, List.set_cons_succ]
            refine wpAnyH_ready (rs := [11]) (by kernel_rfl) (by simp) ?_
            refine AllReadyH.cons (o := ⟨some 100, _, _, _, _, _⟩) rfl (fun K hK => ?_) AllReadyH.nil
            refine step_append_rd rfl (.tmp 97) (.tmp 99) 80 rfl w2.heap.size 152 ii _ 2 24 Try.underlying80 hi hz0 hz1 hz2 rfl (by decide) (.slice A1 L.length k1) L.length (sheetL L) (by rfl) HOc.out w2.heap.size 152 (.slice (some ⟨_, 0, none⟩) 1 1) 1 [.string dd, .bool false] (by rfl) HNc.out (by simp [Value.oneCell']) (by unfold maxLen; omega) (by omega) HBc.out.size ?_
            intro v2 w4 hown2 hg2 hat2
            obtain ⟨A2, k2, rfl⟩ := rd_form (B := w2.heap.size) (Rd.of_own hown2)
            have hb4 := below_own HBc.out (Nat.le_refl _) HOc.out hg2
            have HR4 : Hid (Rd B 152 2 w4 (.slice A2 (L.length + 1) k2) (L.length + 1) (sheetL L ++ [.string dd, .bool false])) := Rd.of_own hown2
            have q1 := (hb4.cell (p := ⟨m, n, none⟩) (cell_lt y0)).trans y0
            have q2 := (hb4.frozen (p := ⟨m, n, none⟩) (cell_lt y0)).trans f0
            have HB4 := Lib.hid hb4
            refine hK.out _ _ (HPC.out _ HB4.out) (fun hHeld => ?_)
            clear hK K hown2 hg2 hat2 hb4
            try simp only [Act.put, List.setIfInBounds_toArray, List.set_cons_zero, List.set_cons_succ]
            refine wpAnyH_take (i := 14) (oi := ⟨some 103, _, _, _, _, _⟩) (v := .pointer (some ⟨m, n, none⟩)) rfl (by kernel_rfl) (by kernel_rfl) (by kernel_rfl) (fun _ _ _ h => h) (Or.inl ⟨by rfl, ?_⟩) (by assumption) ?_
            · intro wS hSw
              (try dsimp only at hSw)
              go_simp
            simp only [Act.put, List.setIfInBounds_toArray, List.set_cons_zero, List.set_cons_succ]
            refine wpAnyH_ready (rs := [15]) (by kernel_rfl) (by simp) ?_
            refine AllReadyH.cons (o := ⟨none, _, _, _, _, _⟩) rfl (fun K hK => ?_) AllReadyH.nil
            go_simp
            refine hK.out _ _ (⟨by rw [World.cell?_setCell_far _ _ _ _ hne]; exact (HPC.out _ HB4.out).1, by rw [World.cell?_setCell_far _ _ _ _ hne]; exact (HPC.out _ HB4.out).2⟩) (fun hHeld => ?_)
            clear hK K
            refine wpAnyH_done (by kernel_rfl) ?_ _
            obtain ⟨f1, f2⟩ := FINW.out _ _ HB4.out HR4.out
            obtain ⟨l1, l2, l3, l4, l5, l6⟩ := f1.last
            have HF := Lib.hid (f1.fin f2 HMU.out HWF.out)
            clear f1 f2
            generalize w4.setCell ⟨m, n, none⟩ (.slice A2 (L.length + 1) k2) = w5 at *
            clear y0 f0 q1 q2
            go_wp2_with fail
            go_end0
            exact ⟨rfl, HF.out⟩
          · refine AllReadyH.cons (o := ⟨some 99, _, _, _, _, _⟩) rfl (fun K hK => ?_) AllReadyH.nil
            go_simp
            obtain ⟨hbN, hnN⟩ := new_sheet HBc.out (.string dd) (.bool false)
            have HBn := Lib.hid hbN
            refine hK.out _ _ (HPC.out _ HBn.out) (fun hHeld => ?_)
            clear hK K HBn
            have HBc := Lib.hid hbN
            have HNc := Lib.hid hnN
            clear hbN hnN
            try simp only [Act.put, List.setIfInBounds_toArray, List.set_cons_zero, List.set_cons_succ]
            refine wpAnyH_ready (rs := [8]) (by kernel_rfl) (by simp) ?_
            refine AllReadyH.cons (o := ⟨some 97, _, _, _, _, _⟩) rfl (fun K hK => ?_) AllReadyH.nil
            refine step_append_rd rfl (.const (.slice none 0 0)) (.tmp 96) 80 rfl w2.heap.size 152 ii _ 2 24 Try.underlying80 hi hz0 hz1 hz2 rfl (by decide) (.slice none 0 0) 0 [] rfl (World.ownsRow_nil _ _ _ _) B 152 (.slice A0 L.length k0) L.length (sheetL L) (by rfl) (HRc.out _ HBc.out) (sheet_one L) (by unfold maxLen; omega) (by omega) HBc.out.size ?_
            intro v1 w3 hown1 hg1 hat1
            rw [Nat.zero_add, List.nil_append] at hown1
            obtain ⟨A1, k1, rfl⟩ := rd_form (B := w2.heap.size) (Rd.of_own hown1)
            have hb3 := below_own HBc.out (Nat.le_refl _) (World.ownsRow_nil _ _ 152 2) hg1
            have HB3 := Lib.hid hb3
            refine hK.out _ _ (HPC.out _ HB3.out) (fun hHeld => ?_)
            clear hK K HB3
            have HOc := Lib.hid hown1
            have HNc := Lib.hid (HNc.out.grown hg1 (fun g e => by simp [Value.ownBlock] at e))
            have HBc := Lib.hid hb3
            clear hown1 hg1 hat1 hb3
            try simp only [Act.put, List.setIfInBounds_toArray, List.set_cons_zero, List.set_cons_succ]
            refine wpAnyH_ready (rs := [11]) (by kernel_rfl) (by simp) ?_
            refine AllReadyH.cons (o := ⟨some 100, _, _, _, _, _⟩) rfl (fun K hK => ?_) AllReadyH.nil
            refine step_append_rd rfl (.tmp 97) (.tmp 99) 80 rfl w2.heap.size 152 ii _ 2 24 Try.underlying80 hi hz0 hz1 hz2 rfl (by decide) (.slice A1 L.length k1) L.length (sheetL L) (by rfl) HOc.out w2.heap.size 152 (.slice (some ⟨_, 0, none⟩) 1 1) 1 [.string dd, .bool false] (by rfl) HNc.out (by simp [Value.oneCell']) (by unfold maxLen; omega) (by omega) HBc.out.size ?_
            intro v2 w4 hown2 hg2 hat2
            obtain ⟨A2, k2, rfl⟩ := rd_form (B := w2.heap.size) (Rd.of_own hown2)
            have hb4 := below_own HBc.out (Nat.le_refl _) HOc.out hg2
            have HR4 : Hid (Rd B 152 2 w4 (.slice A2 (L.length + 1) k2) (L.length + 1) (sheetL L ++ [.string dd, .bool false])) := Rd.of_own hown2
            have q1 := (hb4.cell (p := ⟨m, n, none⟩) (cell_lt y0)).trans y0
            have q2 := (hb4.frozen (p := ⟨m, n, none⟩) (cell_lt y0)).trans f0
            have HB4 := Lib.hid hb4
            refine hK.out _ _ (HPC.out _ HB4.out) (fun hHeld => ?_)
            clear hK K hown2 hg2 hat2 hb4
            try simp only [Act.put, List.setIfInBounds_toArray, List.set_cons_zero, List.set_cons_succ]
            refine wpAnyH_take (i := 14) (oi := ⟨some 103, _, _, _, _, _⟩) (v := .pointer (some ⟨m, n, none⟩)) rfl (by kernel_rfl) (by kernel_rfl) (by kernel_rfl) (fun _ _ _ h => h) (Or.inl ⟨by rfl, ?_⟩) (by assumption) ?_
            · intro wS hSw
              (try dsimp only at hSw)
              go_simp
            simp only [Act.put, List.setIfInBounds_toArray, List.set_cons_zero, List.set_cons_succ]
            refine wpAnyH_ready (rs := [15]) (by kernel_rfl) (by simp) ?_
            refine AllReadyH.cons (o := ⟨none, _, _, _, _, _⟩) rfl (fun K hK => ?_) AllReadyH.nil
            go_simp
            refine hK.out _ _ (⟨by rw [World.cell?_setCell_far _ _ _ _ hne]; exact (HPC.out _ HB4.out).1, by rw [World.cell?_setCell_far _ _ _ _ hne]; exact (HPC.out _ HB4.out).2⟩) (fun hHeld => ?_)
            clear hK K
            refine wpAnyH_done (by kernel_rfl) ?_ _
            obtain ⟨f1, f2⟩ := FINW.out _ _ HB4.out HR4.out
            obtain ⟨l1, l2, l3, l4, l5, l6⟩ := f1.last
            have HF := Lib.hid (f1.fin f2 HMU.out HWF.out)
            clear f1 f2
            generalize w4.setCell ⟨m, n, none⟩ (.slice A2 (L.length + 1) k2) = w5 at *
            clear y0 f0 q1 q2
            go_wp2_with fail
            go_end0
            exact ⟨rfl, HF.out⟩
        · refine AllReadyH.cons (o := ⟨some 99, _, _, _, _, _⟩) rfl (fun K hK => ?_) AllReadyH.nil
          go_simp
          obtain ⟨hbN, hnN⟩ := new_sheet HBc.out (.string dd) (.bool false)
          have HBn := Lib.hid hbN
          refine hK.out _ _ (HPC.out _ HBn.out) (fun hHeld => ?_)
          clear hK K HBn
          have HBc := Lib.hid hbN
          have HNc := Lib.hid hnN
          clear hbN hnN
          try simp only [Act.put, List.setIfInBounds_toArray, List.set_cons_zero, List.set_cons_succ]
          refine wpAnyH_ready (rs := [7]) (by kernel_rfl) (by simp) ?_
          refine AllReadyH.cons (o := ⟨some 96, _, _, _, _, _⟩) rfl (fun K hK => ?_) AllReadyH.nil
          have yM := (((Below.refl w2.heap.size w2).alloc (Nat.le_refl _) (.cells #[.string dd, .bool false] 152)).cell (p := ⟨m, n, none⟩) (cell_lt y0)).trans y0
          have yL := (HBc.out.cell (p := ⟨m, n, none⟩) (cell_lt y0)).trans y0
          go_simp
          refine hK.out _ _ (HPC.out _ HBc.out) (fun hHeld => ?_)
          clear hK K yL yM
          try simp only [Act.put, List.setIfInBounds_toArray, List.set_cons_zero, List.set_cons_succ]
          refine wpAnyH_ready (rs := [8]) (by kernel_rfl) (by simp) ?_
          refine AllReadyH.cons (o := ⟨some 97, _, _, _, _, _⟩) rfl (fun K hK => ?_) AllReadyH.nil
          refine step_append_rd rfl (.const (.slice none 0 0)) (.tmp 96) 80 rfl w2.heap.size 152 ii _ 2 24 Try.underlying80 hi hz0 hz1 hz2 rfl (by decide) (.slice none 0 0) 0 [] rfl (World.ownsRow_nil _ _ _ _) B 152 (.slice A0 L.length k0) L.length (sheetL L) (by rfl) (HRc.out _ HBc.out) (sheet_one L) (by unfold maxLen; omega) (by omega) HBc.out.size ?_
          intro v1 w3 hown1 hg1 hat1
          rw [Nat.zero_add, List.nil_append] at hown1
          obtain ⟨A1, k1, rfl⟩ := rd_form (B := w2.heap.size) (Rd.of_own hown1)
          have hb3 := below_own HBc.out (Nat.le_refl _) (World.ownsRow_nil _ _ 152 2) hg1
          have HB3 := Lib.hid hb3
          refine hK.out _ _ (HPC.out _ HB3.out) (fun hHeld => ?_)
          clear hK K HB3
          have HOc := Lib.hid hown1
          have HNc := Lib.hid (HNc.out.grown hg1 (fun g e => by simp [Value.ownBlock] at e))
          have HBc := Lib.hid hb3
          clear hown1 hg1 hat1 hb3
          try simp only [Act.put, List.setIfInBounds_toArray, List.set_cons_zero, List.set_cons_succ]
          refine wpAnyH_ready (rs := [11]) (by kernel_rfl) (by simp) ?_
          refine AllReadyH.cons (o := ⟨some 100, _, _, _, _, _⟩) rfl (fun K hK => ?_) AllReadyH.nil
          refine step_append_rd rfl (.tmp 97) (.tmp 99) 80 rfl w2.heap.size 152 ii _ 2 24 Try.underlying80 hi hz0 hz1 hz2 rfl (by decide) (.slice A1 L.length k1) L.length (sheetL L) (by rfl) HOc.out w2.heap.size 152 (.slice (some ⟨_, 0, none⟩) 1 1) 1 [.string dd, .bool false] (by rfl) HNc.out (by simp [Value.oneCell']) (by unfold maxLen; omega) (by omega) HBc.out.size ?_
          intro v2 w4 hown2 hg2 hat2
          obtain ⟨A2, k2, rfl⟩ := rd_form (B := w2.heap.size) (Rd.of_own hown2)
          have hb4 := below_own HBc.out (Nat.le_refl _) HOc.out hg2
          have HR4 : Hid (Rd B 152 2 w4 (.slice A2 (L.length + 1) k2) (L.length + 1) (sheetL L ++ [.string dd, .bool false])) := Rd.of_own hown2
          have q1 := (hb4.cell (p := ⟨m, n, none⟩) (cell_lt y0)).trans y0
          have q2 := (hb4.frozen (p := ⟨m, n, none⟩) (cell_lt y0)).trans f0
          have HB4 := Lib.hid hb4
          refine hK.out _ _ (HPC.out _ HB4.out) (fun hHeld => ?_)
          clear hK K hown2 hg2 hat2 hb4
          try simp only [Act.put, List.setIfInBounds_toArray, List.set_cons_zero, List.set_cons_succ]
          refine wpAnyH_take (i := 14) (oi := ⟨some 103, _, _, _, _, _⟩) (v := .pointer (some ⟨m, n, none⟩)) rfl (by kernel_rfl) (by kernel_rfl) (by kernel_rfl) (fun _ _ _ h => h) (Or.inl ⟨by rfl, ?_⟩) (by assumption) ?_
          · intro wS hSw
            (try dsimp only at hSw)
            go_simp
          simp only [Act.put, List.setIfInBounds_toArray, List.set_cons_zero, List.set_cons_succ]
          refine wpAnyH_ready (rs := [15]) (by kernel_rfl) (by simp) ?_
          refine AllReadyH.cons (o := ⟨none, _, _, _, _, _⟩) rfl (fun K hK => ?_) AllReadyH.nil
          go_simp
          refine hK.out _ _ (⟨by rw [World.cell?_setCell_far _ _ _ _ hne]; exact (HPC.out _ HB4.out).1, by rw [World.cell?_setCell_far _ _ _ _ hne]; exact (HPC.out _ HB4.out).2⟩) (fun hHeld => ?_)
          clear hK K
          refine wpAnyH_done (by kernel_rfl) ?_ _
          obtain ⟨f1, f2⟩ := FINW.out _ _ HB4.out HR4.out
          obtain ⟨l1, l2, l3, l4, l5, l6⟩ := f1.last
          have HF := Lib.hid (f1.fin f2 HMU.out HWF.out)
          clear f1 f2
          generalize w4.setCell ⟨m, n, none⟩ (.slice A2 (L.length + 1) k2) = w5 at *
          clear y0 f0 q1 q2
          go_wp2_with fail
          go_end0
          exact ⟨rfl, HF.out⟩
end Go.Proofs.Ytaepdbkfaoiimaa
