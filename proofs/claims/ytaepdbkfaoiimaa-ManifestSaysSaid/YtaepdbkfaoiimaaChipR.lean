/- How a chip lies in memory, and what stores into it do. Conditions: none but those that each lemma names. -/
import Derived.Test.YtaepdbkfaoiimaaChip0
import Derived.Test.YtaepdbkfaoiimaaEntry
import Derived.RegionTactic
import Derived.BigRegion
import Derived.Deep.RegionHeld
import Derived.Deep.RegionLawGrows
set_option linter.unusedVariables false
set_option linter.unusedSimpArgs false
namespace Go.Proofs.Ytaepdbkfaoiimaa
open Go.RowKit

/-! ### how a chip lies in memory -/
def sheetL (l : List Sheet) : List Value := l.flatMap fun s => [.string s.d, .bool s.t]
def blkL (V : Nat → Value) (c : Chip) (b : Nat) : List Value := [V b, .int .i64 (c.b b).wear, .bool (c.b b).weak, .bool (c.b b).bad]
def chipL (V : Nat → Value) (c : Chip) (u : Value) : List Value := (List.range 24).flatMap (blkL V c) ++ [.int .i64 c.fuse, .bool c.down, u]
theorem flat_at {α : Type} (c : α → List Value) (sz : Nat) (hc : ∀ a, (c a).length = sz) : ∀ (l : List α) (i j : Nat) (a : α), l[i]? = some a → j < sz → (l.flatMap c)[i * sz + j]? = (c a)[j]?
  | [], i, j, a, h, _ => by simp at h
  | x :: l, 0, j, a, h, hj => by
    simp at h; subst h
    rw [Nat.zero_mul, Nat.zero_add, List.flatMap_cons, List.getElem?_append_left (by rw [hc]; exact hj)]
  | x :: l, i + 1, j, a, h, hj => by
    simp only [List.getElem?_cons_succ] at h
    have ih := flat_at c sz hc l i j a h hj
    rw [List.flatMap_cons, List.getElem?_append_right (by rw [hc, Nat.succ_mul]; omega), hc, ← ih]
    congr 1
    rw [Nat.succ_mul]; omega
theorem flat_size {α : Type} (c : α → List Value) (sz : Nat) (hc : ∀ a, (c a).length = sz) : ∀ l : List α, (l.flatMap c).length = l.length * sz
  | [] => by simp
  | x :: l => by rw [List.flatMap_cons, List.length_append, hc, flat_size c sz hc l, List.length_cons, Nat.succ_mul]; omega
theorem sheetL_len (l : List Sheet) : (sheetL l).length = l.length * 2 := flat_size _ 2 (fun _ => rfl) l
theorem sheetL_at {l : List Sheet} {i : Nat} {s : Sheet} (h : l[i]? = some s) : (sheetL l)[i * 2]? = some (.string s.d) ∧ (sheetL l)[i * 2 + 1]? = some (.bool s.t) :=
  ⟨flat_at _ 2 (fun _ => rfl) l i 0 s h (by omega), flat_at _ 2 (fun _ => rfl) l i 1 s h (by omega)⟩
theorem sheetL_snoc (l : List Sheet) (s : Sheet) : sheetL (l ++ [s]) = sheetL l ++ [.string s.d, .bool s.t] := by simp [sheetL]
theorem chipL_at (V : Nat → Value) (c : Chip) (u : Value) {b j : Nat} (hb : b < 24) (hj : j < 4) : (chipL V c u)[b * 4 + j]? = (blkL V c b)[j]? := by
  unfold chipL
  rw [List.getElem?_append_left (by rw [flat_size _ 4 (fun _ => rfl)]; simp; omega)]
  exact flat_at _ 4 (fun _ => rfl) _ b j b (by simp [hb]) hj
theorem chipL_size (V : Nat → Value) (c : Chip) (u : Value) : (chipL V c u).length = 99 := by
  unfold chipL
  rw [List.length_append, flat_size _ 4 (fun _ => rfl)]; simp
theorem chipL_tail (V : Nat → Value) (c : Chip) (u : Value) (j : Nat) : (chipL V c u)[96 + j]? = [Value.int .i64 c.fuse, .bool c.down, u][j]? := by
  unfold chipL
  rw [List.getElem?_append_right (by rw [flat_size _ 4 (fun _ => rfl)]; simp), flat_size _ 4 (fun _ => rfl)]
  simp
theorem chipL_set {V V' : Nat → Value} {c c' : Chip} {u u' : Value} {b j : Nat} {x : Value} (hb : b < 24) (hj : j < 4) (h1 : ∀ i, i < 24 → i ≠ b → blkL V' c' i = blkL V c i) (h2 : blkL V' c' b = (blkL V c b).set j x)
    (h3 : c'.fuse = c.fuse ∧ c'.down = c.down ∧ u' = u) : (chipL V c u).set (b * 4 + j) x = chipL V' c' u' := by
  refine List.ext_getElem? fun i => ?_
  rw [List.getElem?_set]
  rcases Nat.lt_or_ge i 96 with hi | hi
  · have e : i = i / 4 * 4 + i % 4 := by omega
    have hq : i / 4 < 24 := by omega
    have hr : i % 4 < 4 := by omega
    rw [e, chipL_at V' c' u' hq hr, chipL_at V c u hq hr]
    by_cases hbi : i / 4 = b
    · rw [hbi, h2, List.getElem?_set]
      by_cases hji : j = i % 4
      · rw [if_pos (by omega), if_pos hji, if_pos (by rw [chipL_size]; omega), if_pos (by show j < 4; omega)]
      · rw [if_neg (by omega), if_neg hji]
    · rw [h1 _ hq hbi, if_neg (by omega)]
  · obtain ⟨k, rfl⟩ : ∃ k, i = 96 + k := ⟨i - 96, by omega⟩
    rw [if_neg (by omega), chipL_tail, chipL_tail, h3.1, h3.2.1, h3.2.2]
theorem chipL_setT {V : Nat → Value} {c c' : Chip} {u u' : Value} {j : Nat} {x : Value} (hj : j < 3) (h1 : c'.b = c.b)
    (h3 : [Value.int .i64 c'.fuse, .bool c'.down, u'] = [Value.int .i64 c.fuse, .bool c.down, u].set j x) : (chipL V c u).set (96 + j) x = chipL V c' u' := by
  refine List.ext_getElem? fun i => ?_
  rw [List.getElem?_set]
  rcases Nat.lt_or_ge i 96 with hi | hi
  · have e : i = i / 4 * 4 + i % 4 := by omega
    have hq : i / 4 < 24 := by omega
    have hr : i % 4 < 4 := by omega
    rw [if_neg (by omega), e, chipL_at V c' u' hq hr, chipL_at V c u hq hr]
    unfold blkL
    rw [h1]
  · obtain ⟨k, rfl⟩ : ∃ k, i = 96 + k := ⟨i - 96, by omega⟩
    rw [chipL_tail, chipL_tail, h3, List.getElem?_set]
    by_cases e : j = k
    · subst e; rw [if_pos rfl, if_pos rfl, if_pos (by rw [chipL_size]; omega), if_pos (by show j < 3; omega)]
    · rw [if_neg (by omega), if_neg e]

/-- The chip of block p: V b is the slice of block b's pages, u what is to be done at a restart. -/
structure ChipV (B : Nat) (w : World) (p : Nat) (V : Nat → Value) (c : Chip) (u : Value) : Prop where
  blk : Blk w p 145 (chipL V c u).toArray
  rows : ∀ b, b < 24 → Rd B 150 2 w (V b) (c.b b).l.length (sheetL (c.b b).l)
  base : B ≤ p
/-- What is to be done at a restart. -/
def UndoR (w : World) (p : Nat) (c : Chip) (u : Value) : Option Pend → Prop
  | none => u = .nilFunc
  | some (.wr b d) => ∃ qh qd bx bn bd, u = .func (.func 122) #[] #[.pointer (some ⟨qh, 0, none⟩), .pointer (some ⟨qd, 0, none⟩)] ∧
      Blk w qh 1 #[.func (.func 92) #[] #[.pointer (some ⟨bx, 0, none⟩), .pointer (some ⟨bn, 0, none⟩)]] ∧
      Blk w qd 1 #[.func (.func 91) #[] #[.pointer (some ⟨bx, 0, none⟩), .pointer (some ⟨bn, 0, none⟩), .pointer (some ⟨bd, 0, none⟩)]] ∧
      Blk w bx 146 #[.pointer (some ⟨p, b * 4, none⟩)] ∧ Blk w bn 3 #[.int .i64 (c.b b).l.length] ∧ Blk w bd 9 #[.string d]
  | some (.er b) => ∃ qh qd bx, u = .func (.func 122) #[] #[.pointer (some ⟨qh, 0, none⟩), .pointer (some ⟨qd, 0, none⟩)] ∧
      Blk w qh 1 #[.func (.func 96) #[] #[.pointer (some ⟨bx, 0, none⟩)]] ∧
      Blk w qd 1 #[.func (.func 95) #[] #[.pointer (some ⟨bx, 0, none⟩)]] ∧
      Blk w bx 146 #[.pointer (some ⟨p, b * 4, none⟩)]
def ChipR (B : Nat) (w : World) (p : Nat) (c : Chip) : Prop := ∃ V u, ChipV B w p V c u ∧ UndoR w p c u c.pend ∧ CWf c

section
variable {B : Nat} {M : Nat → Prop} {w w' : World} {p : Nat} {V : Nat → Value} {c : Chip} {u : Value}
theorem ChipV.cell (h : ChipV B w p V c u) {b : Nat} (hb : b < 24) : w.cell? ⟨p, b * 4, none⟩ = some (V b) ∧ w.cell? ⟨p, b * 4 + 1, none⟩ = some (.int .i64 (c.b b).wear) ∧ w.cell? ⟨p, b * 4 + 2, none⟩ = some (.bool (c.b b).weak) ∧ w.cell? ⟨p, b * 4 + 3, none⟩ = some (.bool (c.b b).bad) := by
  have e : ∀ j, j < 4 → w.cell? ⟨p, b * 4 + j, none⟩ = (blkL V c b)[j]? := fun j hj => by
    rw [h.blk.cell, List.getElem?_toArray, chipL_at V c u hb hj]
  exact ⟨e 0 (by omega), e 1 (by omega), e 2 (by omega), e 3 (by omega)⟩
theorem ChipV.tail (h : ChipV B w p V c u) : w.cell? ⟨p, 96, none⟩ = some (.int .i64 c.fuse) ∧ w.cell? ⟨p, 97, none⟩ = some (.bool c.down) ∧ w.cell? ⟨p, 98, none⟩ = some u := by
  have e : ∀ j, w.cell? ⟨p, 96 + j, none⟩ = [Value.int .i64 c.fuse, .bool c.down, u][j]? := fun j => by
    rw [h.blk.cell, List.getElem?_toArray, chipL_tail V c u]
  exact ⟨e 0, e 1, e 2⟩
theorem ChipV.keep (h : ChipV B w p V c u) (hf : Fr B M w w') (hM : ¬ M p) : ChipV B w' p V c u :=
  ⟨h.blk.fr hf (.inr (.inl hM)), fun b hb => (h.rows b hb).fr hf (by decide), h.base⟩
theorem ChipV.below (h : ChipV B w p V c u) (hb : Below w.heap.size w w') : ChipV B w' p V c u := h.keep (M := fun _ => False) (.of_below hb) id
theorem ChipV.drewN (h : ChipV B w p V c u) (n : Nat) : ChipV B (w.drewN n) p V c u := ⟨h.blk, h.rows, h.base⟩
theorem UndoR.keep {o : Option Pend} (h : UndoR w p c u o) (hf : Fr B M w w') : UndoR w' p c u o := by
  match o, h with
  | none, h => exact h
  | some (.wr b d), ⟨qh, qd, bx, bn, bd, h1, h2, h3, h4, h5, h6⟩ =>
    exact ⟨qh, qd, bx, bn, bd, h1, h2.fr hf (.inr (.inr (by decide))), h3.fr hf (.inr (.inr (by decide))), h4.fr hf (.inr (.inr (by decide))), h5.fr hf (.inr (.inr (by decide))), h6.fr hf (.inr (.inr (by decide)))⟩
  | some (.er b), ⟨qh, qd, bx, h1, h2, h3, h4⟩ =>
    exact ⟨qh, qd, bx, h1, h2.fr hf (.inr (.inr (by decide))), h3.fr hf (.inr (.inr (by decide))), h4.fr hf (.inr (.inr (by decide)))⟩
theorem ChipR.keep (h : ChipR B w p c) (hf : Fr B M w w') (hM : ¬ M p) : ChipR B w' p c := by
  obtain ⟨V, u, h1, h2, h3⟩ := h
  exact ⟨V, u, h1.keep hf hM, h2.keep hf, h3⟩
theorem ChipR.below (h : ChipR B w p c) (hb : Below w.heap.size w w') : ChipR B w' p c := h.keep (M := fun _ => False) (.of_below hb) id
theorem ChipR.drewN (h : ChipR B w p c) (n : Nat) : ChipR B (w.drewN n) p c := by
  obtain ⟨V, u, h1, h2, h3⟩ := h
  exact ⟨V, u, h1.drewN n, h2.keep (B := 0) (M := fun _ => False) ((Fr.refl _ _ _).drewN n), h3⟩
theorem ChipR.wf (h : ChipR B w p c) : CWf c := by obtain ⟨V, u, h1, h2, h3⟩ := h; exact h3
theorem ChipR.lt (h : ChipR B w p c) : p < w.heap.size := by obtain ⟨V, u, h1, h2, h3⟩ := h; exact h1.blk.lt
/-- A store into a block of another type, that the call has made. -/
theorem Rd.far {T sz n : Nat} {v : Value} {xs : List Value} (h : Rd B T sz w v n xs) {g o : Nat} {cs : Array Value} {T' : TypeId} {fz : Nat × Nat} (hg : w.heap[g]? = some (.cells cs T' fz)) (hB : B ≤ g) (hT : T' ≠ T) (x : Value) :
    Rd B T sz (w.setCell ⟨g, o, none⟩ x) v n xs := by
  refine h.keep fun k hk hlt => Below.heap_setCell _ _ _ _ fun e => ?_
  have e' : k = g := e
  subst e'
  rcases hk with hk | ⟨cs', fz', hk⟩
  · omega
  · rw [hg] at hk
    injection hk with hk
    injection hk with _ e
    exact hT e
/-- A store into a block's cells. -/
theorem ChipV.set_ (h : ChipV B w p V c u) {V' : Nat → Value} {c' : Chip} {b j : Nat} {x : Value} (hb : b < 24) (hj : j < 4) (h1 : ∀ i, i < 24 → i ≠ b → blkL V' c' i = blkL V c i) (h2 : blkL V' c' b = (blkL V c b).set j x)
    (h3 : c'.fuse = c.fuse ∧ c'.down = c.down) (h4 : ∀ b, b < 24 → Rd B 150 2 w (V' b) (c'.b b).l.length (sheetL (c'.b b).l)) : ChipV B (w.setCell ⟨p, b * 4 + j, none⟩ x) p V' c' u := by
  refine ⟨?_, fun b hb => (h4 b hb).far h.blk h.base (by decide) _, h.base⟩
  have := h.blk.set_ (b * 4 + j) x
  rw [List.setIfInBounds_toArray, chipL_set hb hj h1 h2 ⟨h3.1, h3.2, rfl⟩] at this
  exact this
theorem ChipV.setT (h : ChipV B w p V c u) {c' : Chip} {u' : Value} {j : Nat} {x : Value} (hj : j < 3) (h1 : c'.b = c.b)
    (h3 : [Value.int .i64 c'.fuse, .bool c'.down, u'] = [Value.int .i64 c.fuse, .bool c.down, u].set j x) : ChipV B (w.setCell ⟨p, 96 + j, none⟩ x) p V c' u' := by
  refine ⟨?_, fun b hb => by rw [h1]; exact (h.rows b hb).far h.blk h.base (by decide) _, h.base⟩
  have := h.blk.set_ (96 + j) x
  rw [List.setIfInBounds_toArray, chipL_setT hj h1 h3] at this
  exact this
/-- A store into the chip's block stays within its footprint. -/
theorem fr_chip {w0 : World} (h : Fr B (· = p) w0 w) (hc : ChipV B w p V c u) (o : Nat) (x : Value) (hk : p < w0.heap.size → ∃ cs T fz, w0.heap[p]? = some (.cells cs T fz) ∧ mutT T = true) : Fr B (· = p) w0 (w.setCell ⟨p, o, none⟩ x) :=
  h.setCell hc.base (.inl rfl) hk x
theorem ChipV.mut (h : ChipV B w p V c u) : p < w.heap.size → ∃ cs T fz, w.heap[p]? = some (.cells cs T fz) ∧ mutT T = true := fun _ => ⟨_, _, _, h.blk, by decide⟩
end

section
variable {w : World} {p : Nat} {c c' : Chip} {u : Value}
theorem UndoR.like {o : Option Pend} (h : UndoR w p c u o) (hl : ∀ b, (c'.b b).l.length = (c.b b).l.length) : UndoR w p c' u o := by
  match o, h with
  | none, h => exact h
  | some (.wr b d), h => simp only [UndoR]; rw [hl b]; exact h
  | some (.er b), h => exact h
end
/-- The slice of a block's pages written out. -/
theorem sheets_form {B : Nat} {w : World} {v : Value} {l : List Sheet} (h : Rd B 150 2 w v l.length (sheetL l)) : ∃ A c, v = .slice A l.length c ∧ l.length ≤ c ∧ c ≤ 9223372036854775807 ∧
    (l.length = 0 ∨ ∃ b o, A = some ⟨b, o, none⟩) ∧
    ∀ i s, l[i]? = some s → ∃ b o, A = some ⟨b, o, none⟩ ∧ b < w.heap.size ∧ w.cell? ⟨b, o + i * 2, none⟩ = some (.string s.d) ∧ w.cell? ⟨b, o + i * 2 + 1, none⟩ = some (.bool s.t) := by
  obtain ⟨_, A, c, h1, h2, h3, h4⟩ := h
  refine ⟨A, c, h1, h2, h3, ?_, fun i s hi => ?_⟩
  · rcases Nat.eq_zero_or_pos l.length with h0 | h0
    · exact .inl h0
    · obtain ⟨b, o, hA, _⟩ := h4 h0
      exact .inr ⟨b, o, hA⟩
  · have hlt : i < l.length := by
      rcases Nat.lt_or_ge i l.length with h | h
      · exact h
      · rw [List.getElem?_eq_none h] at hi; cases hi
    obtain ⟨b, o, hA, _, hb, hc⟩ := h4 (by omega)
    obtain ⟨f1, f2⟩ := sheetL_at hi
    exact ⟨b, o, hA, hb, hc _ _ f1, hc _ _ f2⟩
end Go.Proofs.Ytaepdbkfaoiimaa
