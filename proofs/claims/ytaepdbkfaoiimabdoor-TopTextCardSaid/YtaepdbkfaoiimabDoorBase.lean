/- Words for memory: a slice that reads as a list; what a call may have turned. Plain definitions and lemmas; no condition. -/
import Derived.WalkKit
import Derived.WalkSpells
import Derived.WalkLawsBesides
import Derived.Outline
import Derived.Lib.Hide
import Derived.Below
import Derived.Deep.QuietTactic
import Derived.BigQuiet
import Derived.Maps.AppendAt
import Derived.Deep.AppendLies
import Derived.RegionTactic
import Derived.OwnWalk
set_option linter.unusedVariables false
namespace Go.Proofs.YtaepdbkfaoiimabDoor
open Go.RowKit

/-! ### blocks -/
/-- Block b is of what came in (below B), or its cells are of type T. -/
def Kd (B : Nat) (T : TypeId) (w : World) (b : Nat) : Prop := b < B ∨ ∃ cs fz, w.heap[b]? = some (.cells cs T fz)
/-- Block g is known whole. -/
def Blk (w : World) (g : Nat) (T : TypeId) (cs : Array Value) : Prop := w.heap[g]? = some (.cells cs T (0, 0))

/-- The types whose blocks may be written to behind their making: nodes, lists, chips, stores, sessions. -/
def mutT (T : TypeId) : Bool := [
  100000].contains T

/-- From w to w' nothing has turned but blocks of M, and of them those alone whose type may be written to, and none of what came in. -/
structure Fr (B : Nat) (M : Nat → Prop) (w w' : World) : Prop where
  os : w'.os = w.os
  tape : w'.tape = w.tape
  output : w'.output = w.output
  size : w.heap.size ≤ w'.heap.size
  block : ∀ k, k < w.heap.size → (k < B ∨ ¬ M k ∨ (∃ cs T fz, w.heap[k]? = some (.cells cs T fz) ∧ mutT T = false)) → w'.heap[k]? = w.heap[k]?

section
variable {B B' : Nat} {M M' : Nat → Prop} {w w' w'' : World} {T : TypeId} {b : Nat}

theorem heap_lt {o : Obj} (h : w.heap[b]? = some o) : b < w.heap.size := by
  rcases Nat.lt_or_ge b w.heap.size with hlt | hge
  · exact hlt
  · rw [Array.getElem?_eq_none hge] at h; cases h
theorem cell_heap {a : Addr} {v : Value} (h : w.cell? a = some v) : ∃ cs T fz, w.heap[a.block]? = some (.cells cs T fz) ∧ cs[a.off]? = some v := by
  unfold World.cell? at h
  split at h
  · rename_i c T fz hh
    split at h
    · cases h
    · exact ⟨c, T, fz, hh, h⟩
  · cases h
theorem cell_lt {a : Addr} {v : Value} (h : w.cell? a = some v) : a.block < w.heap.size := by
  obtain ⟨cs, T, fz, hh, _⟩ := cell_heap h
  exact heap_lt hh

theorem Fr.refl (B : Nat) (M : Nat → Prop) (w : World) : Fr B M w w := ⟨rfl, rfl, rfl, Nat.le_refl _, fun _ _ _ => rfl⟩
theorem Fr.of_below (h : Below w.heap.size w w') : Fr B M w w' := ⟨h.os, h.tape, h.output, h.size, fun k hk _ => h.block k hk⟩
theorem Fr.drewN (h : Fr B M w w') (n : Nat) : Fr B M w (w'.drewN n) := ⟨h.os, h.tape, h.output, h.size, h.block⟩
theorem Fr.trans (h : Fr B M w w') (k : Fr B M w' w'') (hM : ∀ b, b < w.heap.size → True) : Fr B M w w'' := by
  refine ⟨k.os.trans h.os, k.tape.trans h.tape, k.output.trans h.output, Nat.le_trans h.size k.size, fun i hi hc => ?_⟩
  have h1 := h.block i hi hc
  have h2 := k.block i (Nat.lt_of_lt_of_le hi h.size) (by
    rcases hc with hc | hc | ⟨cs, T, fz, hh, hT⟩
    · exact .inl hc
    · exact .inr (.inl hc)
    · exact .inr (.inr ⟨cs, T, fz, h1.trans hh, hT⟩))
  exact h2.trans h1
/-- Steps with footprints of their own: the second's may hold blocks that are new since w. -/
theorem Fr.trans' (h : Fr B M w w') (k : Fr B M' w' w'') (hM : ∀ b, b < w.heap.size → M' b → M b) : Fr B M w w'' := by
  refine ⟨k.os.trans h.os, k.tape.trans h.tape, k.output.trans h.output, Nat.le_trans h.size k.size, fun i hi hc => ?_⟩
  have h1 := h.block i hi hc
  have h2 := k.block i (Nat.lt_of_lt_of_le hi h.size) (by
    rcases hc with hc | hc | ⟨cs, T, fz, hh, hT⟩
    · exact .inl hc
    · exact .inr (.inl fun hm => hc (hM i hi hm))
    · exact .inr (.inr ⟨cs, T, fz, h1.trans hh, hT⟩))
  exact h2.trans h1
theorem Fr.mono (h : Fr B M w w') (hM : ∀ b, b < w.heap.size → M b → M' b) : Fr B M' w w' :=
  ⟨h.os, h.tape, h.output, h.size, fun i hi hc => h.block i hi (by
    rcases hc with hc | hc | hc
    · exact .inl hc
    · exact .inr (.inl fun hm => hc (hM i hi hm))
    · exact .inr (.inr hc))⟩
theorem Fr.below (h : Fr B M w w') (hB : B ≤ w.heap.size) : Below B w w' :=
  ⟨h.os, h.tape, h.output, h.size, fun k hk => h.block k (Nat.lt_of_lt_of_le hk hB) (.inl hk)⟩
theorem Fr.none_below (h : Fr B (fun _ => False) w w') : Below w.heap.size w w' :=
  ⟨h.os, h.tape, h.output, h.size, fun k hk => h.block k hk (.inr (.inl id))⟩

theorem Kd.fr (h : Kd B T w b) (hT : mutT T = false) (hf : Fr B M w w') (hb : b < w.heap.size) : w'.heap[b]? = w.heap[b]? := by
  rcases h with h | ⟨cs, fz, h⟩
  · exact hf.block b hb (.inl h)
  · exact hf.block b hb (.inr (.inr ⟨cs, T, fz, h, hT⟩))
theorem Kd.of_eq (h : Kd B T w b) (he : w'.heap[b]? = w.heap[b]?) : Kd B T w' b := by
  rcases h with h | ⟨cs, fz, h⟩
  · exact .inl h
  · exact .inr ⟨cs, fz, he.trans h⟩
theorem Kd.mono (h : Kd B T w b) (hB : B ≤ B') : Kd B' T w b := h.elim (fun h => .inl (Nat.lt_of_lt_of_le h hB)) .inr

theorem Blk.lt {cs : Array Value} (h : Blk w b T cs) : b < w.heap.size := heap_lt h
theorem Blk.cell {cs : Array Value} (h : Blk w b T cs) (i : Nat) : w.cell? ⟨b, i, none⟩ = cs[i]? := by
  unfold Blk at h; simp [World.cell?, h]
theorem Blk.frozen {cs : Array Value} (h : Blk w b T cs) (i : Nat) : w.frozen? ⟨b, i, none⟩ = false := by
  unfold Blk at h; simp [World.frozen?, h]
theorem Blk.new (w : World) (T : TypeId) (cs : Array Value) : Blk (w.alloc (.cells cs T)) w.heap.size T cs := heap_alloc_new w _
theorem Blk.drewN {cs : Array Value} (h : Blk w b T cs) (n : Nat) : Blk (w.drewN n) b T cs := h
theorem Blk.alloc {cs : Array Value} (h : Blk w b T cs) (o : Obj) : Blk (w.alloc o) b T cs := (Below.heap_alloc w o b h.lt).trans h
theorem Blk.set_ {cs : Array Value} (h : Blk w b T cs) (i : Nat) (u : Value) : Blk (w.setCell ⟨b, i, none⟩ u) b T (cs.setIfInBounds i u) := by
  unfold Blk at h ⊢
  simp [World.setCell, Array.getElem?_modify, h]
theorem Blk.far {cs : Array Value} (h : Blk w b T cs) {p : Addr} (hp : b ≠ p.block) (u : Value) : Blk (w.setCell p u) b T cs := (Below.heap_setCell w p u b hp).trans h
theorem Blk.below {cs : Array Value} {n : Nat} (h : Blk w b T cs) (hb : Below n w w') (hn : b < n) : Blk w' b T cs := (hb.block b hn).trans h
theorem Blk.fr {cs : Array Value} (h : Blk w b T cs) (hf : Fr B M w w') (hM : b < B ∨ ¬ M b ∨ mutT T = false) : Blk w' b T cs :=
  (hf.block b h.lt (by
    rcases hM with h1 | h1 | h1
    · exact .inl h1
    · exact .inr (.inl h1)
    · exact .inr (.inr ⟨cs, T, (0, 0), h, h1⟩))).trans h
/-- A store into a block of the footprint. -/
theorem Fr.setCell {p : Addr} (h : Fr B M w w') (hB : B ≤ p.block) (hp : M p.block ∨ w.heap.size ≤ p.block) (hT : p.block < w.heap.size → ∃ cs T fz, w.heap[p.block]? = some (.cells cs T fz) ∧ mutT T = true) (u : Value) : Fr B M w (w'.setCell p u) := by
  refine ⟨h.os, h.tape, h.output, by simpa [World.setCell] using h.size, fun k hk hc => ?_⟩
  rw [Below.heap_setCell _ _ _ _ ?_]
  · exact h.block k hk hc
  · rintro rfl
    rcases hc with hc | hc | ⟨cs, T, fz, hh, hc⟩
    · omega
    · exact hp.elim hc (fun h => by omega)
    · obtain ⟨cs', T', fz', hh', hT'⟩ := hT hk
      rw [hh] at hh'
      injection hh' with hh'
      injection hh' with _ e
      subst e
      rw [hc] at hT'
      cases hT'
theorem Fr.alloc (h : Fr B M w w') (o : Obj) : Fr B M w (w'.alloc o) :=
  ⟨h.os, h.tape, h.output, Nat.le_trans h.size (by simp), fun k hk hc => (Below.heap_alloc w' o k (Nat.lt_of_lt_of_le hk h.size)).trans (h.block k hk hc)⟩
end

/-! ### a slice that reads as a list of cells -/
/-- The slice value v has n elements of sz cells each, which read as xs; its array is of what came in (below B), or of element type T. -/
def Rd (B : Nat) (T : TypeId) (sz : Nat) (w : World) (v : Value) (n : Nat) (xs : List Value) : Prop :=
  xs.length = n * sz ∧ ∃ A c, v = .slice A n c ∧ n ≤ c ∧ c ≤ 9223372036854775807 ∧
    (0 < n → ∃ b o, A = some ⟨b, o, none⟩ ∧ Kd B T w b ∧ b < w.heap.size ∧ ∀ j u, xs[j]? = some u → w.cell? ⟨b, o + j, none⟩ = some u)

section
variable {B B' : Nat} {M : Nat → Prop} {w w' : World} {T : TypeId} {sz n : Nat} {v : Value} {xs : List Value}

theorem Rd.nil (B : Nat) (T : TypeId) (sz : Nat) (w : World) : Rd B T sz w (.slice none 0 0) 0 [] := ⟨by simp, none, 0, rfl, Nat.le_refl _, by omega, fun h => absurd h (by omega)⟩
theorem Rd.len (h : Rd B T sz w v n xs) : n ≤ 9223372036854775807 := by obtain ⟨_, _, _, _, h1, h2, _⟩ := h; omega
theorem Rd.keep (h : Rd B T sz w v n xs) (hk : ∀ b, Kd B T w b → b < w.heap.size → w'.heap[b]? = w.heap[b]?) : Rd B T sz w' v n xs := by
  obtain ⟨h1, A, c, h2, h3, h4, h5⟩ := h
  refine ⟨h1, A, c, h2, h3, h4, fun hn => ?_⟩
  obtain ⟨b, o, e, hb, hlt, hc⟩ := h5 hn
  have he := hk b hb hlt
  have hlt' : b < w'.heap.size := by
    have : w.heap[b]? = some w.heap[b] := Array.getElem?_eq_getElem hlt
    exact heap_lt (he.trans this)
  exact ⟨b, o, e, hb.of_eq he, hlt', fun j u hu => (World.cell?_of_block (w := w) he).trans (hc j u hu)⟩
theorem Rd.fr (h : Rd B T sz w v n xs) (hf : Fr B M w w') (hT : mutT T = false) : Rd B T sz w' v n xs := h.keep fun b hb hlt => hb.fr hT hf hlt
theorem Rd.below (h : Rd B T sz w v n xs) (hf : Below w.heap.size w w') : Rd B T sz w' v n xs := h.keep fun b hb hlt => hf.block b hlt
theorem Rd.drewN (h : Rd B T sz w v n xs) (k : Nat) : Rd B T sz (w.drewN k) v n xs := h
theorem Rd.mono (h : Rd B T sz w v n xs) (hB : B ≤ B') : Rd B' T sz w v n xs := by
  obtain ⟨h1, A, c, h2, h3, h4, h5⟩ := h
  refine ⟨h1, A, c, h2, h3, h4, fun hn => ?_⟩
  obtain ⟨b, o, e, hb, hlt, hc⟩ := h5 hn
  exact ⟨b, o, e, hb.mono hB, hlt, hc⟩
/-- A row that the call has appended to lies in another block, or is of another type. -/
theorem Rd.grown (h : Rd B T sz w v n xs) {row : Option Nat} (hg : w.grownBy w' row) (hr : ∀ g, row = some g → g < w.heap.size → B ≤ g ∧ ∃ cs T' fz, w.heap[g]? = some (.cells cs T' fz) ∧ T' ≠ T) : Rd B T sz w' v n xs :=
  h.keep fun b hb hlt => hg.block b hlt (fun e => by
    obtain ⟨h1, cs, T', fz, hh, hne⟩ := hr b e.symm hlt
    rcases hb with hb | ⟨cs', fz', hb⟩
    · omega
    · rw [hh] at hb; injection hb with hb; injection hb with _ e; exact hne e)
/-- What the call has made itself. -/
theorem Rd.of_own {base : Nat} (h : w.ownsRow base T sz v n xs) : Rd B T sz w v n xs := by
  obtain ⟨h1, h2⟩ := h
  refine ⟨h1, ?_⟩
  rcases h2 with ⟨rfl, rfl⟩ | ⟨g, cap, cur, rfl, hg, hh, hnc, hcm, hsz, hr⟩
  · exact ⟨none, 0, rfl, Nat.le_refl _, by omega, fun h => absurd h (by omega)⟩
  · refine ⟨some ⟨g, 0, none⟩, cap, rfl, hnc, by unfold maxLen at hcm; omega, fun _ => ⟨g, 0, rfl, .inr ⟨cur, _, hh⟩, heap_lt hh, fun j u hu => ?_⟩⟩
    have hc : w.cell? ⟨g, 0 + j, none⟩ = cur[j]? := by simp [World.cell?, hh]
    rw [hc, ← hu, ← hr, List.getElem?_take]
    have hj : j < xs.length := by
      rcases Nat.lt_or_ge j xs.length with h | h
      · exact h
      · rw [List.getElem?_eq_none h] at hu; cases hu
    rw [if_pos (by omega)]
    simp
end

/-! ### entries, texts, numbers -/
/-- An entry as the cells hold it. -/
structure Ent where
  k : ByteArray
  v : ByteArray
  g : Bool
deriving DecidableEq
def Ent.cells (e : Ent) : List Value := [.string e.k, .string e.v, .bool e.g]
def Ent.val (e : Ent) : Value := .agg #[.string e.k, .string e.v, .bool e.g]
def Ent.zero : Ent := ⟨ByteArray.empty, ByteArray.empty, false⟩

theorem flat3 (l : List Ent) : ∀ (i : Nat) (e : Ent), l[i]? = some e → (l.flatMap Ent.cells)[i * 3]? = some (.string e.k) ∧ (l.flatMap Ent.cells)[i * 3 + 1]? = some (.string e.v) ∧ (l.flatMap Ent.cells)[i * 3 + 2]? = some (.bool e.g) := by
  induction l with
  | nil => intro i e h; simp at h
  | cons a l ih =>
    intro i e h
    cases i with
    | zero => simp at h; subst h; exact ⟨rfl, rfl, rfl⟩
    | succ i =>
      simp only [List.getElem?_cons_succ] at h
      obtain ⟨h1, h2, h3⟩ := ih i e h
      have e1 : (i + 1) * 3 = i * 3 + 3 := by omega
      simp only [List.flatMap_cons, Ent.cells, e1, List.cons_append, List.nil_append]
      exact ⟨h1, h2, h3⟩
theorem flat3_len (l : List Ent) : (l.flatMap Ent.cells).length = l.length * 3 := by
  induction l with
  | nil => rfl
  | cons a l ih => simp only [List.flatMap_cons, List.length_append, ih, List.length_cons]; simp [Ent.cells]; omega

def EntOk (e : Ent) : Prop := e.k.size ≤ 9223372036854775807 ∧ e.v.size ≤ 9223372036854775807
def Ents (B : Nat) (w : World) (v : Value) (l : List Ent) : Prop := Rd B 28 3 w v l.length (l.flatMap Ent.cells) ∧ ∀ e ∈ l, EntOk e
def Strs (B : Nat) (w : World) (v : Value) (l : List ByteArray) : Prop := Rd B 9 1 w v l.length (l.map .string) ∧ ∀ s ∈ l, s.size ≤ 9223372036854775807
def Ints (B : Nat) (w : World) (v : Value) (l : List Int) : Prop := Rd B 3 1 w v l.length (l.map (.int .i64))

section
variable {B B' : Nat} {M : Nat → Prop} {w w' : World} {v : Value}
theorem Ents.fr {l : List Ent} (h : Ents B w v l) (hf : Fr B M w w') : Ents B w' v l := ⟨h.1.fr hf (by decide), h.2⟩
theorem Strs.fr {l : List ByteArray} (h : Strs B w v l) (hf : Fr B M w w') : Strs B w' v l := ⟨h.1.fr hf (by decide), h.2⟩
theorem Ints.fr {l : List Int} (h : Ints B w v l) (hf : Fr B M w w') : Ints B w' v l := Rd.fr h hf (by decide)
theorem Ents.below {l : List Ent} (h : Ents B w v l) (hf : Below w.heap.size w w') : Ents B w' v l := ⟨h.1.below hf, h.2⟩
theorem Strs.below {l : List ByteArray} (h : Strs B w v l) (hf : Below w.heap.size w w') : Strs B w' v l := ⟨h.1.below hf, h.2⟩
theorem Ints.below {l : List Int} (h : Ints B w v l) (hf : Below w.heap.size w w') : Ints B w' v l := Rd.below h hf
theorem Ents.drewN {l : List Ent} (h : Ents B w v l) (n : Nat) : Ents B (w.drewN n) v l := h
theorem Strs.drewN {l : List ByteArray} (h : Strs B w v l) (n : Nat) : Strs B (w.drewN n) v l := h
theorem Ints.drewN {l : List Int} (h : Ints B w v l) (n : Nat) : Ints B (w.drewN n) v l := h
theorem Ents.len {l : List Ent} (h : Ents B w v l) : l.length ≤ 9223372036854775807 := h.1.len
theorem Strs.len {l : List ByteArray} (h : Strs B w v l) : l.length ≤ 9223372036854775807 := h.1.len
theorem Ints.len {l : List Int} (h : Ints B w v l) : l.length ≤ 9223372036854775807 := Rd.len h
/-- The slice value written out: what the walk needs; at an index within: the address and the cells. -/
theorem Ents.form {l : List Ent} (h : Ents B w v l) : ∃ A c, v = .slice A l.length c ∧ l.length ≤ c ∧ c ≤ 9223372036854775807 ∧
    ∀ i e, l[i]? = some e → ∃ b o, A = some ⟨b, o, none⟩ ∧ b < w.heap.size ∧ w.cell? ⟨b, o + i * 3, none⟩ = some (.string e.k) ∧ w.cell? ⟨b, o + i * 3 + 1, none⟩ = some (.string e.v) ∧ w.cell? ⟨b, o + i * 3 + 2, none⟩ = some (.bool e.g) := by
  obtain ⟨⟨_, A, c, h1, h2, h3, h4⟩, _⟩ := h
  refine ⟨A, c, h1, h2, h3, fun i e hi => ?_⟩
  have hlt : i < l.length := by
    rcases Nat.lt_or_ge i l.length with h | h
    · exact h
    · rw [List.getElem?_eq_none h] at hi; cases hi
  obtain ⟨b, o, hA, _, hb, hc⟩ := h4 (by omega)
  obtain ⟨f1, f2, f3⟩ := flat3 l i e hi
  exact ⟨b, o, hA, hb, hc _ _ f1, hc _ _ f2, hc _ _ f3⟩
theorem Strs.form {l : List ByteArray} (h : Strs B w v l) : ∃ A c, v = .slice A l.length c ∧ l.length ≤ c ∧ c ≤ 9223372036854775807 ∧
    ∀ i s, l[i]? = some s → ∃ b o, A = some ⟨b, o, none⟩ ∧ b < w.heap.size ∧ w.cell? ⟨b, o + i, none⟩ = some (.string s) := by
  obtain ⟨⟨_, A, c, h1, h2, h3, h4⟩, _⟩ := h
  refine ⟨A, c, h1, h2, h3, fun i s hi => ?_⟩
  have hlt : i < l.length := by
    rcases Nat.lt_or_ge i l.length with h | h
    · exact h
    · rw [List.getElem?_eq_none h] at hi; cases hi
  obtain ⟨b, o, hA, _, hb, hc⟩ := h4 (by omega)
  exact ⟨b, o, hA, hb, hc i _ (by rw [List.getElem?_map, hi]; rfl)⟩
theorem Ints.form {l : List Int} (h : Ints B w v l) : ∃ A c, v = .slice A l.length c ∧ l.length ≤ c ∧ c ≤ 9223372036854775807 ∧
    ∀ i s, l[i]? = some s → ∃ b o, A = some ⟨b, o, none⟩ ∧ b < w.heap.size ∧ w.cell? ⟨b, o + i, none⟩ = some (.int .i64 s) := by
  obtain ⟨_, A, c, h1, h2, h3, h4⟩ := h
  refine ⟨A, c, h1, h2, h3, fun i s hi => ?_⟩
  have hlt : i < l.length := by
    rcases Nat.lt_or_ge i l.length with h | h
    · exact h
    · rw [List.getElem?_eq_none h] at hi; cases hi
  obtain ⟨b, o, hA, _, hb, hc⟩ := h4 (by omega)
  exact ⟨b, o, hA, hb, hc i _ (by rw [List.getElem?_map, hi]; rfl)⟩
end

/-! ### append onto a row of the call's own, whatever the source -/
section
variable {P : Program} (w : World)
theorem own_drewN {w : World} {base : Nat} {e : TypeId} {size : Nat} {v : Value} {n : Nat} {xs : List Value} (h : w.ownsRow base e size v n xs) (k : Nat) : (w.drewN k).ownsRow base e size v n xs := h
theorem own_alloc {w : World} {base : Nat} {e : TypeId} {size : Nat} {v : Value} {n : Nat} {xs : List Value} (h : w.ownsRow base e size v n xs) (o : Obj) : (w.alloc o).ownsRow base e size v n xs := World.ownsRow.alloc h o
theorem below_drewN' {n : Nat} {w w' : World} (h : Below n w w') (k : Nat) : Below n w (w'.drewN k) := ⟨h.os, h.tape, h.output, h.size, h.block⟩
theorem own_ge {w : World} {base : Nat} {e : TypeId} {size : Nat} {v : Value} {n : Nat} {xs : List Value} (h : w.ownsRow base e size v n xs) : ∀ k, v.ownBlock = some k → base ≤ k := by
  intro k hk
  rcases h.2 with ⟨rfl, _⟩ | ⟨g, cap, cur, rfl, hg, _⟩
  · simp [Value.ownBlock] at hk
  · simp [Value.ownBlock] at hk; omega
theorem below_own {n : Nat} {w0 w w1 : World} {e : TypeId} {size k : Nat} {v : Value} {xs : List Value} (hb : Below n w0 w) (hn : n ≤ w0.heap.size) (h : w.ownsRow n e size v k xs) (hg : w.grownBy w1 v.ownBlock) : Below n w0 w1 :=
  hb.grown hg (Nat.le_trans hn hb.size) (own_ge h)
theorem addr_add (b o j : Nat) : (Addr.mk b o none).add j = ⟨b, o + j, none⟩ := by
  unfold Addr.add
  by_cases h : j = 0
  · subst h; rfl
  · rw [if_neg h]
theorem run_append_of_nil (base : Nat) (t ty e : TypeId) (i : TypeInfo) (size : Nat) (ht : P.underlying t = some (.slice e)) (hi : P.info? e = some i)
    (v : Value) (n : Nat) (xs : List Value) (hown : w.ownsRow base e size v n xs) (c : Nat) : (Builtin.append_ #[t, t] ty #[v, .slice none 0 c]).run P w = .ok v w := by
  rcases hown.2 with ⟨rfl, rfl⟩ | ⟨g, cap, cur, rfl, _, _, hnc, _⟩
  · simp [Builtin.append_, run_underlying ht, sizeOf, typeInfo, hi, Builtin.lenOf, Builtin.firstCells]
  · simp [Builtin.append_, run_underlying ht, sizeOf, typeInfo, hi, Builtin.lenOf, Builtin.firstCells, hnc, storeCells]
theorem run_append_rd (base : Nat) (t ty e : TypeId) (i : TypeInfo) (z : Value) (size bytes : Nat) (ht : P.underlying t = some (.slice e)) (hi : P.info? e = some i) (hz : i.zero = some z)
    (hsize : i.size = size) (hby : i.bytes = bytes) (hzs : z.cells.size = size) (hsz : 0 < size)
    (v : Value) (n : Nat) (xs : List Value) (hown : w.ownsRow base e size v n xs)
    (B T : Nat) (x : Value) (m : Nat) (news : List Value) (hr : Rd B T size w x m news) (h1 : ∀ u ∈ news, u.oneCell' = true)
    (h63 : n + m ≤ maxLen) (hbytes : (n + m) * bytes ≤ 140737488355328) (hbase : base ≤ w.heap.size) :
    ∃ v' w', (Builtin.append_ #[t, t] ty #[v, x]).run P w = .ok v' w' ∧ w'.ownsRow base e size v' (n + m) (xs ++ news) ∧ w.grownBy w' v.ownBlock ∧
      (v'.ownBlock = v.ownBlock ∨ v'.ownBlock = some w.heap.size) := by
  obtain ⟨hl, A, c, rfl, hmc, _, hc⟩ := hr
  rcases A with _ | ad
  · have hm : m = 0 := by
      rcases Nat.eq_zero_or_pos m with h0 | h0
      · exact h0
      · obtain ⟨b, o, h, _⟩ := hc h0
        cases h
    subst hm
    have hn : news = [] := List.eq_nil_of_length_eq_zero (by simpa using hl)
    subst hn
    exact ⟨v, w, run_append_of_nil w base t ty e i size ht hi v n xs hown c, by simpa using hown, World.grownBy.refl w _, .inl rfl⟩
  · have hcells : ∀ j u, news[j]? = some u → w.cell? (ad.add j) = some u := by
      intro j u hu
      rcases Nat.eq_zero_or_pos m with h0 | h0
      · subst h0
        have hn : news = [] := List.eq_nil_of_length_eq_zero (by simpa using hl)
        subst hn
        simp at hu
      · obtain ⟨b, o, h, _, _, hcc⟩ := hc h0
        injection h with h
        subst h
        rw [addr_add]
        exact hcc j u hu
    obtain ⟨v', w', hrun, h2, h3, _, h5⟩ := run_append_own_at (P := P) w base t ty e i z size bytes ht hi hz hsize hby hzs hsz v n xs hown ad m c news hl hcells h1 h63 hbytes hbase
    exact ⟨v', w', hrun, h2, h3, h5⟩
theorem wp_append_rd {o : Oper} {a : Act} {K : Act → World → Prop} {Q : Exit → Act → World → Prop} (s x : Operand) (t : TypeId)
    (ho : o.op = .call { callee := .builtin .append, args := #[s, x], argTypes := #[t, t] })
    (base : Nat) (e : TypeId) (i : TypeInfo) (z : Value) (size bytes : Nat) (ht : P.underlying t = some (.slice e)) (hi : P.info? e = some i) (hz : i.zero = some z)
    (hsize : i.size = size) (hby : i.bytes = bytes) (hzs : z.cells.size = size) (hsz : 0 < size)
    (v : Value) (n : Nat) (xs : List Value) (hs : a.eval s = v) (hown : w.ownsRow base e size v n xs)
    (B T : Nat) (vx : Value) (m : Nat) (news : List Value) (hx : a.eval x = vx) (hr : Rd B T size w vx m news) (h1 : ∀ u ∈ news, u.oneCell' = true)
    (h63 : n + m ≤ maxLen) (hbytes : (n + m) * bytes ≤ 140737488355328) (hbase : base ≤ w.heap.size)
    (h : ∀ v' w', w'.ownsRow base e size v' (n + m) (xs ++ news) → w.grownBy w' v.ownBlock → (v'.ownBlock = v.ownBlock ∨ v'.ownBlock = some w.heap.size) → K (a.put o.dst v') w') : o.wp P a w K Q := by
  obtain ⟨v', w', hrun, h2, h3, h4⟩ := run_append_rd (P := P) w base t o.type e i z size bytes ht hi hz hsize hby hzs hsz v n xs hown B T vx m news hr h1 h63 hbytes hbase
  unfold Oper.wp execOp
  simp only [ho, resolve, invoke, builtin, Sem.run_bind, Sem.run_pure, Result.andThen_ok, List.map_toArray, List.map_cons, List.map_nil, hs, hx, hrun]
  exact h v' w' h2 h3 h4
theorem wpList_append_rd {ops : Array Oper} {rest : List Oper} {o : Oper} {a : Act} {Q : Exit → Act → World → Prop} (hgd : o.guard = none) (s x : Operand) (t : TypeId)
    (ho : o.op = .call { callee := .builtin .append, args := #[s, x], argTypes := #[t, t] })
    (base : Nat) (e : TypeId) (i : TypeInfo) (z : Value) (size bytes : Nat) (ht : P.underlying t = some (.slice e)) (hi : P.info? e = some i) (hz : i.zero = some z)
    (hsize : i.size = size) (hby : i.bytes = bytes) (hzs : z.cells.size = size) (hsz : 0 < size)
    (v : Value) (n : Nat) (xs : List Value) (hs : a.eval s = v) (hown : w.ownsRow base e size v n xs)
    (B T : Nat) (vx : Value) (m : Nat) (news : List Value) (hx : a.eval x = vx) (hr : Rd B T size w vx m news) (h1 : ∀ u ∈ news, u.oneCell' = true)
    (h63 : n + m ≤ maxLen) (hbytes : (n + m) * bytes ≤ 140737488355328) (hbase : base ≤ w.heap.size)
    (h : ∀ v' w', w'.ownsRow base e size v' (n + m) (xs ++ news) → w.grownBy w' v.ownBlock → (v'.ownBlock = v.ownBlock ∨ v'.ownBlock = some w.heap.size) → wpList P ops Q rest (a.put o.dst v') w') : wpList P ops Q (o :: rest) a w :=
  wpList_plain hgd fun _ hK => wp_append_rd w s x t ho base e i z size bytes ht hi hz hsize hby hzs hsz v n xs hs hown B T vx m news hx hr h1 h63 hbytes hbase fun v' w' h2 h3 h4 => hK _ _ (h v' w' h2 h3 h4)
end

/-- The slice behind its first entry. -/
theorem Ents.cut {B : Nat} {w : World} {b o n c : Nat} {y : Ent} {ys : List Ent} (h : Ents B w (.slice (some ⟨b, o, none⟩) n c) (y :: ys)) :
    Ents B w (.slice (if c = 1 then some ⟨b, o, none⟩ else some ⟨b, o + 3, none⟩) ys.length (c - 1)) ys := by
  obtain ⟨⟨h1, A, c', h2, h3, h4, h5⟩, h6⟩ := h
  simp only [List.length_cons] at h1 h2 h3 h5
  injection h2 with e1 e2 e3
  subst e1; subst e3
  refine ⟨⟨flat3_len ys, _, _, rfl, by omega, by omega, fun hn => ?_⟩, fun e he => h6 e (List.mem_cons_of_mem _ he)⟩
  rw [if_neg (by omega)]
  obtain ⟨b', o', e, hk, hb, hc⟩ := h5 (by omega)
  injection e with e
  injection e with eb eo
  subst eb; subst eo
  refine ⟨_, _, rfl, hk, hb, fun j u hu => ?_⟩
  rw [Nat.add_assoc]
  exact hc (3 + j) u (by rw [List.flatMap_cons, List.getElem?_append_right (by simp [Ent.cells])]; simpa [Ent.cells] using hu)

/-! ### small things -/
theorem snoc_ind {α : Type} {P : List α → Prop} (l : List α) (h0 : P []) (h1 : ∀ l x, P l → P (l ++ [x])) : P l := by
  have h : ∀ l : List α, P l.reverse := by
    intro l
    induction l with
    | nil => exact h0
    | cons a l ih => rw [List.reverse_cons]; exact h1 _ _ ih
  have := h l.reverse
  rwa [List.reverse_reverse] at this
theorem ret_int {k : IntKind} {a b : Int} (h : a = b) : Ending.returned (.int k a) = .returned (.int k b) := by rw [h]
theorem ret_bool {a b : Bool} (h : a = b) : Ending.returned (.bool a) = .returned (.bool b) := by rw [h]
theorem w64 (n : Int) (h0 : -9223372036854775808 ≤ n) (h1 : n ≤ 9223372036854775807) : wrap64 n = n := IntWalk.wrap64_in n ⟨h0, h1⟩
theorem getElem?_of_lt {α : Type} {l : List α} {k : Nat} (h : k < l.length) : ∃ x, l[k]? = some x ∧ l.take (k + 1) = l.take k ++ [x] ∧ l.drop k = x :: l.drop (k + 1) :=
  ⟨l[k], List.getElem?_eq_getElem h, List.take_succ_eq_append_getElem h, List.drop_eq_getElem_cons h⟩
end Go.Proofs.YtaepdbkfaoiimabDoor
