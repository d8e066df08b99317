/- Several texts of this proof, one behind the other: walks and plain laws that the statement rests on. Conditions: none but those that each lemma names. -/
import Derived.WalkKit
import Derived.WalkSpells
import Derived.WalkLawsBesides
import Derived.Outline
import Derived.Lib.Hide
import Derived.Below
import Derived.Deep.QuietTactic
import Derived.BigQuiet
import Derived.Maps.AppendAt
import Derived.Deep.AppendLies
import Derived.RegionTactic
import Derived.OwnWalk
import Derived.Laws.StructEq
import Derived.Test.YtaepdbkfaoiimabGreatDoorChecked
import Derived.Laws.BytesArg
import Derived.BigRegion
import Derived.Deep.LoopGhost
/- Words for memory: a slice that reads as a list; what a call may have turned. Plain definitions and lemmas; no condition. -/
set_option linter.unusedVariables false
namespace Go.Proofs.YtaepdbkfaoiimabGreatDoor
open Go.RowKit

/-! ### blocks -/
/-- Block b is of what came in (below B), or its cells are of type T. -/
def Kd (B : Nat) (T : TypeId) (w : World) (b : Nat) : Prop := b < B ∨ ∃ cs fz, w.heap[b]? = some (.cells cs T fz)
/-- Block g is known whole. -/
def Blk (w : World) (g : Nat) (T : TypeId) (cs : Array Value) : Prop := w.heap[g]? = some (.cells cs T (0, 0))

/-- The types whose blocks may be written to behind their making: nodes, lists, chips, stores, sessions. -/
def mutT (T : TypeId) : Bool := [
  129,
  131,
  67,
  102,
  33,
  46,
  35,
  100000].contains T

/-- From w to w' nothing has turned but blocks of M, and of them those alone whose type may be written to, and none of what came in. -/
structure Fr (B : Nat) (M : Nat → Prop) (w w' : World) : Prop where
  os : w'.os = w.os
  tape : w'.tape = w.tape
  output : w'.output = w.output
  size : w.heap.size ≤ w'.heap.size
  block : ∀ k, k < w.heap.size → (k < B ∨ ¬ M k ∨ (∃ cs T fz, w.heap[k]? = some (.cells cs T fz) ∧ mutT T = false)) → w'.heap[k]? = w.heap[k]?

section
variable {B B' : Nat} {M M' : Nat → Prop} {w w' w'' : World} {T : TypeId} {b : Nat}

theorem heap_lt {o : Obj} (h : w.heap[b]? = some o) : b < w.heap.size := by
  rcases Nat.lt_or_ge b w.heap.size with hlt | hge
  · exact hlt
  · rw [Array.getElem?_eq_none hge] at h; cases h
theorem cell_heap {a : Addr} {v : Value} (h : w.cell? a = some v) : ∃ cs T fz, w.heap[a.block]? = some (.cells cs T fz) ∧ cs[a.off]? = some v := by
  unfold World.cell? at h
  split at h
  · rename_i c T fz hh
    split at h
    · cases h
    · exact ⟨c, T, fz, hh, h⟩
  · cases h
theorem cell_lt {a : Addr} {v : Value} (h : w.cell? a = some v) : a.block < w.heap.size := by
  obtain ⟨cs, T, fz, hh, _⟩ := cell_heap h
  exact heap_lt hh

theorem Fr.refl (B : Nat) (M : Nat → Prop) (w : World) : Fr B M w w := ⟨rfl, rfl, rfl, Nat.le_refl _, fun _ _ _ => rfl⟩
theorem Fr.of_below (h : Below w.heap.size w w') : Fr B M w w' := ⟨h.os, h.tape, h.output, h.size, fun k hk _ => h.block k hk⟩
theorem Fr.drewN (h : Fr B M w w') (n : Nat) : Fr B M w (w'.drewN n) := ⟨h.os, h.tape, h.output, h.size, h.block⟩
theorem Fr.trans (h : Fr B M w w') (k : Fr B M w' w'') (hM : ∀ b, b < w.heap.size → True) : Fr B M w w'' := by
  refine ⟨k.os.trans h.os, k.tape.trans h.tape, k.output.trans h.output, Nat.le_trans h.size k.size, fun i hi hc => ?_⟩
  have h1 := h.block i hi hc
  have h2 := k.block i (Nat.lt_of_lt_of_le hi h.size) (by
    rcases hc with hc | hc | ⟨cs, T, fz, hh, hT⟩
    · exact .inl hc
    · exact .inr (.inl hc)
    · exact .inr (.inr ⟨cs, T, fz, h1.trans hh, hT⟩))
  exact h2.trans h1
/-- Steps with footprints of their own: the second's may hold blocks that are new since w. -/
theorem Fr.trans' (h : Fr B M w w') (k : Fr B M' w' w'') (hM : ∀ b, b < w.heap.size → M' b → M b) : Fr B M w w'' := by
  refine ⟨k.os.trans h.os, k.tape.trans h.tape, k.output.trans h.output, Nat.le_trans h.size k.size, fun i hi hc => ?_⟩
  have h1 := h.block i hi hc
  have h2 := k.block i (Nat.lt_of_lt_of_le hi h.size) (by
    rcases hc with hc | hc | ⟨cs, T, fz, hh, hT⟩
    · exact .inl hc
    · exact .inr (.inl fun hm => hc (hM i hi hm))
    · exact .inr (.inr ⟨cs, T, fz, h1.trans hh, hT⟩))
  exact h2.trans h1
theorem Fr.mono (h : Fr B M w w') (hM : ∀ b, b < w.heap.size → M b → M' b) : Fr B M' w w' :=
  ⟨h.os, h.tape, h.output, h.size, fun i hi hc => h.block i hi (by
    rcases hc with hc | hc | hc
    · exact .inl hc
    · exact .inr (.inl fun hm => hc (hM i hi hm))
    · exact .inr (.inr hc))⟩
theorem Fr.below (h : Fr B M w w') (hB : B ≤ w.heap.size) : Below B w w' :=
  ⟨h.os, h.tape, h.output, h.size, fun k hk => h.block k (Nat.lt_of_lt_of_le hk hB) (.inl hk)⟩
theorem Fr.none_below (h : Fr B (fun _ => False) w w') : Below w.heap.size w w' :=
  ⟨h.os, h.tape, h.output, h.size, fun k hk => h.block k hk (.inr (.inl id))⟩

theorem Kd.fr (h : Kd B T w b) (hT : mutT T = false) (hf : Fr B M w w') (hb : b < w.heap.size) : w'.heap[b]? = w.heap[b]? := by
  rcases h with h | ⟨cs, fz, h⟩
  · exact hf.block b hb (.inl h)
  · exact hf.block b hb (.inr (.inr ⟨cs, T, fz, h, hT⟩))
theorem Kd.of_eq (h : Kd B T w b) (he : w'.heap[b]? = w.heap[b]?) : Kd B T w' b := by
  rcases h with h | ⟨cs, fz, h⟩
  · exact .inl h
  · exact .inr ⟨cs, fz, he.trans h⟩
theorem Kd.mono (h : Kd B T w b) (hB : B ≤ B') : Kd B' T w b := h.elim (fun h => .inl (Nat.lt_of_lt_of_le h hB)) .inr

theorem Blk.lt {cs : Array Value} (h : Blk w b T cs) : b < w.heap.size := heap_lt h
theorem Blk.cell {cs : Array Value} (h : Blk w b T cs) (i : Nat) : w.cell? ⟨b, i, none⟩ = cs[i]? := by
  unfold Blk at h; simp [World.cell?, h]
theorem Blk.frozen {cs : Array Value} (h : Blk w b T cs) (i : Nat) : w.frozen? ⟨b, i, none⟩ = false := by
  unfold Blk at h; simp [World.frozen?, h]
theorem Blk.new (w : World) (T : TypeId) (cs : Array Value) : Blk (w.alloc (.cells cs T)) w.heap.size T cs := heap_alloc_new w _
theorem Blk.drewN {cs : Array Value} (h : Blk w b T cs) (n : Nat) : Blk (w.drewN n) b T cs := h
theorem Blk.alloc {cs : Array Value} (h : Blk w b T cs) (o : Obj) : Blk (w.alloc o) b T cs := (Below.heap_alloc w o b h.lt).trans h
theorem Blk.set_ {cs : Array Value} (h : Blk w b T cs) (i : Nat) (u : Value) : Blk (w.setCell ⟨b, i, none⟩ u) b T (cs.setIfInBounds i u) := by
  unfold Blk at h ⊢
  simp [World.setCell, Array.getElem?_modify, h]
theorem Blk.far {cs : Array Value} (h : Blk w b T cs) {p : Addr} (hp : b ≠ p.block) (u : Value) : Blk (w.setCell p u) b T cs := (Below.heap_setCell w p u b hp).trans h
theorem Blk.below {cs : Array Value} {n : Nat} (h : Blk w b T cs) (hb : Below n w w') (hn : b < n) : Blk w' b T cs := (hb.block b hn).trans h
theorem Blk.fr {cs : Array Value} (h : Blk w b T cs) (hf : Fr B M w w') (hM : b < B ∨ ¬ M b ∨ mutT T = false) : Blk w' b T cs :=
  (hf.block b h.lt (by
    rcases hM with h1 | h1 | h1
    · exact .inl h1
    · exact .inr (.inl h1)
    · exact .inr (.inr ⟨cs, T, (0, 0), h, h1⟩))).trans h
/-- A store into a block of the footprint. -/
theorem Fr.setCell {p : Addr} (h : Fr B M w w') (hB : B ≤ p.block) (hp : M p.block ∨ w.heap.size ≤ p.block) (hT : p.block < w.heap.size → ∃ cs T fz, w.heap[p.block]? = some (.cells cs T fz) ∧ mutT T = true) (u : Value) : Fr B M w (w'.setCell p u) := by
  refine ⟨h.os, h.tape, h.output, by simpa [World.setCell] using h.size, fun k hk hc => ?_⟩
  rw [Below.heap_setCell _ _ _ _ ?_]
  · exact h.block k hk hc
  · rintro rfl
    rcases hc with hc | hc | ⟨cs, T, fz, hh, hc⟩
    · omega
    · exact hp.elim hc (fun h => by omega)
    · obtain ⟨cs', T', fz', hh', hT'⟩ := hT hk
      rw [hh] at hh'
      injection hh' with hh'
      injection hh' with _ e
      subst e
      rw [hc] at hT'
      cases hT'
theorem Fr.alloc (h : Fr B M w w') (o : Obj) : Fr B M w (w'.alloc o) :=
  ⟨h.os, h.tape, h.output, Nat.le_trans h.size (by simp), fun k hk hc => (Below.heap_alloc w' o k (Nat.lt_of_lt_of_le hk h.size)).trans (h.block k hk hc)⟩
end

/-! ### a slice that reads as a list of cells -/
/-- The slice value v has n elements of sz cells each, which read as xs; its array is of what came in (below B), or of element type T. -/
def Rd (B : Nat) (T : TypeId) (sz : Nat) (w : World) (v : Value) (n : Nat) (xs : List Value) : Prop :=
  xs.length = n * sz ∧ ∃ A c, v = .slice A n c ∧ n ≤ c ∧ c ≤ 9223372036854775807 ∧
    (0 < n → ∃ b o, A = some ⟨b, o, none⟩ ∧ Kd B T w b ∧ b < w.heap.size ∧ ∀ j u, xs[j]? = some u → w.cell? ⟨b, o + j, none⟩ = some u)

section
variable {B B' : Nat} {M : Nat → Prop} {w w' : World} {T : TypeId} {sz n : Nat} {v : Value} {xs : List Value}

theorem Rd.nil (B : Nat) (T : TypeId) (sz : Nat) (w : World) : Rd B T sz w (.slice none 0 0) 0 [] := ⟨by simp, none, 0, rfl, Nat.le_refl _, by omega, fun h => absurd h (by omega)⟩
theorem Rd.len (h : Rd B T sz w v n xs) : n ≤ 9223372036854775807 := by obtain ⟨_, _, _, _, h1, h2, _⟩ := h; omega
theorem Rd.keep (h : Rd B T sz w v n xs) (hk : ∀ b, Kd B T w b → b < w.heap.size → w'.heap[b]? = w.heap[b]?) : Rd B T sz w' v n xs := by
  obtain ⟨h1, A, c, h2, h3, h4, h5⟩ := h
  refine ⟨h1, A, c, h2, h3, h4, fun hn => ?_⟩
  obtain ⟨b, o, e, hb, hlt, hc⟩ := h5 hn
  have he := hk b hb hlt
  have hlt' : b < w'.heap.size := by
    have : w.heap[b]? = some w.heap[b] := Array.getElem?_eq_getElem hlt
    exact heap_lt (he.trans this)
  exact ⟨b, o, e, hb.of_eq he, hlt', fun j u hu => (World.cell?_of_block (w := w) he).trans (hc j u hu)⟩
theorem Rd.fr (h : Rd B T sz w v n xs) (hf : Fr B M w w') (hT : mutT T = false) : Rd B T sz w' v n xs := h.keep fun b hb hlt => hb.fr hT hf hlt
theorem Rd.below (h : Rd B T sz w v n xs) (hf : Below w.heap.size w w') : Rd B T sz w' v n xs := h.keep fun b hb hlt => hf.block b hlt
theorem Rd.drewN (h : Rd B T sz w v n xs) (k : Nat) : Rd B T sz (w.drewN k) v n xs := h
theorem Rd.mono (h : Rd B T sz w v n xs) (hB : B ≤ B') : Rd B' T sz w v n xs := by
  obtain ⟨h1, A, c, h2, h3, h4, h5⟩ := h
  refine ⟨h1, A, c, h2, h3, h4, fun hn => ?_⟩
  obtain ⟨b, o, e, hb, hlt, hc⟩ := h5 hn
  exact ⟨b, o, e, hb.mono hB, hlt, hc⟩
/-- A row that the call has appended to lies in another block, or is of another type. -/
theorem Rd.grown (h : Rd B T sz w v n xs) {row : Option Nat} (hg : w.grownBy w' row) (hr : ∀ g, row = some g → g < w.heap.size → B ≤ g ∧ ∃ cs T' fz, w.heap[g]? = some (.cells cs T' fz) ∧ T' ≠ T) : Rd B T sz w' v n xs :=
  h.keep fun b hb hlt => hg.block b hlt (fun e => by
    obtain ⟨h1, cs, T', fz, hh, hne⟩ := hr b e.symm hlt
    rcases hb with hb | ⟨cs', fz', hb⟩
    · omega
    · rw [hh] at hb; injection hb with hb; injection hb with _ e; exact hne e)
/-- What the call has made itself. -/
theorem Rd.of_own {base : Nat} (h : w.ownsRow base T sz v n xs) : Rd B T sz w v n xs := by
  obtain ⟨h1, h2⟩ := h
  refine ⟨h1, ?_⟩
  rcases h2 with ⟨rfl, rfl⟩ | ⟨g, cap, cur, rfl, hg, hh, hnc, hcm, hsz, hr⟩
  · exact ⟨none, 0, rfl, Nat.le_refl _, by omega, fun h => absurd h (by omega)⟩
  · refine ⟨some ⟨g, 0, none⟩, cap, rfl, hnc, by unfold maxLen at hcm; omega, fun _ => ⟨g, 0, rfl, .inr ⟨cur, _, hh⟩, heap_lt hh, fun j u hu => ?_⟩⟩
    have hc : w.cell? ⟨g, 0 + j, none⟩ = cur[j]? := by simp [World.cell?, hh]
    rw [hc, ← hu, ← hr, List.getElem?_take]
    have hj : j < xs.length := by
      rcases Nat.lt_or_ge j xs.length with h | h
      · exact h
      · rw [List.getElem?_eq_none h] at hu; cases hu
    rw [if_pos (by omega)]
    simp
end

/-! ### entries, texts, numbers -/
/-- An entry as the cells hold it. -/
structure Ent where
  k : ByteArray
  v : ByteArray
  g : Bool
deriving DecidableEq
def Ent.cells (e : Ent) : List Value := [.string e.k, .string e.v, .bool e.g]
def Ent.val (e : Ent) : Value := .agg #[.string e.k, .string e.v, .bool e.g]
def Ent.zero : Ent := ⟨ByteArray.empty, ByteArray.empty, false⟩

theorem flat3 (l : List Ent) : ∀ (i : Nat) (e : Ent), l[i]? = some e → (l.flatMap Ent.cells)[i * 3]? = some (.string e.k) ∧ (l.flatMap Ent.cells)[i * 3 + 1]? = some (.string e.v) ∧ (l.flatMap Ent.cells)[i * 3 + 2]? = some (.bool e.g) := by
  induction l with
  | nil => intro i e h; simp at h
  | cons a l ih =>
    intro i e h
    cases i with
    | zero => simp at h; subst h; exact ⟨rfl, rfl, rfl⟩
    | succ i =>
      simp only [List.getElem?_cons_succ] at h
      obtain ⟨h1, h2, h3⟩ := ih i e h
      have e1 : (i + 1) * 3 = i * 3 + 3 := by omega
      simp only [List.flatMap_cons, Ent.cells, e1, List.cons_append, List.nil_append]
      exact ⟨h1, h2, h3⟩
theorem flat3_len (l : List Ent) : (l.flatMap Ent.cells).length = l.length * 3 := by
  induction l with
  | nil => rfl
  | cons a l ih => simp only [List.flatMap_cons, List.length_append, ih, List.length_cons]; simp [Ent.cells]; omega

def EntOk (e : Ent) : Prop := e.k.size ≤ 9223372036854775807 ∧ e.v.size ≤ 9223372036854775807
def Ents (B : Nat) (w : World) (v : Value) (l : List Ent) : Prop := Rd B 56 3 w v l.length (l.flatMap Ent.cells) ∧ ∀ e ∈ l, EntOk e
def Strs (B : Nat) (w : World) (v : Value) (l : List ByteArray) : Prop := Rd B 9 1 w v l.length (l.map .string) ∧ ∀ s ∈ l, s.size ≤ 9223372036854775807
def Ints (B : Nat) (w : World) (v : Value) (l : List Int) : Prop := Rd B 3 1 w v l.length (l.map (.int .i64))

section
variable {B B' : Nat} {M : Nat → Prop} {w w' : World} {v : Value}
theorem Ents.fr {l : List Ent} (h : Ents B w v l) (hf : Fr B M w w') : Ents B w' v l := ⟨h.1.fr hf (by decide), h.2⟩
theorem Strs.fr {l : List ByteArray} (h : Strs B w v l) (hf : Fr B M w w') : Strs B w' v l := ⟨h.1.fr hf (by decide), h.2⟩
theorem Ints.fr {l : List Int} (h : Ints B w v l) (hf : Fr B M w w') : Ints B w' v l := Rd.fr h hf (by decide)
theorem Ents.below {l : List Ent} (h : Ents B w v l) (hf : Below w.heap.size w w') : Ents B w' v l := ⟨h.1.below hf, h.2⟩
theorem Strs.below {l : List ByteArray} (h : Strs B w v l) (hf : Below w.heap.size w w') : Strs B w' v l := ⟨h.1.below hf, h.2⟩
theorem Ints.below {l : List Int} (h : Ints B w v l) (hf : Below w.heap.size w w') : Ints B w' v l := Rd.below h hf
theorem Ents.drewN {l : List Ent} (h : Ents B w v l) (n : Nat) : Ents B (w.drewN n) v l := h
theorem Strs.drewN {l : List ByteArray} (h : Strs B w v l) (n : Nat) : Strs B (w.drewN n) v l := h
theorem Ints.drewN {l : List Int} (h : Ints B w v l) (n : Nat) : Ints B (w.drewN n) v l := h
theorem Ents.len {l : List Ent} (h : Ents B w v l) : l.length ≤ 9223372036854775807 := h.1.len
theorem Strs.len {l : List ByteArray} (h : Strs B w v l) : l.length ≤ 9223372036854775807 := h.1.len
theorem Ints.len {l : List Int} (h : Ints B w v l) : l.length ≤ 9223372036854775807 := Rd.len h
/-- The slice value written out: what the walk needs; at an index within: the address and the cells. -/
theorem Ents.form {l : List Ent} (h : Ents B w v l) : ∃ A c, v = .slice A l.length c ∧ l.length ≤ c ∧ c ≤ 9223372036854775807 ∧
    ∀ i e, l[i]? = some e → ∃ b o, A = some ⟨b, o, none⟩ ∧ b < w.heap.size ∧ w.cell? ⟨b, o + i * 3, none⟩ = some (.string e.k) ∧ w.cell? ⟨b, o + i * 3 + 1, none⟩ = some (.string e.v) ∧ w.cell? ⟨b, o + i * 3 + 2, none⟩ = some (.bool e.g) := by
  obtain ⟨⟨_, A, c, h1, h2, h3, h4⟩, _⟩ := h
  refine ⟨A, c, h1, h2, h3, fun i e hi => ?_⟩
  have hlt : i < l.length := by
    rcases Nat.lt_or_ge i l.length with h | h
    · exact h
    · rw [List.getElem?_eq_none h] at hi; cases hi
  obtain ⟨b, o, hA, _, hb, hc⟩ := h4 (by omega)
  obtain ⟨f1, f2, f3⟩ := flat3 l i e hi
  exact ⟨b, o, hA, hb, hc _ _ f1, hc _ _ f2, hc _ _ f3⟩
theorem Strs.form {l : List ByteArray} (h : Strs B w v l) : ∃ A c, v = .slice A l.length c ∧ l.length ≤ c ∧ c ≤ 9223372036854775807 ∧
    ∀ i s, l[i]? = some s → ∃ b o, A = some ⟨b, o, none⟩ ∧ b < w.heap.size ∧ w.cell? ⟨b, o + i, none⟩ = some (.string s) := by
  obtain ⟨⟨_, A, c, h1, h2, h3, h4⟩, _⟩ := h
  refine ⟨A, c, h1, h2, h3, fun i s hi => ?_⟩
  have hlt : i < l.length := by
    rcases Nat.lt_or_ge i l.length with h | h
    · exact h
    · rw [List.getElem?_eq_none h] at hi; cases hi
  obtain ⟨b, o, hA, _, hb, hc⟩ := h4 (by omega)
  exact ⟨b, o, hA, hb, hc i _ (by rw [List.getElem?_map, hi]; rfl)⟩
theorem Ints.form {l : List Int} (h : Ints B w v l) : ∃ A c, v = .slice A l.length c ∧ l.length ≤ c ∧ c ≤ 9223372036854775807 ∧
    ∀ i s, l[i]? = some s → ∃ b o, A = some ⟨b, o, none⟩ ∧ b < w.heap.size ∧ w.cell? ⟨b, o + i, none⟩ = some (.int .i64 s) := by
  obtain ⟨_, A, c, h1, h2, h3, h4⟩ := h
  refine ⟨A, c, h1, h2, h3, fun i s hi => ?_⟩
  have hlt : i < l.length := by
    rcases Nat.lt_or_ge i l.length with h | h
    · exact h
    · rw [List.getElem?_eq_none h] at hi; cases hi
  obtain ⟨b, o, hA, _, hb, hc⟩ := h4 (by omega)
  exact ⟨b, o, hA, hb, hc i _ (by rw [List.getElem?_map, hi]; rfl)⟩
end

/-! ### append onto a row of the call's own, whatever the source -/
section
variable {P : Program} (w : World)
theorem own_drewN {w : World} {base : Nat} {e : TypeId} {size : Nat} {v : Value} {n : Nat} {xs : List Value} (h : w.ownsRow base e size v n xs) (k : Nat) : (w.drewN k).ownsRow base e size v n xs := h
theorem own_alloc {w : World} {base : Nat} {e : TypeId} {size : Nat} {v : Value} {n : Nat} {xs : List Value} (h : w.ownsRow base e size v n xs) (o : Obj) : (w.alloc o).ownsRow base e size v n xs := World.ownsRow.alloc h o
theorem below_drewN' {n : Nat} {w w' : World} (h : Below n w w') (k : Nat) : Below n w (w'.drewN k) := ⟨h.os, h.tape, h.output, h.size, h.block⟩
theorem own_ge {w : World} {base : Nat} {e : TypeId} {size : Nat} {v : Value} {n : Nat} {xs : List Value} (h : w.ownsRow base e size v n xs) : ∀ k, v.ownBlock = some k → base ≤ k := by
  intro k hk
  rcases h.2 with ⟨rfl, _⟩ | ⟨g, cap, cur, rfl, hg, _⟩
  · simp [Value.ownBlock] at hk
  · simp [Value.ownBlock] at hk; omega
theorem below_own {n : Nat} {w0 w w1 : World} {e : TypeId} {size k : Nat} {v : Value} {xs : List Value} (hb : Below n w0 w) (hn : n ≤ w0.heap.size) (h : w.ownsRow n e size v k xs) (hg : w.grownBy w1 v.ownBlock) : Below n w0 w1 :=
  hb.grown hg (Nat.le_trans hn hb.size) (own_ge h)
theorem addr_add (b o j : Nat) : (Addr.mk b o none).add j = ⟨b, o + j, none⟩ := by
  unfold Addr.add
  by_cases h : j = 0
  · subst h; rfl
  · rw [if_neg h]
theorem run_append_of_nil (base : Nat) (t ty e : TypeId) (i : TypeInfo) (size : Nat) (ht : P.underlying t = some (.slice e)) (hi : P.info? e = some i)
    (v : Value) (n : Nat) (xs : List Value) (hown : w.ownsRow base e size v n xs) (c : Nat) : (Builtin.append_ #[t, t] ty #[v, .slice none 0 c]).run P w = .ok v w := by
  rcases hown.2 with ⟨rfl, rfl⟩ | ⟨g, cap, cur, rfl, _, _, hnc, _⟩
  · simp [Builtin.append_, run_underlying ht, sizeOf, typeInfo, hi, Builtin.lenOf, Builtin.firstCells]
  · simp [Builtin.append_, run_underlying ht, sizeOf, typeInfo, hi, Builtin.lenOf, Builtin.firstCells, hnc, storeCells]
theorem run_append_rd (base : Nat) (t ty e : TypeId) (i : TypeInfo) (z : Value) (size bytes : Nat) (ht : P.underlying t = some (.slice e)) (hi : P.info? e = some i) (hz : i.zero = some z)
    (hsize : i.size = size) (hby : i.bytes = bytes) (hzs : z.cells.size = size) (hsz : 0 < size)
    (v : Value) (n : Nat) (xs : List Value) (hown : w.ownsRow base e size v n xs)
    (B T : Nat) (x : Value) (m : Nat) (news : List Value) (hr : Rd B T size w x m news) (h1 : ∀ u ∈ news, u.oneCell' = true)
    (h63 : n + m ≤ maxLen) (hbytes : (n + m) * bytes ≤ 140737488355328) (hbase : base ≤ w.heap.size) :
    ∃ v' w', (Builtin.append_ #[t, t] ty #[v, x]).run P w = .ok v' w' ∧ w'.ownsRow base e size v' (n + m) (xs ++ news) ∧ w.grownBy w' v.ownBlock ∧
      (v'.ownBlock = v.ownBlock ∨ v'.ownBlock = some w.heap.size) := by
  obtain ⟨hl, A, c, rfl, hmc, _, hc⟩ := hr
  rcases A with _ | ad
  · have hm : m = 0 := by
      rcases Nat.eq_zero_or_pos m with h0 | h0
      · exact h0
      · obtain ⟨b, o, h, _⟩ := hc h0
        cases h
    subst hm
    have hn : news = [] := List.eq_nil_of_length_eq_zero (by simpa using hl)
    subst hn
    exact ⟨v, w, run_append_of_nil w base t ty e i size ht hi v n xs hown c, by simpa using hown, World.grownBy.refl w _, .inl rfl⟩
  · have hcells : ∀ j u, news[j]? = some u → w.cell? (ad.add j) = some u := by
      intro j u hu
      rcases Nat.eq_zero_or_pos m with h0 | h0
      · subst h0
        have hn : news = [] := List.eq_nil_of_length_eq_zero (by simpa using hl)
        subst hn
        simp at hu
      · obtain ⟨b, o, h, _, _, hcc⟩ := hc h0
        injection h with h
        subst h
        rw [addr_add]
        exact hcc j u hu
    obtain ⟨v', w', hrun, h2, h3, _, h5⟩ := run_append_own_at (P := P) w base t ty e i z size bytes ht hi hz hsize hby hzs hsz v n xs hown ad m c news hl hcells h1 h63 hbytes hbase
    exact ⟨v', w', hrun, h2, h3, h5⟩
theorem wp_append_rd {o : Oper} {a : Act} {K : Act → World → Prop} {Q : Exit → Act → World → Prop} (s x : Operand) (t : TypeId)
    (ho : o.op = .call { callee := .builtin .append, args := #[s, x], argTypes := #[t, t] })
    (base : Nat) (e : TypeId) (i : TypeInfo) (z : Value) (size bytes : Nat) (ht : P.underlying t = some (.slice e)) (hi : P.info? e = some i) (hz : i.zero = some z)
    (hsize : i.size = size) (hby : i.bytes = bytes) (hzs : z.cells.size = size) (hsz : 0 < size)
    (v : Value) (n : Nat) (xs : List Value) (hs : a.eval s = v) (hown : w.ownsRow base e size v n xs)
    (B T : Nat) (vx : Value) (m : Nat) (news : List Value) (hx : a.eval x = vx) (hr : Rd B T size w vx m news) (h1 : ∀ u ∈ news, u.oneCell' = true)
    (h63 : n + m ≤ maxLen) (hbytes : (n + m) * bytes ≤ 140737488355328) (hbase : base ≤ w.heap.size)
    (h : ∀ v' w', w'.ownsRow base e size v' (n + m) (xs ++ news) → w.grownBy w' v.ownBlock → (v'.ownBlock = v.ownBlock ∨ v'.ownBlock = some w.heap.size) → K (a.put o.dst v') w') : o.wp P a w K Q := by
  obtain ⟨v', w', hrun, h2, h3, h4⟩ := run_append_rd (P := P) w base t o.type e i z size bytes ht hi hz hsize hby hzs hsz v n xs hown B T vx m news hr h1 h63 hbytes hbase
  unfold Oper.wp execOp
  simp only [ho, resolve, invoke, builtin, Sem.run_bind, Sem.run_pure, Result.andThen_ok, List.map_toArray, List.map_cons, List.map_nil, hs, hx, hrun]
  exact h v' w' h2 h3 h4
theorem wpList_append_rd {ops : Array Oper} {rest : List Oper} {o : Oper} {a : Act} {Q : Exit → Act → World → Prop} (hgd : o.guard = none) (s x : Operand) (t : TypeId)
    (ho : o.op = .call { callee := .builtin .append, args := #[s, x], argTypes := #[t, t] })
    (base : Nat) (e : TypeId) (i : TypeInfo) (z : Value) (size bytes : Nat) (ht : P.underlying t = some (.slice e)) (hi : P.info? e = some i) (hz : i.zero = some z)
    (hsize : i.size = size) (hby : i.bytes = bytes) (hzs : z.cells.size = size) (hsz : 0 < size)
    (v : Value) (n : Nat) (xs : List Value) (hs : a.eval s = v) (hown : w.ownsRow base e size v n xs)
    (B T : Nat) (vx : Value) (m : Nat) (news : List Value) (hx : a.eval x = vx) (hr : Rd B T size w vx m news) (h1 : ∀ u ∈ news, u.oneCell' = true)
    (h63 : n + m ≤ maxLen) (hbytes : (n + m) * bytes ≤ 140737488355328) (hbase : base ≤ w.heap.size)
    (h : ∀ v' w', w'.ownsRow base e size v' (n + m) (xs ++ news) → w.grownBy w' v.ownBlock → (v'.ownBlock = v.ownBlock ∨ v'.ownBlock = some w.heap.size) → wpList P ops Q rest (a.put o.dst v') w') : wpList P ops Q (o :: rest) a w :=
  wpList_plain hgd fun _ hK => wp_append_rd w s x t ho base e i z size bytes ht hi hz hsize hby hzs hsz v n xs hs hown B T vx m news hx hr h1 h63 hbytes hbase fun v' w' h2 h3 h4 => hK _ _ (h v' w' h2 h3 h4)
end

/-- The slice behind its first entry. -/
theorem Ents.cut {B : Nat} {w : World} {b o n c : Nat} {y : Ent} {ys : List Ent} (h : Ents B w (.slice (some ⟨b, o, none⟩) n c) (y :: ys)) :
    Ents B w (.slice (if c = 1 then some ⟨b, o, none⟩ else some ⟨b, o + 3, none⟩) ys.length (c - 1)) ys := by
  obtain ⟨⟨h1, A, c', h2, h3, h4, h5⟩, h6⟩ := h
  simp only [List.length_cons] at h1 h2 h3 h5
  injection h2 with e1 e2 e3
  subst e1; subst e3
  refine ⟨⟨flat3_len ys, _, _, rfl, by omega, by omega, fun hn => ?_⟩, fun e he => h6 e (List.mem_cons_of_mem _ he)⟩
  rw [if_neg (by omega)]
  obtain ⟨b', o', e, hk, hb, hc⟩ := h5 (by omega)
  injection e with e
  injection e with eb eo
  subst eb; subst eo
  refine ⟨_, _, rfl, hk, hb, fun j u hu => ?_⟩
  rw [Nat.add_assoc]
  exact hc (3 + j) u (by rw [List.flatMap_cons, List.getElem?_append_right (by simp [Ent.cells])]; simpa [Ent.cells] using hu)

/-! ### small things -/
theorem snoc_ind {α : Type} {P : List α → Prop} (l : List α) (h0 : P []) (h1 : ∀ l x, P l → P (l ++ [x])) : P l := by
  have h : ∀ l : List α, P l.reverse := by
    intro l
    induction l with
    | nil => exact h0
    | cons a l ih => rw [List.reverse_cons]; exact h1 _ _ ih
  have := h l.reverse
  rwa [List.reverse_reverse] at this
theorem ret_int {k : IntKind} {a b : Int} (h : a = b) : Ending.returned (.int k a) = .returned (.int k b) := by rw [h]
theorem ret_bool {a b : Bool} (h : a = b) : Ending.returned (.bool a) = .returned (.bool b) := by rw [h]
theorem w64 (n : Int) (h0 : -9223372036854775808 ≤ n) (h1 : n ≤ 9223372036854775807) : wrap64 n = n := IntWalk.wrap64_in n ⟨h0, h1⟩
theorem getElem?_of_lt {α : Type} {l : List α} {k : Nat} (h : k < l.length) : ∃ x, l[k]? = some x ∧ l.take (k + 1) = l.take k ++ [x] ∧ l.drop k = x :: l.drop (k + 1) :=
  ⟨l[k], List.getElem?_eq_getElem h, List.take_succ_eq_append_getElem h, List.drop_eq_getElem_cons h⟩
end Go.Proofs.YtaepdbkfaoiimabGreatDoor
/- Lists of entries: put together, put in, asked; the plain laws, with no program in sight. Conditions: none but those that each law names. -/
set_option linter.unusedVariables false
set_option linter.unusedSimpArgs false
namespace Go.Proofs.YtaepdbkfaoiimabGreatDoor
open Go.RowKit

/-- One text is below another one. -/
def ltB (a b : ByteArray) : Bool := Op.bytesLess a.toList b.toList

/-- Two lists that rise: of a key that both have the first one's counts. -/
def merge2 : List Ent → List Ent → List Ent
  | [], ys => ys
  | x :: xs, [] => x :: xs
  | x :: xs, y :: ys =>
    if ltB x.k y.k then x :: merge2 xs (y :: ys)
    else if ltB y.k x.k then y :: merge2 (x :: xs) ys
    else x :: merge2 xs ys
termination_by xs ys => xs.length + ys.length


theorem mem_merge2 (e : Ent) : ∀ (n : Nat) (xs ys : List Ent), xs.length + ys.length ≤ n → e ∈ merge2 xs ys → e ∈ xs ∨ e ∈ ys := by
  intro n
  induction n with
  | zero =>
    intro xs ys h
    have h1 : xs = [] := List.eq_nil_of_length_eq_zero (by omega)
    have h2 : ys = [] := List.eq_nil_of_length_eq_zero (by omega)
    subst h1; subst h2
    simp [merge2]
  | succ n ih =>
    intro xs ys h
    match xs, ys with
    | [], ys => simp [merge2]
    | x :: xs, [] => simp [merge2]
    | x :: xs, y :: ys =>
      simp only [List.length_cons] at h
      rw [merge2]
      split
      · intro he
        rcases List.mem_cons.1 he with rfl | he
        · simp
        · rcases ih xs (y :: ys) (by simp; omega) he with h | h
          · simp [h]
          · exact .inr h
      · split
        · intro he
          rcases List.mem_cons.1 he with rfl | he
          · simp
          · rcases ih (x :: xs) ys (by simp; omega) he with h | h
            · exact .inl h
            · simp [h]
        · intro he
          rcases List.mem_cons.1 he with rfl | he
          · simp
          · rcases ih xs ys (by omega) he with h | h <;> simp [h]
theorem merge2_len : ∀ (n : Nat) (xs ys : List Ent), xs.length + ys.length ≤ n → (merge2 xs ys).length ≤ xs.length + ys.length := by
  intro n
  induction n with
  | zero =>
    intro xs ys h
    have h1 : xs = [] := List.eq_nil_of_length_eq_zero (by omega)
    have h2 : ys = [] := List.eq_nil_of_length_eq_zero (by omega)
    subst h1; subst h2
    simp [merge2]
  | succ n ih =>
    intro xs ys h
    match xs, ys with
    | [], ys => simp [merge2]
    | x :: xs, [] => simp [merge2]
    | x :: xs, y :: ys =>
      simp only [List.length_cons] at h
      rw [merge2]
      split
      · have := ih xs (y :: ys) (by simp; omega); simp at this ⊢; omega
      · split
        · have := ih (x :: xs) ys (by simp; omega); simp at this ⊢; omega
        · have := ih xs ys (by omega); simp at this ⊢; omega
theorem ok_merge2 {xs ys : List Ent} (hx : ∀ e ∈ xs, EntOk e) (hy : ∀ e ∈ ys, EntOk e) : ∀ e ∈ merge2 xs ys, EntOk e := fun e he =>
  (mem_merge2 e _ xs ys (Nat.le_refl _) he).elim (hx e) (hy e)


def mergeAll (ls : List (List Ent)) : List Ent := ls.foldr merge2 []
def sumLen (ls : List (List Ent)) : Nat := (ls.map List.length).sum
theorem mergeAll_len (ls : List (List Ent)) : (mergeAll ls).length ≤ sumLen ls := by
  induction ls with
  | nil => simp [mergeAll, sumLen]
  | cons l ls ih =>
    have := merge2_len _ l (mergeAll ls) (Nat.le_refl _)
    simp only [mergeAll, sumLen, List.foldr_cons, List.map_cons, List.sum_cons] at *
    omega
theorem sumLen_drop (ls : List (List Ent)) (k : Nat) : sumLen (ls.drop k) ≤ sumLen ls := by
  induction ls generalizing k with
  | nil => simp [sumLen]
  | cons l ls ih =>
    cases k with
    | zero => simp
    | succ k => have := ih k; simp only [sumLen, List.drop_succ_cons, List.map_cons, List.sum_cons] at *; omega
theorem sumLen_mem {ls : List (List Ent)} {l : List Ent} (h : l ∈ ls) : l.length ≤ sumLen ls := by
  induction ls with
  | nil => cases h
  | cons a ls ih =>
    simp only [sumLen, List.map_cons, List.sum_cons] at *
    rcases List.mem_cons.1 h with rfl | h
    · omega
    · have := ih h; omega


def liveE (l : List Ent) : List Ent := l.filter (fun e => !e.g)
theorem liveE_len (l : List Ent) : (liveE l).length ≤ l.length := List.length_filter_le _ _
theorem liveE_snoc (l : List Ent) (e : Ent) : liveE (l ++ [e]) = if e.g then liveE l else liveE l ++ [e] := by
  cases h : e.g <;> simp [liveE, List.filter_append, h]


/-- What a list has of a key. -/
def getE (l : List Ent) (key : ByteArray) : Option Ent := l.find? (fun e => decide (e.k = key))

def leB (a b : ByteArray) : Bool := Op.bytesLess a.toList b.toList || a.toList == b.toList
def putStep (e : Ent) (s : List Ent × Bool) (x : Ent) : List Ent × Bool :=
  let s1 := if !s.2 && leB e.k x.k then (s.1 ++ [e], true) else s
  if x.k = e.k then s1 else (s1.1 ++ [x], s1.2)
def putE (l : List Ent) (e : Ent) : List Ent :=
  let s := l.foldl (putStep e) ([], false)
  if s.2 then s.1 else s.1 ++ [e]
theorem putFold_len (e : Ent) (l : List Ent) : (l.foldl (putStep e) ([], false)).1.length ≤ l.length + (if (l.foldl (putStep e) ([], false)).2 then 1 else 0) := by
  induction l using snoc_ind with
  | h0 => simp
  | h1 l x ih =>
    rw [List.foldl_append, List.foldl_cons, List.foldl_nil]
    generalize l.foldl (putStep e) ([], false) = s at ih ⊢
    obtain ⟨zs, ld⟩ := s
    unfold putStep
    generalize leB e.k x.k = t
    by_cases hk : x.k = e.k
    · cases ld <;> cases t <;> simp [hk] at ih ⊢ <;> omega
    · cases ld <;> cases t <;> simp [hk] at ih ⊢ <;> omega
theorem putE_len (l : List Ent) (e : Ent) : (putE l e).length ≤ l.length + 1 := by
  have := putFold_len e l
  unfold putE
  generalize l.foldl (putStep e) ([], false) = s at this ⊢
  obtain ⟨zs, ld⟩ := s
  cases ld <;> simp at this ⊢ <;> omega
theorem putFold_ok (e : Ent) (he : EntOk e) (l : List Ent) (hl : ∀ x ∈ l, EntOk x) : ∀ x ∈ (l.foldl (putStep e) ([], false)).1, EntOk x := by
  induction l using snoc_ind with
  | h0 => simp
  | h1 l x ih =>
    rw [List.foldl_append, List.foldl_cons, List.foldl_nil]
    have ih' := ih (fun y hy => hl y (by simp [hy]))
    have hx := hl x (by simp)
    generalize l.foldl (putStep e) ([], false) = s at ih' ⊢
    obtain ⟨zs, ld⟩ := s
    intro y hy
    simp only [putStep] at hy
    split at hy <;> split at hy
    · simp at hy; rcases hy with h | rfl
      · exact ih' y h
      · exact he
    · exact ih' y hy
    · simp at hy; rcases hy with h | rfl | rfl
      · exact ih' y h
      · exact he
      · exact hx
    · simp at hy; rcases hy with h | rfl
      · exact ih' y h
      · exact hx
theorem putE_ok (l : List Ent) (e : Ent) (he : EntOk e) (hl : ∀ x ∈ l, EntOk x) : ∀ x ∈ putE l e, EntOk x := by
  have := putFold_ok e he l hl
  unfold putE
  generalize l.foldl (putStep e) ([], false) = s at this ⊢
  intro y hy
  simp only at hy
  split at hy
  · exact this y hy
  · simp at hy; rcases hy with h | rfl
    · exact this y h
    · exact he


/-! ### the order of texts -/
theorem bl_irrefl : ∀ x : List UInt8, Op.bytesLess x x = false
  | [] => rfl
  | a :: x => by simp [Op.bytesLess, bl_irrefl x]
theorem bl_trans : ∀ x y z : List UInt8, Op.bytesLess x y = true → Op.bytesLess y z = true → Op.bytesLess x z = true
  | _, [], _, h, _ => by simp [Op.bytesLess] at h
  | _, _ :: _, [], _, h => by simp [Op.bytesLess] at h
  | [], _ :: _, _ :: _, _, _ => rfl
  | a :: x, b :: y, c :: z, h1, h2 => by
    simp only [Op.bytesLess, Bool.or_eq_true, Bool.and_eq_true, decide_eq_true_eq, beq_iff_eq] at h1 h2 ⊢
    rcases h1 with h1 | ⟨rfl, h1⟩
    · rcases h2 with h2 | ⟨rfl, h2⟩
      · exact .inl (UInt8.lt_trans h1 h2)
      · exact .inl h1
    · rcases h2 with h2 | ⟨rfl, h2⟩
      · exact .inl h2
      · exact .inr ⟨rfl, bl_trans x y z h1 h2⟩
theorem bl_tri : ∀ x y : List UInt8, Op.bytesLess x y = false → Op.bytesLess y x = false → x = y
  | [], [], _, _ => rfl
  | [], _ :: _, h, _ => by simp [Op.bytesLess] at h
  | _ :: _, [], _, h => by simp [Op.bytesLess] at h
  | a :: x, b :: y, h1, h2 => by
    simp only [Op.bytesLess, Bool.or_eq_false_iff, Bool.and_eq_false_iff, decide_eq_false_iff_not, beq_eq_false_iff_ne] at h1 h2
    have hab : a = b := by
      have h3 := UInt8.not_lt.1 h1.1
      have h4 := UInt8.not_lt.1 h2.1
      exact UInt8.le_antisymm h4 h3
    subst hab
    rcases h1.2 with h | h
    · exact absurd rfl h
    · rcases h2.2 with h' | h'
      · exact absurd rfl h'
      · rw [bl_tri x y h h']
theorem ltB_irrefl (a : ByteArray) : ltB a a = false := bl_irrefl _
theorem ltB_trans {a b c : ByteArray} (h1 : ltB a b = true) (h2 : ltB b c = true) : ltB a c = true := bl_trans _ _ _ h1 h2
theorem ba_beq (a b : ByteArray) : (a.toList == b.toList) = decide (a = b) := by
  rw [← Go.beq_toListBytes]
  obtain ⟨x⟩ := a
  obtain ⟨y⟩ := b
  show (x == y) = _
  by_cases h : x = y <;> simp [h]
theorem toList_inj (a b : ByteArray) : a.toList = b.toList ↔ a = b := by
  have h := ba_beq a b
  constructor
  · intro e; rw [e] at h; simpa using h.symm
  · intro e; rw [e]
theorem ltB_tri {a b : ByteArray} (h1 : ltB a b = false) (h2 : ltB b a = false) : a = b := (toList_inj a b).1 (bl_tri _ _ h1 h2)
theorem ltB_asymm {a b : ByteArray} (h : ltB a b = true) : ltB b a = false := by
  cases h2 : ltB b a
  · rfl
  · have := ltB_trans h h2; rw [ltB_irrefl] at this; cases this
theorem ltB_ne {a b : ByteArray} (h : ltB a b = true) : a ≠ b := by
  rintro rfl; rw [ltB_irrefl] at h; cases h

/-! ### lists that rise -/
def Rises (l : List Ent) : Prop := l.Pairwise (fun a b => ltB a.k b.k = true)
theorem rises_cons {x : Ent} {l : List Ent} : Rises (x :: l) ↔ (∀ y ∈ l, ltB x.k y.k = true) ∧ Rises l := List.pairwise_cons
theorem getE_cons (x : Ent) (l : List Ent) (k : ByteArray) : getE (x :: l) k = if x.k = k then some x else getE l k := by
  unfold getE
  rw [List.find?_cons]
  by_cases h : x.k = k <;> simp [h]
theorem getE_none_of_lt {l : List Ent} {k : ByteArray} (h : ∀ y ∈ l, ltB k y.k = true) : getE l k = none := by
  unfold getE
  rw [List.find?_eq_none]
  intro y hy
  simp only [decide_eq_true_eq]
  intro e
  exact ltB_ne (h y hy) e.symm
theorem getE_mem {l : List Ent} {k : ByteArray} {e : Ent} (h : getE l k = some e) : e ∈ l ∧ e.k = k := by
  unfold getE at h
  exact ⟨List.mem_of_find?_eq_some h, by simpa using List.find?_some h⟩
theorem getE_of_mem {l : List Ent} (hl : Rises l) {e : Ent} (h : e ∈ l) : getE l e.k = some e := by
  induction l with
  | nil => cases h
  | cons x l ih =>
    rw [rises_cons] at hl
    rw [getE_cons]
    rcases List.mem_cons.1 h with rfl | h
    · rw [if_pos rfl]
    · rw [if_neg (ltB_ne (hl.1 e h)), ih hl.2 h]
theorem rises_ext : ∀ {a b : List Ent}, Rises a → Rises b → (∀ k, getE a k = getE b k) → a = b
  | [], [], _, _, _ => rfl
  | [], y :: b, _, _, h => by have := h y.k; rw [getE_cons, if_pos rfl] at this; cases this
  | x :: a, [], _, _, h => by have := h x.k; rw [getE_cons, if_pos rfl] at this; cases this
  | x :: a, y :: b, ha, hb, h => by
    rw [rises_cons] at ha hb
    have hxy : x.k = y.k := by
      apply ltB_tri
      · cases hlt : ltB x.k y.k
        · rfl
        · have h1 := h x.k
          rw [getE_cons, if_pos rfl, getE_cons, if_neg (Ne.symm (ltB_ne hlt)), getE_none_of_lt (fun z hz => ltB_trans hlt (hb.1 z hz))] at h1
          cases h1
      · cases hlt : ltB y.k x.k
        · rfl
        · have h1 := h y.k
          rw [getE_cons, if_neg (Ne.symm (ltB_ne hlt)), getE_none_of_lt (fun z hz => ltB_trans hlt (ha.1 z hz)), getE_cons, if_pos rfl] at h1
          cases h1
    have h1 := h x.k
    rw [getE_cons, if_pos rfl, getE_cons, if_pos hxy.symm] at h1
    obtain rfl := Option.some.inj h1
    congr 1
    refine rises_ext ha.2 hb.2 fun k => ?_
    by_cases hk : x.k = k
    · subst hk
      rw [getE_none_of_lt ha.1, getE_none_of_lt hb.1]
    · have := h k
      rw [getE_cons, if_neg hk, getE_cons, if_neg hk] at this
      exact this

theorem lt_merge2 {k : ByteArray} {a b : List Ent} (ha : ∀ y ∈ a, ltB k y.k = true) (hb : ∀ y ∈ b, ltB k y.k = true) : ∀ y ∈ merge2 a b, ltB k y.k = true := fun y hy =>
  (mem_merge2 y _ a b (Nat.le_refl _) hy).elim (ha y) (hb y)
theorem merge2_rises : ∀ (n : Nat) (a b : List Ent), a.length + b.length ≤ n → Rises a → Rises b → Rises (merge2 a b) := by
  intro n
  induction n with
  | zero =>
    intro a b h _ _
    have h1 : a = [] := List.eq_nil_of_length_eq_zero (by omega)
    have h2 : b = [] := List.eq_nil_of_length_eq_zero (by omega)
    subst h1; subst h2; simp [merge2, Rises]
  | succ n ih =>
    intro a b h ha hb
    match a, b with
    | [], b => simpa [merge2] using hb
    | x :: a, [] => simpa [merge2] using ha
    | x :: a, y :: b =>
      simp only [List.length_cons] at h
      have ha' := rises_cons.1 ha
      have hb' := rises_cons.1 hb
      rw [merge2]
      split
      · rename_i hlt
        refine rises_cons.2 ⟨lt_merge2 ha'.1 (fun z hz => ?_), ih a (y :: b) (by simp; omega) ha'.2 hb⟩
        rcases List.mem_cons.1 hz with rfl | hz
        · exact hlt
        · exact ltB_trans hlt (hb'.1 z hz)
      · split
        · rename_i hlt
          refine rises_cons.2 ⟨lt_merge2 (fun z hz => ?_) hb'.1, ih (x :: a) b (by simp; omega) ha hb'.2⟩
          rcases List.mem_cons.1 hz with rfl | hz
          · exact hlt
          · exact ltB_trans hlt (ha'.1 z hz)
        · rename_i h1 h2
          have e := ltB_tri (by simpa using h1) (by simpa using h2)
          refine rises_cons.2 ⟨lt_merge2 ha'.1 (fun z hz => by rw [e]; exact hb'.1 z hz), ih a b (by omega) ha'.2 hb'.2⟩
theorem merge2_get : ∀ (n : Nat) (a b : List Ent), a.length + b.length ≤ n → Rises a → Rises b → ∀ k, getE (merge2 a b) k = (getE a k).or (getE b k) := by
  intro n
  induction n with
  | zero =>
    intro a b h _ _ k
    have h1 : a = [] := List.eq_nil_of_length_eq_zero (by omega)
    have h2 : b = [] := List.eq_nil_of_length_eq_zero (by omega)
    subst h1; subst h2; simp [merge2, getE]
  | succ n ih =>
    intro a b h ha hb k
    match a, b with
    | [], b => simp [merge2, getE]
    | x :: a, [] => simp [merge2]; rw [show getE [] k = none from rfl, Option.or_none]
    | x :: a, y :: b =>
      simp only [List.length_cons] at h
      have ha' := rises_cons.1 ha
      have hb' := rises_cons.1 hb
      rw [merge2]
      split
      · rename_i hlt
        rw [getE_cons, ih a (y :: b) (by simp; omega) ha'.2 hb, getE_cons x a]
        split <;> simp
      · split
        · rename_i hlt
          rw [getE_cons, ih (x :: a) b (by simp; omega) ha hb'.2, getE_cons y b]
          by_cases hk : y.k = k
          · subst hk
            rw [if_pos rfl, if_pos rfl, getE_none_of_lt (l := x :: a) (fun z hz => by
              rcases List.mem_cons.1 hz with rfl | hz
              · exact hlt
              · exact ltB_trans hlt (ha'.1 z hz))]
            rfl
          · rw [if_neg hk, if_neg hk]
        · rename_i h1 h2
          have e := ltB_tri (by simpa using h1) (by simpa using h2)
          rw [getE_cons, ih a b (by omega) ha'.2 hb'.2, getE_cons x a, getE_cons y b]
          by_cases hk : x.k = k
          · rw [if_pos hk, if_pos hk]; rfl
          · rw [if_neg hk, if_neg hk, if_neg (by rw [← e]; exact hk)]
theorem rises_merge2 {a b : List Ent} (ha : Rises a) (hb : Rises b) : Rises (merge2 a b) := merge2_rises _ a b (Nat.le_refl _) ha hb
theorem get_merge2 {a b : List Ent} (ha : Rises a) (hb : Rises b) (k : ByteArray) : getE (merge2 a b) k = (getE a k).or (getE b k) := merge2_get _ a b (Nat.le_refl _) ha hb k
theorem rises_mergeAll {ls : List (List Ent)} (h : ∀ l ∈ ls, Rises l) : Rises (mergeAll ls) := by
  induction ls with
  | nil => simp [mergeAll, Rises]
  | cons l ls ih => exact rises_merge2 (h l (by simp)) (ih fun x hx => h x (by simp [hx]))
theorem rises_live {l : List Ent} (h : Rises l) : Rises (liveE l) := List.Pairwise.filter _ h
theorem get_live {l : List Ent} (h : Rises l) (k : ByteArray) : getE (liveE l) k = (getE l k).filter (fun e => !e.g) := by
  induction l with
  | nil => rfl
  | cons x l ih =>
    rw [rises_cons] at h
    rw [getE_cons]
    cases hg : x.g
    · have e : liveE (x :: l) = x :: liveE l := by simp [liveE, hg]
      rw [e, getE_cons, ih h.2]
      by_cases hk : x.k = k
      · rw [if_pos hk, if_pos hk]; simp [Option.filter, hg]
      · rw [if_neg hk, if_neg hk]
    · have e : liveE (x :: l) = liveE l := by simp [liveE, hg]
      rw [e, ih h.2]
      by_cases hk : x.k = k
      · rw [if_pos hk, getE_none_of_lt (by subst hk; exact h.1)]; simp [Option.filter, hg]
      · rw [if_neg hk]

/-! ### an entry put among others -/
theorem leB_eq (a b : ByteArray) : leB a b = !(ltB b a) := by
  unfold leB
  rw [ba_beq]
  by_cases h : a = b
  · subst h; simp [ltB_irrefl]
  · cases h1 : ltB b a
    · cases h2 : ltB a b
      · exact absurd (ltB_tri h2 h1) h
      · have : Op.bytesLess a.toList b.toList = true := h2
        simp [this]
    · have h2 := ltB_asymm h1
      have : Op.bytesLess a.toList b.toList = false := h2
      simp [this, h]
/-- Once the entry is laid, what follows is taken as it is, but for its own key. -/
theorem putFold_laid (e : Ent) (l zs : List Ent) (h : ∀ x ∈ l, x.k ≠ e.k) : l.foldl (putStep e) (zs, true) = (zs ++ l, true) := by
  induction l generalizing zs with
  | nil => simp
  | cons x l ih =>
    rw [List.foldl_cons, putStep]
    simp only [Bool.not_true, Bool.false_and, Bool.false_eq_true, if_false, if_neg (h x (by simp))]
    rw [ih _ (fun y hy => h y (by simp [hy]))]
    simp
theorem putE_cons (e x : Ent) (l : List Ent) (hx : Rises (x :: l)) (zs : List Ent) :
    (let s := (x :: l).foldl (putStep e) (zs, false); if s.2 then s.1 else s.1 ++ [e]) = zs ++ merge2 [e] (x :: l) := by
  induction l generalizing x zs with
  | nil =>
    simp only [List.foldl_cons, List.foldl_nil, putStep, Bool.not_false, Bool.true_and, leB_eq]
    rw [merge2]
    cases h1 : ltB e.k x.k
    · cases h2 : ltB x.k e.k
      · have hk := ltB_tri h1 h2
        simp [hk.symm, merge2]
      · have hk := ltB_ne h2
        simp [hk, merge2]
    · have h2 := ltB_asymm h1
      have hk := (ltB_ne h1).symm
      simp [h2, hk, merge2]
  | cons y l ih =>
    have hx' := rises_cons.1 hx
    rw [List.foldl_cons, merge2]
    cases h1 : ltB e.k x.k
    · cases h2 : ltB x.k e.k
      · have hk := ltB_tri h1 h2
        have hs : putStep e (zs, false) x = (zs ++ [e], true) := by simp [putStep, leB_eq, hk.symm, ltB_irrefl]
        rw [hs, putFold_laid e (y :: l) _ (fun z hz => by rw [hk]; exact (ltB_ne (hx'.1 z hz)).symm)]
        simp [merge2]
      · have hk := ltB_ne h2
        have hs : putStep e (zs, false) x = (zs ++ [x], false) := by simp [putStep, leB_eq, h2, hk]
        rw [hs, ih y hx'.2]
        simp
    · have h2 := ltB_asymm h1
      have hk := (ltB_ne h1).symm
      have hs : putStep e (zs, false) x = (zs ++ [e] ++ [x], true) := by simp [putStep, leB_eq, h2, hk]
      rw [hs, putFold_laid e (y :: l) _ (fun z hz => (ltB_ne (ltB_trans h1 (hx'.1 z hz))).symm)]
      simp [merge2]
theorem putE_eq (e : Ent) (l : List Ent) (h : Rises l) : putE l e = merge2 [e] l := by
  cases l with
  | nil => simp [putE, merge2]
  | cons x l => have := putE_cons e x l h []; simpa [putE] using this
theorem rises_one (e : Ent) : Rises [e] := by simp [Rises]
theorem rises_put {l : List Ent} (h : Rises l) (e : Ent) : Rises (putE l e) := by rw [putE_eq e l h]; exact rises_merge2 (rises_one e) h
theorem get_put {l : List Ent} (h : Rises l) (e : Ent) (k : ByteArray) : getE (putE l e) k = if e.k = k then some e else getE l k := by
  rw [putE_eq e l h, get_merge2 (rises_one e) h, getE_cons]
  by_cases hk : e.k = k <;> simp [hk, getE]
/-- All of a list, put among others one behind the other. -/
theorem foldl_put {l acc : List Ent} (hl : Rises l) (ha : Rises acc) : Rises (l.foldl putE acc) ∧ ∀ k, getE (l.foldl putE acc) k = (getE l k).or (getE acc k) := by
  induction l generalizing acc with
  | nil => exact ⟨ha, fun k => rfl⟩
  | cons x l ih =>
    have hl' := rises_cons.1 hl
    obtain ⟨h1, h2⟩ := ih hl'.2 (rises_put ha x)
    refine ⟨h1, fun k => ?_⟩
    rw [List.foldl_cons, h2, get_put ha, getE_cons]
    by_cases hk : x.k = k
    · subst hk
      rw [if_pos rfl, if_pos rfl, getE_none_of_lt hl'.1]; rfl
    · rw [if_neg hk, if_neg hk]
theorem foldl_put_eq {l acc : List Ent} (hl : Rises l) (ha : Rises acc) : l.foldl putE acc = merge2 l acc :=
  rises_ext (foldl_put hl ha).1 (rises_merge2 hl ha) fun k => by rw [(foldl_put hl ha).2, get_merge2 hl ha]
def putAll (ls : List (List Ent)) : List Ent := ls.foldr (fun l acc => l.foldl putE acc) []
theorem putAll_eq {ls : List (List Ent)} (h : ∀ l ∈ ls, Rises l) : putAll ls = mergeAll ls := by
  induction ls with
  | nil => rfl
  | cons l ls ih =>
    have h1 := ih fun x hx => h x (by simp [hx])
    show l.foldl putE (putAll ls) = merge2 l (mergeAll ls)
    rw [h1]
    exact foldl_put_eq (h l (by simp)) (rises_mergeAll fun x hx => h x (by simp [hx]))
end Go.Proofs.YtaepdbkfaoiimabGreatDoor
/- The contracts of the plain helpers of the statements: SameEntries, LightEntries. Conditions: none but the sizes of any memory. -/
set_option linter.unusedVariables false
set_option linter.unusedSimpArgs false
namespace Go.Proofs.YtaepdbkfaoiimabGreatDoor
open Go.RowKit

/-- '==' of two entries. -/
theorem eq_ent (x y : Ent) (w : World) : (Op.equalIn 10000 56 (.agg #[.string x.k, .string x.v, .bool x.g]) (.agg #[.string y.k, .string y.v, .bool y.g])).run Tryz.prog w = .ok (decide (x = y)) w := by
  have u1 := Tryz.underlying9
  have a1 := Tryz.isAgg9
  have z1 := Tryz.sizeOf9
  have u2 := Tryz.underlying4
  have a2 := Tryz.isAgg4
  have z2 := Tryz.sizeOf4
  have hS : Tryz.prog.underlying 56 = some (.struct (Tryz.prog.fieldsOf 56)) := by kernel_rfl
  have hp : Tryz.prog.stoodInHeld 56 = false := by kernel_rfl
  rw [show (10000 : Nat) = 9999 + 1 from rfl, run_equalIn_agg w 9999 _ _ _ hS hp]
  simp only [Program.fieldsOf, Tryz.underlying56]
  go_simp
  simp only [toList_inj]
  obtain ⟨k, v, g⟩ := x
  obtain ⟨k', v', g'⟩ := y
  by_cases h1 : k = k' <;> by_cases h2 : v = v' <;> by_cases h3 : g = g' <;> simp [h1, h2, h3]
theorem guard_ent (op : BinOp) (a b : Operand) (x y : Ent) (w : World) : (eqGuard op 56 a b (.agg #[.string x.k, .string x.v, .bool x.g]) (.agg #[.string y.k, .string y.v, .bool y.g])).run Tryz.prog w = .ok () w :=
  run_eqGuard_agg w op _ a b _ _ (by kernel_rfl)
theorem eql_ent (x y : Ent) (w : World) : (binOp .eql 56 (.agg #[.string x.k, .string x.v, .bool x.g]) (.agg #[.string y.k, .string y.v, .bool y.g])).run Tryz.prog w = .ok (.bool (decide (x = y))) w := by
  rw [run_eql_struct, eq_ent]; rfl
theorem neq_ent (x y : Ent) (w : World) : (binOp .neq 56 (.agg #[.string x.k, .string x.v, .bool x.g]) (.agg #[.string y.k, .string y.v, .bool y.g])).run Tryz.prog w = .ok (.bool (!decide (x = y))) w := by
  rw [run_neq_struct, eq_ent]; rfl
attribute [local go_sem ↓] neq_ent eql_ent

def lightE (n : Int) (l : List Ent) : Bool := decide ((l.length : Int) ≤ n) && l.all (fun e => decide (e.k.size ≤ 20) && decide (e.v.size ≤ 30))
theorem lightE_out {m : Int} {l : List Ent} (h : lightE m l = true) : (l.length : Int) ≤ m ∧ ∀ e ∈ l, e.k.size ≤ 20 ∧ e.v.size ≤ 30 := by
  simp only [lightE, Bool.and_eq_true, decide_eq_true_eq, List.all_eq_true] at h
  exact h

end Go.Proofs.YtaepdbkfaoiimabGreatDoor
/- The contracts of package entry and of its reference: Check, Bytes, Parse. Conditions: none but the sizes of any memory. -/
set_option linter.unusedVariables false
set_option linter.unusedSimpArgs false
set_option linter.unnecessarySimpa false
namespace Go.Proofs.YtaepdbkfaoiimabGreatDoor
open Go.RowKit

/-- What is wrong with an entry: its number; 0: nothing. -/
def faultE (e : Ent) : Nat := if e.k.toList = [] ∨ (e.g = true ∧ e.v.toList ≠ []) then 3 else if 8 < e.k.size ∨ 16 < e.v.size then 2 else 0
/-- An error by its number. -/
def errV (n : Nat) : Value := if n = 0 then .nilIface else .iface 39 (.int .i64 n)
theorem fault3 {k v : ByteArray} {g : Bool} (h : k.toList = [] ∨ (g = true ∧ v.toList ≠ [])) : faultE ⟨k, v, g⟩ = 3 := if_pos h
theorem fault2 {k v : ByteArray} {g : Bool} (h : ¬(k.toList = [] ∨ (g = true ∧ v.toList ≠ []))) (h2 : 8 < k.size ∨ 16 < v.size) : faultE ⟨k, v, g⟩ = 2 := by
  unfold faultE; rw [if_neg h, if_pos h2]
theorem fault0 {k v : ByteArray} {g : Bool} (h : ¬(k.toList = [] ∨ (g = true ∧ v.toList ≠ []))) (h2 : ¬(8 < k.size ∨ 16 < v.size)) : faultE ⟨k, v, g⟩ = 0 := by
  unfold faultE; rw [if_neg h, if_neg h2]
theorem faultE_le (e : Ent) : faultE e ≤ 3 := by unfold faultE; split <;> (try split) <;> omega

set_option maxHeartbeats 1000000 in
theorem check_any (e : Ent) (w : World) :
    Calls Tryz.prog 88 #[.agg #[.string e.k, .string e.v, .bool e.g]] w fun d w' => d = .returned (errV (faultE e)) ∧ Below w.heap.size w w' := by
  obtain ⟨k, v, g⟩ := e
  go_enter Tryz.func88, Tryz.ntmps88
  go_wp2_with fail
  all_goals
    go_ret
    refine ⟨?_, (Below.refl _ _).alloc (Nat.le_refl _) _⟩
    first
      | (rw [fault3 (by simp_all)]; rfl)
      | (rw [fault2 (by simp_all) (by omega)]; rfl)
      | (rw [fault0 (by simp_all) (by omega)]; rfl)

set_option maxHeartbeats 1000000 in
theorem rfault_any (e : Ent) (w : World) :
    Calls Tryz.prog 70 #[.agg #[.string e.k, .string e.v, .bool e.g]] w fun d w' => d = .returned (.int .i64 (faultE e)) ∧ Below w.heap.size w w' := by
  obtain ⟨k, v, g⟩ := e
  go_enter Tryz.func70, Tryz.ntmps70
  go_wp2_with fail
  all_goals
    go_ret
    refine ⟨?_, (Below.refl _ _).alloc (Nat.le_refl _) _⟩
    first
      | (rw [fault3 (by simp_all)]; rfl)
      | (rw [fault2 (by simp_all) (by omega)]; rfl)
      | (rw [fault0 (by simp_all) (by omega)]; rfl)
theorem assert_err (v : Value) (w : World) : (Instr.typeAssert (.iface 39 v) 25 39 true).run Tryz.prog w = .ok (.tuple #[v, .bool true]) w := by kernel_rfl
attribute [local go_sem] assert_err
set_option maxHeartbeats 1000000 in
theorem same_err (n m : Nat) (w : World) :
    Calls Tryz.prog 6 #[errV n, .int .i64 m] w fun d w' => d = .returned (.bool (decide (n = m))) ∧ w = w' := by
  unfold errV
  split
  · rename_i h
    subst h
    go_enter Tryz.func6, Tryz.ntmps6
    go_wp2_with fail
    go_ret
    exact ⟨ret_bool (by rw [Bool.eq_iff_iff]; simp; omega), rfl⟩
  · rename_i h
    go_enter Tryz.func6, Tryz.ntmps6
    set_option maxRecDepth 20000 in
    go_wp2_with fail
    all_goals
      go_ret
      exact ⟨ret_bool (by rw [Bool.eq_iff_iff]; simp; omega), rfl⟩

/-! ### Bytes -/
def gB (g : Bool) : Int := if g then 1 else 0
def entB (e : Ent) : ByteArray := (strOfNums [gB e.g, (e.k.size : Int), (e.v.size : Int)] ++ e.k) ++ e.v
def bytesL (n : Nat) (l : List Ent) : ByteArray := l.foldl (fun s e => s ++ entB e) (strOfNums [(n : Int)])
def ff : List Ent → Nat
  | [] => 0
  | e :: l => if faultE e = 0 then ff l else faultE e
def bytesF (l : List Ent) : Nat := if ff l = 0 then (if 64 < (bytesL l.length l).size then 2 else 0) else ff l
def bytesS (l : List Ent) : ByteArray := if bytesF l = 0 then bytesL l.length l else ByteArray.empty
theorem bytesL_snoc (n : Nat) (l : List Ent) (e : Ent) : bytesL n (l ++ [e]) = bytesL n l ++ entB e := by unfold bytesL; rw [List.foldl_append]; rfl
theorem faultE_zero {e : Ent} (h : faultE e = 0) : e.k.toList ≠ [] ∧ (e.g = true → e.v.toList = []) ∧ e.k.size ≤ 8 ∧ e.v.size ≤ 16 := by
  unfold faultE at h
  split at h
  · omega
  · split at h
    · omega
    · rename_i h1 h2
      refine ⟨fun h => h1 (.inl h), fun hg => ?_, by omega, by omega⟩
      cases hv : e.v.toList with
      | nil => rfl
      | cons a b => exact absurd (.inr ⟨hg, by rw [hv]; simp⟩) h1
theorem entB_size (e : Ent) : (entB e).size = 3 + e.k.size + e.v.size := by
  unfold entB; rw [ByteArray.size_append, ByteArray.size_append, strOfNums_size]; rfl
theorem ff_zero : ∀ {l : List Ent}, ff l = 0 ↔ ∀ e ∈ l, faultE e = 0
  | [] => by simp [ff]
  | e :: l => by
    rw [ff]
    split
    · rename_i h; rw [ff_zero]; simp [h]
    · rename_i h; simp [h]
theorem ff_at {l : List Ent} {k : Nat} {e : Ent} (h1 : ∀ x ∈ l.take k, faultE x = 0) (h2 : l[k]? = some e) (h3 : faultE e ≠ 0) : ff l = faultE e := by
  induction l generalizing k with
  | nil => simp at h2
  | cons x l ih =>
    rw [ff]
    cases k with
    | zero => simp at h2; subst h2; rw [if_neg h3]
    | succ k =>
      rw [if_pos (h1 x (by simp))]
      exact ih (k := k) (fun y hy => h1 y (by simp [hy])) (by simpa using h2)
theorem bytesL_size (n : Nat) (l : List Ent) (h : ∀ e ∈ l, faultE e = 0) : (bytesL n l).size ≤ 1 + 27 * l.length := by
  induction l using snoc_ind with
  | h0 => simp [bytesL, strOfNums_size]
  | h1 l x ih =>
    rw [bytesL_snoc, ByteArray.size_append, entB_size]
    have h1 := ih fun e he => h e (by simp [he])
    have h2 := faultE_zero (h x (by simp))
    simp
    omega

theorem conv1 (w : World) (g : Nat) (x : Int) (hg : g = w.heap.size) : (convert 117 9 (.slice (some ⟨g, 0, none⟩) 1 1)).run Tryz.prog (w.alloc (.cells #[.int .u8 x] 5)) = .ok (.string (strOfNums [x])) (w.alloc (.cells #[.int .u8 x] 5)) := by
  subst hg
  refine run_convert_bytes_arg _ _ _ Tryz.underlying117 Tryz.underlying5 _ _ _ _ [x] rfl (fun i hi => ?_) _ Tryz.underlying9
  obtain rfl : i = 0 := by simp at hi; omega
  have := (Blk.new w 5 #[.int .u8 x]).cell 0
  simp
theorem conv3 (w : World) (g : Nat) (x y z : Int) (hg : g = w.heap.size) : (convert 117 9 (.slice (some ⟨g, 0, none⟩) 3 3)).run Tryz.prog (w.alloc (.cells #[.int .u8 x, .int .u8 y, .int .u8 z] 5)) = .ok (.string (strOfNums [x, y, z])) (w.alloc (.cells #[.int .u8 x, .int .u8 y, .int .u8 z] 5)) := by
  subst hg
  refine run_convert_bytes_arg _ _ _ Tryz.underlying117 Tryz.underlying5 _ _ _ _ [x, y, z] rfl (fun i hi => ?_) _ Tryz.underlying9
  have h := (Blk.new w 5 #[.int .u8 x, .int .u8 y, .int .u8 z]).cell i
  match i, hi with
  | 0, _ => simp
  | 1, _ => simp
  | 2, _ => simp
theorem conv3d (w : World) (g : Nat) (x y z : Int) (hg : g = w.heap.size) : (convert 117 9 (.slice (some ⟨g, 0, none⟩) 3 3)).run Tryz.prog (w.alloc (.cells #[.int .u8 x, .int .u8 y, .int .u8 z] 5)).drew = .ok (.string (strOfNums [x, y, z])) (w.alloc (.cells #[.int .u8 x, .int .u8 y, .int .u8 z] 5)).drew := by
  have h := conv3 w.drew g x y z hg
  exact h
attribute [local go_sem] conv1 conv3 conv3d

set_option maxHeartbeats 4000000 in
theorem bytes_any (B : Nat) (v : Value) (l : List Ent) (w : World) (hl : Ents B w v l) (hn : l.length < 256) :
    Calls Tryz.prog 96 #[v] w fun d w' => d = .returned (.tuple #[.string (bytesS l), errV (bytesF l)]) ∧ Below w.heap.size w w' := by
  obtain ⟨A, c, rfl, hc, hc2, hcell⟩ := hl.form
  have HC := Lib.hid hcell
  clear hcell hl
  have u1 : IntKind.u8.wrap (l.length : Int) = (l.length : Int) := by unfold IntKind.wrap; simp [IntKind.signed, IntKind.bits]; omega
  go_enter Tryz.func96, Tryz.ntmps96
  go_wp2_with fail
  go_loopw [4, 16] (fun s i wr => ∃ k : Nat, i = .int .i64 (k : Int) ∧ k ≤ l.length ∧ s = .string (bytesL l.length (l.take k)) ∧ Hid (∀ x ∈ l.take k, faultE x = 0) ∧ Below w.heap.size w wr) (fun _ i _ => l.length - (intOf i).toNat)
  case atStart => exact ⟨0, rfl, Nat.zero_le _, rfl, fun x hx => by simp at hx, (Below.refl _ _).alloc (Nat.le_refl _) _⟩
  case round =>
    obtain ⟨k, rfl, hk, rfl, hok, hbl⟩ := hrel
    have hsz := bytesL_size l.length (l.take k) hok.out
    rw [List.length_take_of_le hk] at hsz
    by_cases hlt : k < l.length
    · obtain ⟨y, hy, hty, _⟩ := getElem?_of_lt hlt
      obtain ⟨b, o, rfl, hb, c1, c2, c3⟩ := HC.out k y hy
      have d1 := (hbl.cell (p := ⟨b, o + k * 3, none⟩) hb).trans c1
      have d2 := (hbl.cell (p := ⟨b, o + k * 3 + 1, none⟩) hb).trans c2
      have d3 := (hbl.cell (p := ⟨b, o + k * 3 + 2, none⟩) hb).trans c3
      have HY := Lib.hid hy
      have HTY := Lib.hid hty
      clear c1 c2 c3 hy hty
      have g1 : (0 : Int) ≤ (k : Int) := by omega
      have g2 : (k : Int) < (l.length : Int) := by omega
      have HB := Lib.hid hbl
      have HB1 := Lib.hid (hbl.alloc hbl.size (.cells #[.string y.k, .string y.v, .bool y.g] 56))
      have HK := Lib.hid (Blk.new wr 56 #[.string y.k, .string y.v, .bool y.g])
      clear hbl
      go_wp2_with fail
      refine (check_any y _).mono ?_
      rintro d w2 ⟨rfl, hb2⟩
      have HK2 := Lib.hid (HK.out.below hb2 (by simp))
      have HB2 := Lib.hid (HB1.out.trans (hb2.mono HB1.out.size))
      have e0 := HK2.out.cell 0
      have e1 := HK2.out.cell 1
      have e2 := HK2.out.cell 2
      simp at e0 e1 e2
      clear d1 d2 d3 hb2 HB HB1 HK
      by_cases hf : faultE y = 0
      · have he : errV (faultE y) = .nilIface := by rw [hf]; rfl
        rw [he]
        have hz := faultE_zero hf
        have HF := Lib.hid hf
        have z1 : y.k.size ≤ 8 := hz.2.2.1
        have z2 : y.v.size ≤ 16 := hz.2.2.2
        have u2 : IntKind.u8.wrap (y.k.size : Int) = (y.k.size : Int) := by unfold IntKind.wrap; simp [IntKind.signed, IntKind.bits]; omega
        have u3 : IntKind.u8.wrap (y.v.size : Int) = (y.v.size : Int) := by unfold IntKind.wrap; simp [IntKind.signed, IntKind.bits]; omega
        have hnx : Hid (bytesL l.length (l.take (k + 1)) = bytesL l.length (l.take k) ++ entB y) := by rw [Hid, HTY.out, bytesL_snoc]
        have hok2 : Hid (∀ x ∈ l.take (k + 1), faultE x = 0) := by
          intro x hx
          rw [HTY.out] at hx
          rcases List.mem_append.1 hx with hx | hx
          · exact hok.out x hx
          · simp at hx; subst hx; exact HF.out
        generalize bytesL l.length (l.take k) = S at *
        clear he hz hf hok HF
        have hgB : ∀ g : Bool, y.g = g → Hid (S ++ entB y = S ++ (strOfNums [gB g, (y.k.size : Int), (y.v.size : Int)] ++ y.k ++ y.v)) := fun g hg => by subst hg; rfl
        cases hg : y.g
        · have f := HK2.out.alloc (.cells #[.int .u8 0, .int .u8 y.k.size, .int .u8 y.v.size] 5)
          have f0 := f.cell 0
          have f1 := f.cell 1
          simp at f0 f1
          have hS := hgB false hg
          have s1 : (strOfNums [0, (y.k.size : Int), (y.v.size : Int)]).size = 3 := strOfNums_size _
          have s2 : (strOfNums [0, (y.k.size : Int), (y.v.size : Int)] ++ y.k).size = 3 + y.k.size := by rw [ByteArray.size_append, s1]
          have s3 : (strOfNums [0, (y.k.size : Int), (y.v.size : Int)] ++ y.k ++ y.v).size = 3 + y.k.size + y.v.size := by rw [ByteArray.size_append, s2]
          rw [hg] at e2
          clear f hgB
          go_wp2_with fail
          go_roundw
          case rel => exact ⟨k + 1, by simp, by omega, by rw [hnx.out, hS.out]; rfl, hok2, HB2.out.alloc HB2.out.size _⟩
          case measure => simp [intOf] <;> omega
        · have f := HK2.out.alloc (.cells #[.int .u8 1, .int .u8 y.k.size, .int .u8 y.v.size] 5)
          have f0 := f.cell 0
          have f1 := f.cell 1
          simp at f0 f1
          have hS := hgB true hg
          have s1 : (strOfNums [1, (y.k.size : Int), (y.v.size : Int)]).size = 3 := strOfNums_size _
          have s2 : (strOfNums [1, (y.k.size : Int), (y.v.size : Int)] ++ y.k).size = 3 + y.k.size := by rw [ByteArray.size_append, s1]
          have s3 : (strOfNums [1, (y.k.size : Int), (y.v.size : Int)] ++ y.k ++ y.v).size = 3 + y.k.size + y.v.size := by rw [ByteArray.size_append, s2]
          rw [hg] at e2
          clear f hgB
          go_wp2_with fail
          go_roundw
          case rel => exact ⟨k + 1, by simp, by omega, by rw [hnx.out, hS.out]; rfl, hok2, HB2.out.alloc HB2.out.size _⟩
          case measure => simp [intOf] <;> omega
      · have hff := ff_at hok.out HY.out hf
        have HF : Hid (bytesF l = faultE y) := by rw [Hid, bytesF, hff, if_neg hf]
        have HS : Hid (bytesS l = ByteArray.empty) := by rw [Hid, bytesS, HF.out, if_neg hf]
        have he : errV (faultE y) = .iface 39 (.int .i64 (faultE y)) := by unfold errV; rw [if_neg hf]
        rw [he]
        have HE := Lib.hid he
        clear he hff hf hok
        go_wp2_with fail
        exact bodyPost_ret (v := .tuple #[.string ByteArray.empty, .iface 39 (.int .i64 (faultE y))]) (by simp [results, Tryz.results96, go_sem] <;> rfl) rfl ⟨by rw [HF.out, HS.out, HE.out], HB2.out⟩
    · have hkl : k = l.length := by omega
      subst hkl
      rw [List.take_length] at hok hsz
      have hff := ff_zero.2 hok.out
      rw [List.take_length]
      by_cases h64 : 64 < (bytesL l.length l).size
      · have HF : Hid (bytesF l = 2) := by rw [Hid, bytesF, if_pos hff, if_pos h64]
        have HS : Hid (bytesS l = ByteArray.empty) := by rw [Hid, bytesS, HF.out]; rfl
        clear hff hok
        go_wp2_with fail
        exact bodyPost_ret (v := .tuple #[.string ByteArray.empty, .iface 39 (.int .i64 2)]) (by simp [results, Tryz.results96, go_sem] <;> rfl) rfl ⟨by rw [HF.out, HS.out]; rfl, hbl⟩
      · have HF : Hid (bytesF l = 0) := by rw [Hid, bytesF, if_pos hff, if_neg h64]
        have HS : Hid (bytesS l = bytesL l.length l) := by rw [Hid, bytesS, HF.out]; rfl
        clear hff hok
        go_wp2_with fail
        exact bodyPost_ret (v := .tuple #[.string (bytesL l.length l), .nilIface]) (by simp [results, Tryz.results96, go_sem] <;> rfl) rfl ⟨by rw [HF.out, HS.out]; rfl, hbl⟩
set_option maxHeartbeats 4000000 in
theorem rbytes_any (B : Nat) (v : Value) (l : List Ent) (w : World) (hl : Ents B w v l) (hn : l.length < 256) :
    Calls Tryz.prog 72 #[v] w fun d w' => d = .returned (.tuple #[.string (bytesS l), .int .i64 (bytesF l)]) ∧ Below w.heap.size w w' := by
  obtain ⟨A, c, rfl, hc, hc2, hcell⟩ := hl.form
  have HC := Lib.hid hcell
  clear hcell hl
  have u1 : IntKind.u8.wrap (l.length : Int) = (l.length : Int) := by unfold IntKind.wrap; simp [IntKind.signed, IntKind.bits]; omega
  have u1' : (l.length : Int).tmod 256 = (l.length : Int) := by rw [Int.tmod_eq_emod_of_nonneg (by omega)]; omega
  go_enter Tryz.func72, Tryz.ntmps72
  go_wp2_with fail
  go_loopw [4, 5] (fun s i wr => ∃ k : Nat, i = .int .i64 (k : Int) ∧ k ≤ l.length ∧ s = .string (bytesL l.length (l.take k)) ∧ Hid (∀ x ∈ l.take k, faultE x = 0) ∧ Below w.heap.size w wr) (fun _ i _ => l.length - (intOf i).toNat)
  case atStart => exact ⟨0, rfl, Nat.zero_le _, rfl, fun x hx => by simp at hx, (Below.refl _ _).alloc (Nat.le_refl _) _⟩
  case round =>
    obtain ⟨k, rfl, hk, rfl, hok, hbl⟩ := hrel
    have hsz := bytesL_size l.length (l.take k) hok.out
    rw [List.length_take_of_le hk] at hsz
    by_cases hlt : k < l.length
    · obtain ⟨y, hy, hty, _⟩ := getElem?_of_lt hlt
      obtain ⟨b, o, rfl, hb, c1, c2, c3⟩ := HC.out k y hy
      have HD : Hid (∀ {wx : World}, Below w.heap.size w wx → wx.cell? ⟨b, o + k * 3, none⟩ = some (.string y.k) ∧ wx.cell? ⟨b, o + k * 3 + 1, none⟩ = some (.string y.v) ∧ wx.cell? ⟨b, o + k * 3 + 2, none⟩ = some (.bool y.g)) := by
        intro wx hbl
        exact ⟨(hbl.cell (p := ⟨b, o + k * 3, none⟩) hb).trans c1, (hbl.cell (p := ⟨b, o + k * 3 + 1, none⟩) hb).trans c2, (hbl.cell (p := ⟨b, o + k * 3 + 2, none⟩) hb).trans c3⟩
      obtain ⟨d1, d2, d3⟩ := HD.out hbl
      have HY := Lib.hid hy
      have HTY := Lib.hid hty
      clear c1 c2 c3 hy hty
      have g1 : (0 : Int) ≤ (k : Int) := by omega
      have g2 : (k : Int) < (l.length : Int) := by omega
      have HB := Lib.hid hbl
      clear hbl
      go_wp2_with fail
      refine (rfault_any y _).mono ?_
      rintro d w2 ⟨rfl, hb2⟩
      have hbl2 := HB.out.trans (hb2.mono HB.out.size)
      have HB2 := Lib.hid hbl2
      obtain ⟨e0, e1, e2⟩ := HD.out hbl2
      clear d1 d2 d3 hb2 HB hbl2
      by_cases hf : faultE y = 0
      · have he : (faultE y : Int) = 0 := by omega
        rw [he]
        have hz := faultE_zero hf
        have HF := Lib.hid hf
        have z1 : y.k.size ≤ 8 := hz.2.2.1
        have z2 : y.v.size ≤ 16 := hz.2.2.2
        have u2 : IntKind.u8.wrap (y.k.size : Int) = (y.k.size : Int) := by unfold IntKind.wrap; simp [IntKind.signed, IntKind.bits]; omega
        have u3 : IntKind.u8.wrap (y.v.size : Int) = (y.v.size : Int) := by unfold IntKind.wrap; simp [IntKind.signed, IntKind.bits]; omega
        have hnx : Hid (bytesL l.length (l.take (k + 1)) = bytesL l.length (l.take k) ++ entB y) := by rw [Hid, HTY.out, bytesL_snoc]
        have hok2 : Hid (∀ x ∈ l.take (k + 1), faultE x = 0) := by
          intro x hx
          rw [HTY.out] at hx
          rcases List.mem_append.1 hx with hx | hx
          · exact hok.out x hx
          · simp at hx; subst hx; exact HF.out
        generalize bytesL l.length (l.take k) = S at *
        clear he hz hf hok HF
        have hgB : ∀ g : Bool, y.g = g → Hid (S ++ entB y = S ++ strOfNums [gB g, (y.k.size : Int), (y.v.size : Int)] ++ y.k ++ y.v) := fun g hg => by subst hg; rw [Hid, entB, ByteArray.append_assoc, ByteArray.append_assoc]; rw [ByteArray.append_assoc]
        cases hg : y.g
        · have HBD := Lib.hid ((HB2.out.alloc HB2.out.size (.cells #[.int .u8 0, .int .u8 y.k.size, .int .u8 y.v.size] 5)).drew)
          obtain ⟨f0, f1, f2⟩ := HD.out HBD.out
          have hS := hgB false hg
          have s1 : (strOfNums [0, (y.k.size : Int), (y.v.size : Int)]).size = 3 := strOfNums_size _
          have s2 : (S ++ strOfNums [0, (y.k.size : Int), (y.v.size : Int)]).size = S.size + 3 := by rw [ByteArray.size_append, s1]
          have s3 : (S ++ strOfNums [0, (y.k.size : Int), (y.v.size : Int)] ++ y.k).size = S.size + 3 + y.k.size := by rw [ByteArray.size_append, s2]
          rw [hg] at e2
          clear hgB
          go_wp2_with fail
          go_region
          all_goals
            go_wp2_with fail
            go_roundw
            case rel => exact ⟨k + 1, by simp, by omega, by rw [hnx.out, hS.out]; rfl, hok2, HBD.out⟩
            case measure => simp [intOf] <;> omega
        · have HBD := Lib.hid ((HB2.out.alloc HB2.out.size (.cells #[.int .u8 1, .int .u8 y.k.size, .int .u8 y.v.size] 5)).drew)
          obtain ⟨f0, f1, f2⟩ := HD.out HBD.out
          have hS := hgB true hg
          have s1 : (strOfNums [1, (y.k.size : Int), (y.v.size : Int)]).size = 3 := strOfNums_size _
          have s2 : (S ++ strOfNums [1, (y.k.size : Int), (y.v.size : Int)]).size = S.size + 3 := by rw [ByteArray.size_append, s1]
          have s3 : (S ++ strOfNums [1, (y.k.size : Int), (y.v.size : Int)] ++ y.k).size = S.size + 3 + y.k.size := by rw [ByteArray.size_append, s2]
          rw [hg] at e2
          clear hgB
          go_wp2_with fail
          go_region
          all_goals
            go_wp2_with fail
            go_roundw
            case rel => exact ⟨k + 1, by simp, by omega, by rw [hnx.out, hS.out]; rfl, hok2, HBD.out⟩
            case measure => simp [intOf] <;> omega
      · have hff := ff_at hok.out HY.out hf
        have HF : Hid (bytesF l = faultE y) := by rw [Hid, bytesF, hff, if_neg hf]
        have HS : Hid (bytesS l = ByteArray.empty) := by rw [Hid, bytesS, HF.out, if_neg hf]
        have hp : (0 : Int) < (faultE y : Int) := by omega
        clear hff hf hok
        go_wp2_with fail
        exact bodyPost_ret (v := .tuple #[.string ByteArray.empty, .int .i64 (faultE y)]) (by simp [results, Tryz.results72, go_sem] <;> rfl) rfl ⟨by rw [HF.out, HS.out], HB2.out⟩
    · have hkl : k = l.length := by omega
      subst hkl
      rw [List.take_length] at hok hsz
      have hff := ff_zero.2 hok.out
      rw [List.take_length]
      by_cases h64 : 64 < (bytesL l.length l).size
      · have HF : Hid (bytesF l = 2) := by rw [Hid, bytesF, if_pos hff, if_pos h64]
        have HS : Hid (bytesS l = ByteArray.empty) := by rw [Hid, bytesS, HF.out]; rfl
        clear hff hok
        go_wp2_with fail
        exact bodyPost_ret (v := .tuple #[.string ByteArray.empty, .int .i64 2]) (by simp [results, Tryz.results72, go_sem] <;> rfl) rfl ⟨by rw [HF.out, HS.out]; rfl, hbl⟩
      · have HF : Hid (bytesF l = 0) := by rw [Hid, bytesF, if_pos hff, if_neg h64]
        have HS : Hid (bytesS l = bytesL l.length l) := by rw [Hid, bytesS, HF.out]; rfl
        clear hff hok
        go_wp2_with fail
        exact bodyPost_ret (v := .tuple #[.string (bytesL l.length l), .int .i64 0]) (by simp [results, Tryz.results72, go_sem] <;> rfl) rfl ⟨by rw [HF.out, HS.out]; rfl, hbl⟩
end Go.Proofs.YtaepdbkfaoiimabGreatDoor
/- A slice of slices of entries, as a list of lists. Conditions: none. -/
set_option linter.unusedVariables false
namespace Go.Proofs.YtaepdbkfaoiimabGreatDoor
open Go.RowKit

/-- A slice of lists of entries. -/
def Lss (B : Nat) (w : World) (v : Value) (ls : List (List Ent)) : Prop :=
  ∃ vs : List Value, vs.length = ls.length ∧ Rd B 31 1 w v ls.length vs ∧ ∀ (i : Nat) (u : Value) (l : List Ent), vs[i]? = some u → ls[i]? = some l → Ents B w u l
theorem Lss.below {B : Nat} {w w' : World} {v : Value} {ls : List (List Ent)} (h : Lss B w v ls) (hf : Below w.heap.size w w') : Lss B w' v ls := by
  obtain ⟨vs, h1, h2, h3⟩ := h
  exact ⟨vs, h1, h2.below hf, fun i u l hu hl => (h3 i u l hu hl).below hf⟩
theorem Lss.form {B : Nat} {w : World} {v : Value} {ls : List (List Ent)} (h : Lss B w v ls) : ∃ A c, v = .slice A ls.length c ∧ ls.length ≤ c ∧ c ≤ 9223372036854775807 ∧
    ∀ i l, ls[i]? = some l → ∃ b o u, A = some ⟨b, o, none⟩ ∧ b < w.heap.size ∧ w.cell? ⟨b, o + i, none⟩ = some u ∧ Ents B w u l := by
  obtain ⟨vs, h0, ⟨_, A, c, h1, h2, h3, h4⟩, h5⟩ := h
  refine ⟨A, c, h1, h2, h3, fun i l hi => ?_⟩
  have hlt : i < ls.length := by
    rcases Nat.lt_or_ge i ls.length with h | h
    · exact h
    · rw [List.getElem?_eq_none h] at hi; cases hi
  obtain ⟨b, o, hA, _, hb, hc⟩ := h4 (by omega)
  have hv : vs[i]? = some vs[i] := List.getElem?_eq_getElem (by omega)
  exact ⟨b, o, _, hA, hb, hc i _ hv, h5 i _ l hv hi⟩

end Go.Proofs.YtaepdbkfaoiimabGreatDoor
/- The contracts of package merge: Two, All, Live. Conditions: lists of at most a million entries. -/
set_option linter.unusedVariables false
set_option linter.unusedSimpArgs false
namespace Go.Proofs.YtaepdbkfaoiimabGreatDoor
open Go.RowKit

def lenOf : Value → Nat
  | .slice _ n _ => n
  | _ => 0

theorem info_entry : (Tryz.prog.info? 56).map (fun i => (i.zero, i.size, i.bytes)) = some (some (.agg #[.string ByteArray.empty, .string ByteArray.empty, .bool false]), 3, 40) := by kernel_rfl

/-- A slice of one entry, laid just now. -/
theorem rd_lit (B : Nat) (w : World) (e : Ent) : Rd B 56 3 (w.alloc (.cells #[.string e.k, .string e.v, .bool e.g] 56)) (.slice (some ⟨w.heap.size, 0, none⟩) 1 1) 1 e.cells := by
  have hb := Blk.new w 56 #[.string e.k, .string e.v, .bool e.g]
  refine ⟨rfl, _, _, rfl, Nat.le_refl _, by omega, fun _ => ⟨_, _, rfl, .inr ⟨_, _, hb⟩, hb.lt, fun j u hu => ?_⟩⟩
  rw [hb.cell]
  match j, hu with
  | 0, hu => exact hu
  | 1, hu => exact hu
  | 2, hu => exact hu
theorem rd_lit3 (B : Nat) (w : World) (n : Nat) (hn : w.heap.size = n) (k v : ByteArray) (g : Bool) : Rd B 56 3 (w.alloc (.cells #[.string k, .string v, .bool g] 56)) (.slice (some ⟨n, 0, none⟩) 1 1) 1 [.string k, .string v, .bool g] := by
  subst hn; exact rd_lit B w ⟨k, v, g⟩
theorem ent_one3 (k v : ByteArray) (g : Bool) : ∀ u ∈ [Value.string k, .string v, .bool g], u.oneCell' = true := by simp [Value.oneCell']
theorem ent_one (e : Ent) : ∀ u ∈ e.cells, u.oneCell' = true := by
  intro u hu
  simp only [Ent.cells, List.mem_cons, List.not_mem_nil, or_false] at hu
  rcases hu with rfl | rfl | rfl <;> rfl

set_option maxHeartbeats 1000000 in
theorem two_own (B : Nat) (a b : Value) (la lb : List Ent) (w : World) (ha : Ents B w a la) (hb : Ents B w b lb) (h1 : la.length ≤ 1000000) (h2 : lb.length ≤ 1000000) :
    Calls Tryz.prog 133 #[a, b] w fun e w' => ∃ v, e = .returned v ∧ w'.ownsRow w.heap.size 56 3 v (merge2 la lb).length ((merge2 la lb).flatMap Ent.cells) ∧ Below w.heap.size w w' := by
  go_enter Tryz.func133, Tryz.ntmps133
  have HA : Hid (Ents B w a la) := ha
  have HB : Hid (Ents B w b lb) := hb
  clear ha hb
  go_wp2
  go_loopw [0, 1, 5] (fun a b l wr => ∃ (xs ys zs : List Ent), Hid (Ents B w a xs) ∧ Hid (Ents B w b ys) ∧ xs.length ≤ 1000000 ∧ ys.length ≤ 1000000 ∧ zs.length + xs.length + ys.length ≤ 2000000 ∧ Hid (wr.ownsRow w.heap.size 56 3 l zs.length (zs.flatMap Ent.cells)) ∧ Hid (merge2 la lb = zs ++ merge2 xs ys) ∧ Below w.heap.size w wr) (fun a b _ _ => lenOf a + lenOf b)
  case atStart => exact ⟨la, lb, [], HA, HB, h1, h2, by simp; omega, World.ownsRow_nil _ _ _ _, rfl, Below.refl _ _⟩
  case round =>
    obtain ⟨xs, ys, zs, hA, hB, hx, hy, hxyz, hown, hm, hbl⟩ := hrel
    clear HA HB h1 h2
    cases xs with
    | nil =>
      cases ys with
      | nil =>
        obtain ⟨A, c, rfl, hc, hc2, _⟩ := hA.out.form
        obtain ⟨A', c', rfl, hc', hc2', _⟩ := hB.out.form
        go_wp2
        go_ret
        refine ⟨_, rfl, ?_, hbl⟩
        have e : merge2 la lb = zs := by rw [hm.out]; simp [merge2]
        rw [e]
        exact hown.out
      | cons y ys =>
        obtain ⟨A, c, rfl, hc, hc2, _⟩ := hA.out.form
        obtain ⟨A', c', rfl, hc', hc2', hcell⟩ := hB.out.form
        obtain ⟨b, o, rfl, hbs, c1, c2, c3⟩ := hcell 0 y rfl
        have d1 := (hbl.cell (p := ⟨b, o + 0 * 3, none⟩) hbs).trans c1
        have d2 := (hbl.cell (p := ⟨b, o + 0 * 3 + 1, none⟩) hbs).trans c2
        have d3 := (hbl.cell (p := ⟨b, o + 0 * 3 + 2, none⟩) hbs).trans c3
        clear hcell c1 c2 c3
        simp only [Nat.zero_mul, Nat.add_zero] at d1 d2 d3
        simp only [List.length_cons, List.length_nil] at *
        have t1 : ((ys.length : Int) + 1 == 0) = false := by rw [beq_eq_false_iff_ne]; omega
        go_wp2_with fail
        go_quiet (fail)
        revert nq; intro n1
        go_wp2_with fail
        go_quiet (fail)
        revert nq; intro n2
        obtain ⟨i0, hi, hz0, hz1, hz2⟩ := info_parts info_entry
        have hbs := hbl.size
        have hown' := Lib.hid ((own_alloc (own_drewN hown.out (n1 + n2)) (.cells #[.string y.k, .string y.v, .bool y.g] 56)))
        go_wp2_with (at_builtin; go_loud (refine wpList_append_rd _ rfl (.tmp 67) (.tmp 71) 31 rfl w.heap.size 56 i0 _ 3 40 Tryz.underlying31 hi hz0 hz1 hz2 rfl (by decide) u5 _ _ rfl hown'.out B 56 _ 1 y.cells rfl (rd_lit _ _ y) (ent_one y) (by unfold maxLen; omega) (by omega) (by simp; omega) ?_); intro v1 w1 hown1 hg1 hat1)
        have hb1 := below_own ((below_drewN' hbl (n1 + n2)).alloc hbs _) (Nat.le_refl _) hown'.out hg1
        have hcut := Lib.hid hB.out.cut
        have hown2 : Hid (w1.ownsRow w.heap.size 56 3 v1 (zs ++ [y]).length ((zs ++ [y]).flatMap Ent.cells)) := by
          rw [Hid]; simpa using hown1
        have hm2 : Hid (merge2 la lb = (zs ++ [y]) ++ merge2 [] ys) := by
          rw [Hid, hm.out]; simp [merge2]
        clear hi hz0 hz1 hz2 hg1 hat1 hown1
        go_roundw
        case rel => exact ⟨[], ys, zs ++ [y], hA, hcut, by omega, by omega, by simp; omega, hown2, hm2, hb1⟩
        case measure => simp [lenOf]
    | cons x xs =>
      obtain ⟨A, c, rfl, hc, hc2, hcellx⟩ := hA.out.form
      obtain ⟨bx, ox, rfl, hbx, x1, x2, x3⟩ := hcellx 0 x rfl
      have g1 := (hbl.cell (p := ⟨bx, ox + 0 * 3, none⟩) hbx).trans x1
      have g2 := (hbl.cell (p := ⟨bx, ox + 0 * 3 + 1, none⟩) hbx).trans x2
      have g3 := (hbl.cell (p := ⟨bx, ox + 0 * 3 + 2, none⟩) hbx).trans x3
      clear hcellx x1 x2 x3
      have hcutx := Lib.hid hA.out.cut
      cases ys with
      | nil =>
        obtain ⟨A', c', rfl, hc', hc2', _⟩ := hB.out.form
        simp only [Nat.zero_mul, Nat.add_zero] at g1 g2 g3
        simp only [List.length_cons, List.length_nil] at *
        go_wp2_with fail
        go_quiet (fail)
        revert nq; intro n1
        obtain ⟨i0, hi, hz0, hz1, hz2⟩ := info_parts info_entry
        have hbs := hbl.size
        have hown' := Lib.hid ((own_alloc (own_drewN hown.out (n1)) (.cells #[.string x.k, .string x.v, .bool x.g] 56)))
        go_wp2_with (at_builtin; go_loud (refine wpList_append_rd _ rfl (.tmp 44) (.tmp 48) 31 rfl w.heap.size 56 i0 _ 3 40 Tryz.underlying31 hi hz0 hz1 hz2 rfl (by decide) u5 _ _ rfl hown'.out B 56 _ 1 x.cells rfl (rd_lit _ _ x) (ent_one x) (by unfold maxLen; omega) (by omega) (by simp; omega) ?_); intro v1 w1 hown1 hg1 hat1)
        have hb1 := below_own ((below_drewN' hbl (n1)).alloc hbs _) (Nat.le_refl _) hown'.out hg1
        have hown2 : Hid (w1.ownsRow w.heap.size 56 3 v1 (zs ++ [x]).length ((zs ++ [x]).flatMap Ent.cells)) := by
          rw [Hid]; simpa using hown1
        have hm2 : Hid (merge2 la lb = (zs ++ [x]) ++ merge2 xs []) := by
          rw [Hid, hm.out]; cases xs <;> simp [merge2]
        clear hi hz0 hz1 hz2 hg1 hat1 hown1
        go_roundw
        case rel => exact ⟨xs, [], zs ++ [x], hcutx, hB, by omega, by simp, by simp; omega, hown2, hm2, hb1⟩
        case measure => simp [lenOf]
      | cons y ys =>
        obtain ⟨A', c', rfl, hc', hc2', hcell⟩ := hB.out.form
        obtain ⟨b, o, rfl, hbs, c1, c2, c3⟩ := hcell 0 y rfl
        have d1 := (hbl.cell (p := ⟨b, o + 0 * 3, none⟩) hbs).trans c1
        have d2 := (hbl.cell (p := ⟨b, o + 0 * 3 + 1, none⟩) hbs).trans c2
        have d3 := (hbl.cell (p := ⟨b, o + 0 * 3 + 2, none⟩) hbs).trans c3
        clear hcell c1 c2 c3
        have hcuty := Lib.hid hB.out.cut
        simp only [Nat.zero_mul, Nat.add_zero] at d1 d2 d3 g1 g2 g3
        simp only [List.length_cons, List.length_nil] at *
        have t1 : ((ys.length : Int) + 1 == 0) = false := by rw [beq_eq_false_iff_ne]; omega
        have t2 : ((xs.length : Int) + 1 == 0) = false := by rw [beq_eq_false_iff_ne]; omega
        have t3 : decide ((0 : Int) < (xs.length : Int) + 1) = true := decide_eq_true (by omega)
        by_cases l1 : ltB x.k y.k = true
        · have l1' : Op.bytesLess x.k.toList y.k.toList = true := l1
          have hm2 : Hid (merge2 la lb = (zs ++ [x]) ++ merge2 xs (y :: ys)) := by
            rw [Hid, hm.out, merge2, if_pos l1]; simp
          clear l1
          go_wp2_with fail
          go_quiet (fail)
          revert nq; intro n1
          obtain ⟨i0, hi, hz0, hz1, hz2⟩ := info_parts info_entry
          have hbs := hbl.size
          have hown' := Lib.hid ((own_alloc (own_drewN hown.out (n1)) (.cells #[.string x.k, .string x.v, .bool x.g] 56)))
          go_wp2_with (at_builtin; go_loud (refine wpList_append_rd _ rfl (.tmp 44) (.tmp 48) 31 rfl w.heap.size 56 i0 _ 3 40 Tryz.underlying31 hi hz0 hz1 hz2 rfl (by decide) u5 _ _ rfl hown'.out B 56 _ 1 x.cells rfl (rd_lit _ _ x) (ent_one x) (by unfold maxLen; omega) (by omega) (by simp; omega) ?_); intro v1 w1 hown1 hg1 hat1)
          have hb1 := below_own ((below_drewN' hbl (n1)).alloc hbs _) (Nat.le_refl _) hown'.out hg1
          have hown2 : Hid (w1.ownsRow w.heap.size 56 3 v1 (zs ++ [x]).length ((zs ++ [x]).flatMap Ent.cells)) := by
            rw [Hid]; simpa using hown1
          clear hi hz0 hz1 hz2 hg1 hat1 hown1
          go_roundw
          case rel => exact ⟨xs, y :: ys, zs ++ [x], hcutx, hB, by omega, by simp; omega, by simp; omega, hown2, hm2, hb1⟩
          case measure => simp [lenOf]
        · have l1' : Op.bytesLess x.k.toList y.k.toList = false := by simpa [ltB] using l1
          by_cases l2 : ltB y.k x.k = true
          · have l2' : Op.bytesLess y.k.toList x.k.toList = true := l2
            have hm2 : Hid (merge2 la lb = (zs ++ [y]) ++ merge2 (x :: xs) ys) := by
              rw [Hid, hm.out, merge2, if_neg l1, if_pos l2]; simp
            clear l1 l2
            go_wp2_with fail
            go_quiet (fail)
            revert nq; intro n1
            go_wp2_with fail
            go_quiet (fail)
            revert nq; intro n2
            obtain ⟨i0, hi, hz0, hz1, hz2⟩ := info_parts info_entry
            have hbs := hbl.size
            have hown' := Lib.hid ((own_alloc (own_drewN hown.out (n1 + n2)) (.cells #[.string y.k, .string y.v, .bool y.g] 56)))
            go_wp2_with (at_builtin; go_loud (refine wpList_append_rd _ rfl (.tmp 67) (.tmp 71) 31 rfl w.heap.size 56 i0 _ 3 40 Tryz.underlying31 hi hz0 hz1 hz2 rfl (by decide) u5 _ _ rfl hown'.out B 56 _ 1 y.cells rfl (rd_lit _ _ y) (ent_one y) (by unfold maxLen; omega) (by omega) (by simp; omega) ?_); intro v1 w1 hown1 hg1 hat1)
            have hb1 := below_own ((below_drewN' hbl (n1 + n2)).alloc hbs _) (Nat.le_refl _) hown'.out hg1
            have hown2 : Hid (w1.ownsRow w.heap.size 56 3 v1 (zs ++ [y]).length ((zs ++ [y]).flatMap Ent.cells)) := by
              rw [Hid]; simpa using hown1
            clear hi hz0 hz1 hz2 hg1 hat1 hown1
            go_roundw
            case rel => exact ⟨x :: xs, ys, zs ++ [y], hA, hcuty, by simp; omega, by omega, by simp; omega, hown2, hm2, hb1⟩
            case measure => simp [lenOf]
          · have l2' : Op.bytesLess y.k.toList x.k.toList = false := by simpa [ltB] using l2
            have hm2 : Hid (merge2 la lb = (zs ++ [x]) ++ merge2 xs ys) := by
              rw [Hid, hm.out, merge2, if_neg l1, if_neg l2]; simp
            clear l1 l2
            go_wp2_with fail
            go_quiet (fail)
            revert nq; intro n1
            go_wp2_with fail
            go_quiet (fail)
            revert nq; intro n2
            obtain ⟨i0, hi, hz0, hz1, hz2⟩ := info_parts info_entry
            have hbs := hbl.size
            have hown' := Lib.hid ((own_alloc (own_drewN hown.out (n1 + n2)) (.cells #[.string x.k, .string x.v, .bool x.g] 56)))
            go_wp2_with (at_builtin; go_loud (refine wpList_append_rd _ rfl (.tmp 14) (.tmp 18) 31 rfl w.heap.size 56 i0 _ 3 40 Tryz.underlying31 hi hz0 hz1 hz2 rfl (by decide) u5 _ _ rfl hown'.out B 56 _ 1 x.cells rfl (rd_lit _ _ x) (ent_one x) (by unfold maxLen; omega) (by omega) (by simp; omega) ?_); intro v1 w1 hown1 hg1 hat1)
            have hb1 := below_own ((below_drewN' hbl (n1 + n2)).alloc hbs _) (Nat.le_refl _) hown'.out hg1
            have hown2 : Hid (w1.ownsRow w.heap.size 56 3 v1 (zs ++ [x]).length ((zs ++ [x]).flatMap Ent.cells)) := by
              rw [Hid]; simpa using hown1
            clear hi hz0 hz1 hz2 hg1 hat1 hown1
            go_quiet (fail)
            go_wp2_with fail
            go_roundw
            case rel => exact ⟨xs, ys, zs ++ [x], hcutx, hcuty, by omega, by omega, by simp; omega, hown2, hm2, below_drewN' hb1 _⟩
            case measure => simp [lenOf] <;> omega

theorem two_any (B : Nat) (a b : Value) (la lb : List Ent) (w : World) (ha : Ents B w a la) (hb : Ents B w b lb) (h1 : la.length ≤ 1000000) (h2 : lb.length ≤ 1000000) :
    Calls Tryz.prog 133 #[a, b] w fun e w' => ∃ v, e = .returned v ∧ Ents B w' v (merge2 la lb) ∧ Below w.heap.size w w' :=
  (two_own B a b la lb w ha hb h1 h2).mono fun e w' ⟨v, he, hown, hbl⟩ => ⟨v, he, ⟨Rd.of_own hown, ok_merge2 ha.2 hb.2⟩, hbl⟩

set_option maxHeartbeats 1000000 in
theorem all_any (B : Nat) (v : Value) (ls : List (List Ent)) (w : World) (h : Lss B w v ls) (hs : sumLen ls ≤ 1000000) (hn : ls.length ≤ 1000000) :
    Calls Tryz.prog 106 #[v] w fun e w' => ∃ u, e = .returned u ∧ Ents B w' u (mergeAll ls) ∧ Below w.heap.size w w' := by
  obtain ⟨A, c, rfl, hc, hc2, hcell⟩ := h.form
  have HC := Lib.hid hcell
  clear hcell h
  have HS : Hid (sumLen ls ≤ 1000000) := hs
  clear hs
  go_enter Tryz.func106, Tryz.ntmps106
  go_wp2_with fail
  go_loopw [3, 4] (fun l i wr => ∃ k : Nat, k ≤ ls.length ∧ i = .int .i64 ((k : Int) - 1) ∧ Hid (Ents B wr l (mergeAll (ls.drop k))) ∧ Below w.heap.size w wr) (fun _ i _ => (intOf i + 1).toNat)
  case atStart => exact ⟨ls.length, Nat.le_refl _, by go_num, by rw [List.drop_length]; exact ⟨Rd.nil _ _ _ _, by simp [mergeAll]⟩, Below.refl _ _⟩
  case round =>
    obtain ⟨k, hk, rfl, hl, hbl⟩ := hrel
    cases k with
    | zero =>
      go_wp2_with fail
      go_ret
      exact ⟨_, rfl, hl.out, hbl⟩
    | succ k =>
      obtain ⟨x, hx, _, hdr⟩ := getElem?_of_lt (l := ls) (k := k) (by omega)
      obtain ⟨b, o, u, rfl, hb, hcell, hents⟩ := HC.out k x hx
      have hcell' := (hbl.cell (p := ⟨b, o + k, none⟩) hb).trans hcell
      have hx2 := Nat.le_trans (sumLen_mem (List.mem_of_getElem? hx)) HS.out
      have hd2 := Nat.le_trans (Nat.le_trans (mergeAll_len (ls.drop (k + 1))) (sumLen_drop ls (k + 1))) HS.out
      have HH := Lib.hid (two_any B u _ x _ _ (hents.below hbl) hl.out hx2 hd2)
      have HD := Lib.hid hdr
      clear hcell hents hx hx2 hd2 hdr
      have e1 : (((k + 1 : Nat) : Int) - 1) = (k : Int) := by omega
      rw [e1]
      clear e1
      go_wp2_with (go_at_call 133; refine HH.out.mono ?_; rintro e w1 ⟨v1, rfl, he1, hb1⟩)
      go_roundw
      case rel => exact ⟨k, by omega, by go_num, by rw [HD.out]; exact he1, hbl.trans (hb1.mono hbl.size)⟩
      case measure => simp [intOf] <;> omega

set_option maxHeartbeats 1000000 in
theorem live_any (B : Nat) (v : Value) (l : List Ent) (w : World) (h : Ents B w v l) (hn : l.length ≤ 1000000) :
    Calls Tryz.prog 105 #[v] w fun e w' => ∃ u, e = .returned u ∧ Ents B w' u (liveE l) ∧ Below w.heap.size w w' := by
  obtain ⟨A, c, rfl, hc, hc2, hcell⟩ := h.form
  have HC := Lib.hid hcell
  have HO : Hid (∀ e ∈ l, EntOk e) := h.2
  clear hcell h
  go_enter Tryz.func105, Tryz.ntmps105
  go_wp2_with fail
  go_loopw [3, 8] (fun u i wr => ∃ k m : Nat, k ≤ l.length ∧ i = .int .i64 k ∧ m ≤ k ∧ ∃ zs : List Ent, Hid (zs = liveE (l.take k)) ∧ Hid (zs.length = m) ∧ Hid (wr.ownsRow w.heap.size 56 3 u zs.length (zs.flatMap Ent.cells)) ∧ Below w.heap.size w wr) (fun _ i _ => l.length - (intOf i).toNat)
  case atStart => exact ⟨0, 0, Nat.zero_le _, rfl, Nat.le_refl _, [], rfl, rfl, World.ownsRow_nil _ _ _ _, Below.refl _ _⟩
  case round =>
    obtain ⟨k, m, hk, rfl, hmk, zs, hz, hzl, hown, hbl⟩ := hrel
    by_cases hlt : k < l.length
    · obtain ⟨x, hx, htk, _⟩ := getElem?_of_lt hlt
      obtain ⟨b, o, rfl, hb, c1, c2, c3⟩ := HC.out k x hx
      have d1 := (hbl.cell (p := ⟨b, o + k * 3, none⟩) hb).trans c1
      have d2 := (hbl.cell (p := ⟨b, o + k * 3 + 1, none⟩) hb).trans c2
      have d3 := (hbl.cell (p := ⟨b, o + k * 3 + 2, none⟩) hb).trans c3
      have HT := Lib.hid htk
      clear htk hx c1 c2 c3
      cases hg : x.g
      · obtain ⟨i0, hi, hz0, hz1, hz2⟩ := info_parts info_entry
        have hbs := hbl.size
        rw [hg] at d3
        have hown' := Lib.hid (own_alloc (own_alloc hown.out (.cells #[.string x.k, .string x.v, .bool false] 56)) (.cells #[.string x.k, .string x.v, .bool false] 56))
        have hzl' := hzl.out
        have hzm : zs.length ≤ 1000000 := by omega
        clear hzl'
        have hb0 := (hbl.alloc hbs (.cells #[.string x.k, .string x.v, .bool false] 56)).alloc (by simp; omega) (.cells #[.string x.k, .string x.v, .bool false] 56)
        have hlit := rd_lit3 B (wr.alloc (.cells #[.string x.k, .string x.v, .bool false] 56)) (wr.heap.size + 1) (by simp) x.k x.v false
        have HL := Lib.hid hlit
        have HB0 := Lib.hid hb0
        clear hlit hb0
        go_wp2_with (at_builtin; go_loud (refine wpList_append_rd _ rfl (.tmp 15) (.tmp 17) 31 rfl w.heap.size 56 i0 _ 3 40 Tryz.underlying31 hi hz0 hz1 hz2 rfl (by decide) u3 _ _ rfl hown'.out B 56 _ 1 _ rfl HL.out (ent_one3 _ _ _) (by unfold maxLen; omega) (by omega) (by simp; omega) ?_); intro v1 w1 hown1 hg1 hat1)
        have hb1 := below_own HB0.out (Nat.le_refl _) hown'.out hg1
        have hown2 : Hid (w1.ownsRow w.heap.size 56 3 v1 (zs ++ [x]).length ((zs ++ [x]).flatMap Ent.cells)) := by
          rw [Hid]; simpa [Ent.cells, hg] using hown1
        have hm2 : Hid (zs ++ [x] = liveE (l.take (k + 1))) := by
          rw [Hid, HT.out, liveE_snoc, hg, hz.out]; simp
        clear hi hz0 hz1 hz2 hg1 hat1 hown1
        go_roundw
        case rel => exact ⟨k + 1, m + 1, by omega, by go_num, by omega, zs ++ [x], hm2, by rw [Hid, List.length_append, hzl.out]; rfl, hown2, hb1⟩
        case measure => simp [intOf] <;> omega
      · rw [hg] at d3
        have hbs := hbl.size
        go_wp2_with fail
        go_roundw
        case rel => exact ⟨k + 1, m, by omega, by go_num, by omega, zs, by rw [Hid, HT.out, liveE_snoc, hg]; exact hz.out, hzl, own_alloc hown.out _, hbl.alloc hbs _⟩
        case measure => simp [intOf] <;> omega
    · have hge : l.length ≤ k := by omega
      go_wp2_with fail
      go_ret
      have e : l.take k = l := List.take_of_length_le hge
      have hz' := hz.out
      rw [e] at hz'
      subst hz'
      exact ⟨_, rfl, ⟨Rd.of_own hown.out, fun e he => HO.out e (List.mem_filter.1 he).1⟩, hbl⟩
end Go.Proofs.YtaepdbkfaoiimabGreatDoor
/- The contracts of Parse and its reference. Conditions: none but the sizes of any memory. -/
set_option linter.unusedVariables false
set_option linter.unusedSimpArgs false
namespace Go.Proofs.YtaepdbkfaoiimabGreatDoor
open Go.RowKit

/-- A byte by its place; 0 behind the end. -/
def bt (s : ByteArray) (i : Nat) : Nat := (s.data.toList.getD i 0).toNat
/-- Does no entry lie at this place? -/
def badAt (s : ByteArray) (p : Nat) : Bool := decide (s.size < p + 3) || decide (1 < bt s p) || decide (s.size < p + 3 + bt s (p + 1) + bt s (p + 2))
def entAt (s : ByteArray) (p : Nat) : Ent := ⟨s.extract (p + 3) (p + 3 + bt s (p + 1)), s.extract (p + 3 + bt s (p + 1)) (p + 3 + bt s (p + 1) + bt s (p + 2)), decide (bt s p = 1)⟩
def pStep (s : ByteArray) : Option (List Ent × Nat) → Option (List Ent × Nat)
  | none => none
  | some (l, p) => if badAt s p || decide (faultE (entAt s p) ≠ 0) then none else some (l ++ [entAt s p], p + 3 + bt s (p + 1) + bt s (p + 2))
def pN (s : ByteArray) : Nat → Option (List Ent × Nat)
  | 0 => some ([], 1)
  | n + 1 => pStep s (pN s n)
def parseR (s : ByteArray) : Option (List Ent) :=
  if s.size = 0 then none else
  match pN s (bt s 0) with
  | none => none
  | some (l, p) => if (s.data.toList.drop p).all (· == 0) then some l else none
theorem pN_none {s : ByteArray} {i : Nat} (h : pN s i = none) : ∀ j, i ≤ j → pN s j = none := by
  intro j hj
  induction j with
  | zero => rw [← h]; congr 1; omega
  | succ j ih =>
    rcases Nat.lt_or_ge i (j + 1) with h1 | h1
    · rw [pN, ih (by omega)]; rfl
    · rw [← h]; congr 1; omega
theorem pN_le {s : ByteArray} (hs : 0 < s.size) : ∀ {i : Nat} {l : List Ent} {p : Nat}, pN s i = some (l, p) → 1 ≤ p ∧ p ≤ s.size ∧ l.length = i
  | 0, l, p, h => by simp [pN] at h; obtain ⟨rfl, rfl⟩ := h; simp; omega
  | i + 1, l, p, h => by
    rw [pN] at h
    cases hx : pN s i with
    | none => rw [hx] at h; cases h
    | some x =>
      obtain ⟨l', p'⟩ := x
      rw [hx, pStep] at h
      obtain ⟨h1, h2, h3⟩ := pN_le hs hx
      split at h
      · cases h
      · rename_i hb
        simp only [Option.some.injEq, Prod.mk.injEq] at h
        obtain ⟨rfl, rfl⟩ := h
        simp [badAt] at hb
        refine ⟨by omega, by omega, by simp [h3]⟩

theorem toList_nil (s : ByteArray) : s.toList = [] ↔ s.size = 0 := by
  have h1 : ByteArray.empty.toList = [] := by decide +kernel
  rw [← h1, toList_inj]
  constructor
  · rintro rfl; rfl
  · intro h; exact ByteArray.size_eq_zero_iff.1 h
theorem bt_lt (s : ByteArray) (i : Nat) : bt s i < 256 := UInt8.toNat_lt _
theorem bt_idx (s : ByteArray) (i : Nat) (h : i < s.size) : ((s[i]).toNat : Int) = (bt s i : Int) := by
  unfold bt
  rw [List.getD_eq_getElem?_getD, List.getElem?_eq_getElem (by simpa using h), Option.getD_some]
  rfl
theorem bt_wrap (s : ByteArray) (i : Nat) : wrap64 (bt s i : Int) = (bt s i : Int) := by
  have := bt_lt s i
  exact IntWalk.wrap64_in (bt s i : Int) (by omega)
theorem bt_extract (s : ByteArray) (p n i : Nat) (hn : n = s.size) : bt (s.extract p n) i = bt s (p + i) := by
  subst hn
  unfold bt
  congr 1
  rw [ByteArray.data_extract, List.getD_eq_getElem?_getD, List.getD_eq_getElem?_getD, Array.getElem?_toList, Array.getElem?_toList]
  congr 1
  rw [Array.getElem?_extract]
  split
  · rfl
  · rename_i h
    rw [Array.getElem?_eq_none]
    have : s.size = s.data.size := rfl
    omega
theorem size_extract_ (s : ByteArray) (p : Nat) : (s.extract p s.size).size = s.size - p := by rw [ByteArray.size_extract]; omega
theorem extract_extract_ (s : ByteArray) (p a b : Nat) (h : p + b ≤ s.size) : (s.extract p s.size).extract a b = s.extract (p + a) (p + b) := by
  rw [ByteArray.extract_extract]; congr 1; omega
theorem noughts_iff {s : ByteArray} {p : Nat} : (s.data.toList.drop p).all (· == 0) = true ↔ ∀ i, p ≤ i → i < s.size → bt s i = 0 := by
  have hsz : s.data.toList.length = s.size := Array.length_toList
  rw [List.all_eq_true]
  constructor
  · intro h i h1 h2
    have h3 : s.data.toList[i]? = some (s.data.toList[i]'(by omega)) := List.getElem?_eq_getElem _
    have h4 := h (s.data.toList[i]'(by omega)) (by
      rw [List.mem_iff_getElem?]
      exact ⟨i - p, by rw [List.getElem?_drop, show p + (i - p) = i by omega]; exact h3⟩)
    unfold bt
    rw [List.getD_eq_getElem?_getD, h3, Option.getD_some]
    simp at h4
    simp [h4]
  · intro h x hx
    obtain ⟨j, hj⟩ := List.getElem?_of_mem hx
    rw [List.getElem?_drop] at hj
    have hlt := (List.getElem?_eq_some_iff.1 hj).1
    have h1 := h (p + j) (by omega) (by omega)
    unfold bt at h1
    rw [List.getD_eq_getElem?_getD, hj, Option.getD_some] at h1
    simp
    exact UInt8.toNat_inj.1 (by simpa using h1)
theorem pN_ok {s : ByteArray} : ∀ {i : Nat} {l : List Ent} {p : Nat}, pN s i = some (l, p) → ∀ e ∈ l, EntOk e
  | 0, l, p, h => by simp [pN] at h; obtain ⟨rfl, rfl⟩ := h; intro e he; cases he
  | i + 1, l, p, h => by
    rw [pN] at h
    cases hx : pN s i with
    | none => rw [hx] at h; cases h
    | some x =>
      obtain ⟨l', p'⟩ := x
      rw [hx, pStep] at h
      split at h
      · cases h
      · rename_i hb
        simp only [Option.some.injEq, Prod.mk.injEq] at h
        obtain ⟨rfl, rfl⟩ := h
        intro e he
        rcases List.mem_append.1 he with he | he
        · exact pN_ok hx e he
        · simp at he
          subst he
          simp at hb
          have h2 := faultE_zero hb.2
          exact ⟨by omega, by omega⟩
/-- What is wrong with a page: 4: it can't be read; 0: nothing. -/
def perr (s : ByteArray) : Nat := if parseR s = none then 4 else 0
theorem own_lt {w : World} {base : Nat} {e : TypeId} {size : Nat} {v : Value} {n : Nat} {xs : List Value} (h : w.ownsRow base e size v n xs) : v.ownBlock ≠ some w.heap.size := by
  intro hk
  rcases h.2 with ⟨rfl, _⟩ | ⟨g, cap, cur, rfl, hg, hh, _⟩
  · simp [Value.ownBlock] at hk
  · simp [Value.ownBlock] at hk
    have := heap_lt hh
    omega
theorem own_below {w w' : World} {base : Nat} {e : TypeId} {size : Nat} {v : Value} {n : Nat} {xs : List Value} (h : w.ownsRow base e size v n xs) (hb : Below w.heap.size w w') : w'.ownsRow base e size v n xs := by
  refine ⟨h.1, ?_⟩
  rcases h.2 with hn | ⟨g, cap, cur, h1, hg, hh, hrest⟩
  · exact .inl hn
  · exact .inr ⟨g, cap, cur, h1, hg, (hb.block g (heap_lt hh)).trans hh, hrest⟩
attribute [local go_sem] bt_idx bt_wrap bt_extract
set_option maxHeartbeats 4000000 in
theorem parse_any (B : Nat) (s : ByteArray) (w : World) (hs : s.size ≤ 9223372036854775807) :
    Calls Tryz.prog 52 #[.string s] w fun d w' => ∃ v, d = .returned (.tuple #[v, errV (perr s)]) ∧ Ents B w' v ((parseR s).getD []) ∧ Below w.heap.size w w' := by
  by_cases h0 : s.size = 0
  · have he : (s.toList == []) = true := by rw [beq_iff_eq, toList_nil]; exact h0
    have hp : parseR s = none := by unfold parseR; rw [if_pos h0]
    have HP := Lib.hid hp
    clear hp
    go_enter Tryz.func52, Tryz.ntmps52
    go_wp2_with fail
    exact bodyPost_ret (v := .tuple #[.slice none 0 0, errV 4]) (by simp [results, Tryz.results52, go_sem] <;> rfl) rfl ⟨_, by rw [perr, HP.out]; rfl, by rw [HP.out]; exact ⟨Rd.nil _ _ _ _, by simp⟩, Below.refl _ _⟩
  have he : (s.toList == []) = false := by rw [beq_eq_false_iff_ne]; rw [Ne, toList_nil]; exact h0
  go_enter Tryz.func52, Tryz.ntmps52
  go_wp2_with fail
  simp only [bt_idx s 0 (by omega), bt_wrap]
  go_loopw [0, 5, 18] (fun t u x wr => ∃ (i p : Nat) (l : List Ent), x = .int .i64 (i : Int) ∧ i ≤ bt s 0 ∧ t = .string (s.extract p s.size) ∧ Hid (pN s i = some (l, p)) ∧ Hid (wr.ownsRow w.heap.size 56 3 u l.length (l.flatMap Ent.cells)) ∧ Below w.heap.size w wr) (fun _ _ x _ => bt s 0 - (intOf x).toNat)
  case atStart => exact ⟨0, 1, [], rfl, Nat.zero_le _, rfl, rfl, World.ownsRow_nil _ _ _ _, Below.refl _ _⟩
  case round =>
    obtain ⟨i, p, l, rfl, hi, rfl, hpn, hown, hbl⟩ := hrel
    obtain ⟨hp1, hp2, hll⟩ := pN_le (by omega) hpn.out
    obtain ⟨q, hq⟩ : ∃ q, s.size = p + q := ⟨s.size - p, by omega⟩
    have z0 : (s.extract p s.size).size = q := by rw [size_extract_]; omega
    have HQ := Lib.hid hq
    have hqm : q ≤ 9223372036854775807 := by omega
    have HOWN := Lib.hid hown.out
    have b256 := bt_lt s (p + 1)
    have b256' := bt_lt s (p + 2)
    clear hown
    by_cases hlt : i < bt s 0
    · by_cases hbad : badAt s p = true
      · have HN : Hid (parseR s = none) := by
          have h1 : pN s (i + 1) = none := by rw [pN, hpn.out, pStep, hbad]; rfl
          rw [Hid, parseR, if_neg h0, pN_none h1 (bt s 0) (by omega)]
        simp only [badAt, Bool.or_eq_true, decide_eq_true_eq] at hbad
        by_cases b1 : q < 3
        · have t1 : decide ((q : Int) < 3) = true := decide_eq_true (by omega)
          clear hbad hq
          go_wp2_with fail
          go_quiet (fail)
          go_wp2_with fail
          exact bodyPost_ret (v := .tuple #[.slice none 0 0, errV 4]) (by simp [results, Tryz.results52, go_sem] <;> rfl) rfl ⟨_, by rw [perr, HN.out]; rfl, by rw [HN.out]; exact ⟨Rd.nil _ _ _ _, by simp⟩, below_drewN' hbl _⟩
        have t1 : decide ((q : Int) < 3) = false := decide_eq_false (by omega)
        have i0 : 0 < q := by omega
        have i1 : (1 : Int) < (q : Int) := by omega
        have i2 : (2 : Int) < (q : Int) := by omega
        by_cases b2 : 1 < bt s p
        · have t2 : decide ((1 : Int) < (bt s p : Int)) = true := decide_eq_true (by omega)
          clear hbad hq
          go_wp2_with fail
          go_quiet (fail)
          go_wp2_with fail
          exact bodyPost_ret (v := .tuple #[.slice none 0 0, errV 4]) (by simp [results, Tryz.results52, go_sem] <;> rfl) rfl ⟨_, by rw [perr, HN.out]; rfl, by rw [HN.out]; exact ⟨Rd.nil _ _ _ _, by simp⟩, below_drewN' hbl _⟩
        have t2 : decide ((1 : Int) < (bt s p : Int)) = false := decide_eq_false (by omega)
        have t3 : decide ((q : Int) < 3 + (bt s (p + 1) : Int) + (bt s (p + 2) : Int)) = true := decide_eq_true (by omega)
        clear hbad hq
        go_wp2_with fail
        go_quiet (fail)
        go_wp2_with fail
        exact bodyPost_ret (v := .tuple #[.slice none 0 0, errV 4]) (by simp [results, Tryz.results52, go_sem] <;> rfl) rfl ⟨_, by rw [perr, HN.out]; rfl, by rw [HN.out]; exact ⟨Rd.nil _ _ _ _, by simp⟩, below_drewN' hbl _⟩
      · have hgood : badAt s p = false := by simpa using hbad
        have hst : Hid (pN s (i + 1) = if faultE (entAt s p) ≠ 0 then none else some (l ++ [entAt s p], p + 3 + bt s (p + 1) + bt s (p + 2))) := by
          rw [Hid, pN, hpn.out, pStep, hgood]; simp
        simp only [badAt, Bool.or_eq_false_iff, decide_eq_false_iff_not] at hgood
        have t1 : decide ((q : Int) < 3) = false := decide_eq_false (by omega)
        have i0 : 0 < q := by omega
        have i1 : (1 : Int) < (q : Int) := by omega
        have i2 : (2 : Int) < (q : Int) := by omega
        have t2 : decide ((1 : Int) < (bt s p : Int)) = false := decide_eq_false (by omega)
        have t3 : decide ((q : Int) < 3 + (bt s (p + 1) : Int) + (bt s (p + 2) : Int)) = false := decide_eq_false (by omega)
        have hq3 : 3 + bt s (p + 1) + bt s (p + 2) ≤ q := by omega
        have E1 : (s.extract p s.size).extract 3 (3 + bt s (p + 1)) = (entAt s p).k := by rw [extract_extract_ _ _ _ _ (by omega), ← Nat.add_assoc]; rfl
        have E2 : (s.extract p s.size).extract (3 + bt s (p + 1)) (3 + bt s (p + 1) + bt s (p + 2)) = (entAt s p).v := by rw [extract_extract_ _ _ _ _ (by omega)]; unfold entAt; simp only [Nat.add_assoc]
        have HE3 : Hid (((bt s p : Int) == 1) = (entAt s p).g) := by rw [Hid, Bool.eq_iff_iff]; simp [entAt]; omega
        have HE1 := Lib.hid E1
        have HE2 := Lib.hid E2
        clear hgood hbad hq E1 E2
        generalize hk1 : bt s (p + 1) = k1 at *
        generalize hv1 : bt s (p + 2) = v1 at *
        go_wp2_with fail
        go_quiet (fail)
        go_wp2_with fail
        have hnb := Blk.new (wr.drewN (nq + 1)) 56 #[.string ⟨#[]⟩, .string ⟨#[]⟩, .bool false]
        have k0 := hnb.cell 0
        have k1' := hnb.cell 1
        have k2 := hnb.cell 2
        have j0 := hnb.frozen 0
        have j1 := hnb.frozen 1
        have j2 := hnb.frozen 2
        simp at k0 k1' k2 j0 j1 j2
        clear hnb
        go_region
        rw [HE1.out, HE2.out, HE3.out]
        clear k0 k1' k2 j0 j1 j2 HE1 HE2 HE3
        have hb1 := below_drewN' hbl (nq + 1)
        have hb2 := (((hb1.alloc hb1.size (.cells #[.string ⟨#[]⟩, .string ⟨#[]⟩, .bool false] 56)).setCell (p := ⟨wr.heap.size, 0, none⟩) hbl.size (.string (entAt s p).k)).setCell (p := ⟨wr.heap.size, 1, none⟩) hbl.size (.string (entAt s p).v)).setCell (p := ⟨wr.heap.size, 2, none⟩) hbl.size (.bool (entAt s p).g)
        have hk2 : Blk (((((wr.drewN (nq + 1)).alloc (.cells #[.string ⟨#[]⟩, .string ⟨#[]⟩, .bool false] 56)).setCell ⟨wr.heap.size, 0, none⟩ (.string (entAt s p).k)).setCell ⟨wr.heap.size, 1, none⟩ (.string (entAt s p).v)).setCell ⟨wr.heap.size, 2, none⟩ (.bool (entAt s p).g)) wr.heap.size 56 #[.string (entAt s p).k, .string (entAt s p).v, .bool (entAt s p).g] := (((Blk.new (wr.drewN (nq + 1)) _ _).set_ 0 _).set_ 1 _).set_ 2 _
        have ho2 : (((((wr.drewN (nq + 1)).alloc (.cells #[.string ⟨#[]⟩, .string ⟨#[]⟩, .bool false] 56)).setCell ⟨wr.heap.size, 0, none⟩ (.string (entAt s p).k)).setCell ⟨wr.heap.size, 1, none⟩ (.string (entAt s p).v)).setCell ⟨wr.heap.size, 2, none⟩ (.bool (entAt s p).g)).ownsRow w.heap.size 56 3 u5 l.length (l.flatMap Ent.cells) := by
          have h1 := own_lt HOWN.out
          exact ownsRow_setCell_other (ownsRow_setCell_other (ownsRow_setCell_other (own_alloc (own_drewN HOWN.out (nq + 1)) _) (a := ⟨wr.heap.size, 0, none⟩) h1 _) (a := ⟨wr.heap.size, 1, none⟩) h1 _) (a := ⟨wr.heap.size, 2, none⟩) h1 _
        generalize (((((wr.drewN (nq + 1)).alloc (.cells #[.string ⟨#[]⟩, .string ⟨#[]⟩, .bool false] 56)).setCell ⟨wr.heap.size, 0, none⟩ (.string (entAt s p).k)).setCell ⟨wr.heap.size, 1, none⟩ (.string (entAt s p).v)).setCell ⟨wr.heap.size, 2, none⟩ (.bool (entAt s p).g)) = w3 at *
        generalize hb : wr.heap.size = nb at *
        have HO2 := Lib.hid ho2
        have HB2 := Lib.hid hb2
        have HK2 := Lib.hid hk2
        have e0 := hk2.cell 0
        have e1 := hk2.cell 1
        have e2 := hk2.cell 2
        simp at e0 e1 e2
        clear ho2 hb2 hk2 hb1 HOWN
        generalize hy : entAt s p = y at *
        go_wp2_with fail
        refine (check_any y _).mono ?_
        rintro d w4 ⟨rfl, hb4⟩
        have HB4 := Lib.hid (HB2.out.trans (hb4.mono HB2.out.size))
        have HO4 := Lib.hid (own_below HO2.out hb4)
        have hk4 := HK2.out.below hb4 HK2.out.lt
        have f0 := hk4.cell 0
        have f1 := hk4.cell 1
        have f2 := hk4.cell 2
        simp at f0 f1 f2
        clear e0 e1 e2 HO2 HB2 HK2 hb4 hk4
        by_cases hf : faultE y = 0
        · have he : errV (faultE y) = .nilIface := by rw [hf]; rfl
          rw [he]
          have hst2 : Hid (pN s (i + 1) = some (l ++ [y], p + 3 + k1 + v1)) := by rw [Hid, hst.out, if_neg (by simp [hf])]
          have h256 := bt_lt s 0
          have hlen : l.length ≤ 1000000 := by omega
          have HF := Lib.hid hf
          clear he hst hf
          have hbs := HB4.out.size
          obtain ⟨i0', hi', hz0, hz1, hz2⟩ := info_parts info_entry
          have hownA := Lib.hid (own_alloc HO4.out (.cells #[.string y.k, .string y.v, .bool y.g] 56))
          have hbA := Lib.hid (HB4.out.alloc HB4.out.size (.cells #[.string y.k, .string y.v, .bool y.g] 56))
          go_wp2_with (at_builtin; go_loud (refine wpList_append_rd _ rfl (.tmp 65) (.tmp 67) 31 rfl w.heap.size 56 i0' _ 3 40 Tryz.underlying31 hi' hz0 hz1 hz2 rfl (by decide) u5 _ _ rfl hownA.out B 56 _ 1 _ rfl (rd_lit3 _ _ _ rfl _ _ _) (ent_one3 _ _ _) (by unfold maxLen; omega) (by omega) (by simp; omega) ?_); intro v1' w5 hown1 hg1 hat1)
          have hown2 : w5.ownsRow w.heap.size 56 3 v1' (l ++ [y]).length ((l ++ [y]).flatMap Ent.cells) := by simpa [Ent.cells] using hown1
          have hb5 := below_own hbA.out (Nat.le_refl _) hownA.out hg1
          clear hi' hz0 hz1 hz2 hg1 hat1 hown1
          go_roundw
          case rel => exact ⟨i + 1, p + 3 + k1 + v1, l ++ [y], by simp, by omega, by rw [extract_extract_ _ _ _ _ (by have := HQ.out; omega), ← HQ.out, Nat.add_assoc p 3, Nat.add_assoc p (3 + k1)], hst2, hown2, hb5⟩
          case measure => simp [intOf] <;> omega
        · have HN : Hid (parseR s = none) := by
            have h1 : pN s (i + 1) = none := by rw [hst.out, if_pos hf]
            rw [Hid, parseR, if_neg h0, pN_none h1 (bt s 0) (by omega)]
          have he : errV (faultE y) = .iface 39 (.int .i64 (faultE y)) := by unfold errV; rw [if_neg hf]
          rw [he]
          clear he hst hf
          go_wp2_with fail
          exact bodyPost_ret (v := .tuple #[.slice none 0 0, errV 4]) (by simp [results, Tryz.results52, go_sem] <;> rfl) rfl ⟨_, by rw [perr, HN.out]; rfl, by rw [HN.out]; exact ⟨Rd.nil _ _ _ _, by simp⟩, HB4.out⟩
    · have hib : i = bt s 0 := by omega
      subst hib
      have HPR : Hid (parseR s = if (s.data.toList.drop p).all (· == 0) then some l else none) := by rw [Hid, parseR, if_neg h0, hpn.out]
      clear hq
      go_wp2_with fail
      go_loop [79] (fun x => ∃ j : Nat, x = .int .i64 (j : Int) ∧ j ≤ q ∧ Hid (∀ j', j' < j → bt s (p + j') = 0)) (fun x => q - (intOf x).toNat)
      case atStart => exact ⟨0, rfl, Nat.zero_le _, fun j' h => by omega⟩
      case round =>
        obtain ⟨j, rfl, hj, hz⟩ := hrel
        by_cases hjq : j < q
        · have g1 : (0 : Int) ≤ (j : Int) := by omega
          have g2 : (j : Int) < (q : Int) := by omega
          by_cases hb : bt s (p + j) = 0
          · have HZ2 : Hid (∀ j', j' < j + 1 → bt s (p + j') = 0) := fun j' h => by
              by_cases h1 : j' = j
              · subst h1; exact hb
              · exact hz.out j' (by omega)
            go_wp2_with fail
            go_round
            case rel => exact ⟨j + 1, by go_num, by omega, HZ2⟩
            case measure => simp [intOf] <;> omega
          · have HN : Hid (parseR s = none) := by
              rw [Hid, HPR.out, if_neg]
              intro h
              exact hb (noughts_iff.1 h (p + j) (by omega) (by have := HQ.out; omega))
            have hb2 : ((bt s (p + j) : Int) == 0) = false := by simp; omega
            go_wp2_with fail
            exact bodyPost_ret (v := .tuple #[.slice none 0 0, errV 4]) (by simp [results, Tryz.results52, go_sem] <;> rfl) rfl ⟨_, by rw [perr, HN.out]; rfl, by rw [HN.out]; exact ⟨Rd.nil _ _ _ _, by simp⟩, hbl⟩
        · have HS : Hid (parseR s = some l) := by
            rw [Hid, HPR.out, if_pos]
            exact noughts_iff.2 fun i h1 h2 => by
              have := hz.out (i - p) (by have := HQ.out; omega)
              rwa [show p + (i - p) = i by omega] at this
          go_wp2_with fail
          have hok : ∀ e ∈ l, EntOk e := pN_ok hpn.out
          exact bodyPost_ret (v := .tuple #[u5, .nilIface]) (by simp [results, Tryz.results52, go_sem] <;> rfl) rfl ⟨_, by rw [perr, HS.out]; rfl, by rw [HS.out]; exact ⟨Rd.of_own HOWN.out, hok⟩, hbl⟩

end Go.Proofs.YtaepdbkfaoiimabGreatDoor
