/- Several texts of this proof, one behind the other: walks and plain laws that the statement rests on. Conditions: none but those that each lemma names. -/
import Derived.Test.YtaepdbkfaoiimabGreatDoorGa
import Derived.RegionTactic
import Derived.BigRegion
import Derived.Deep.RegionHeld
import Derived.Deep.RegionLawGrows
import Derived.Laws.EntriesVeiled
import Derived.Shelf.Abstract
import Derived.LoopN
import Derived.Test.YtaepdbkfaoiimabGreatDoorShelf
import Derived.Deep.RegionWith
import Derived.Deep.DeepCutAuto
import Derived.IntWalk
/- The plain model of a chip: blocks of pages, steps, falls. No program in sight; conditions: none. -/
set_option linter.unusedVariables false
set_option linter.unusedSimpArgs false
namespace Go.Proofs.YtaepdbkfaoiimabGreatDoor
open Go.RowKit

/-- A page: what it has; torn? -/
structure Sheet where
  d : ByteArray
  t : Bool
/-- A block. -/
structure CB where
  l : List Sheet
  wear : Int
  weak : Bool
  bad : Bool
/-- A step that the machine fell in. -/
inductive Pend
  | wr (b : Nat) (d : ByteArray)
  | er (b : Nat)
structure Chip where
  b : Nat → CB
  fuse : Int
  down : Bool
  pend : Option Pend
def Chip.new : Chip := ⟨fun _ => ⟨[], 0, false, false⟩, -1, false, none⟩
def Chip.set (c : Chip) (b : Nat) (x : CB) : Chip := { c with b := fun i => if i = b then x else c.b i }
def torn : Sheet := ⟨ByteArray.empty, true⟩
def pad (d : ByteArray) : ByteArray := ⟨(d.data.toList ++ List.replicate (64 - d.size) 0).toArray⟩
theorem pad_size {d : ByteArray} (h : d.size ≤ 64) : (pad d).size = 64 := by
  simp only [pad, ByteArray.size, List.size_toArray, List.length_append, List.length_replicate, Array.length_toList]
  simp only [ByteArray.size] at h
  omega

def doP (c : Chip) : Pend → Chip
  | .wr b d => c.set b { c.b b with l := (c.b b).l ++ [⟨d, false⟩] }
  | .er b => c.set b { c.b b with l := [], wear := wrap64 ((c.b b).wear + 1) }
def halfP (c : Chip) : Pend → Chip
  | .wr b _ => c.set b { c.b b with l := (c.b b).l ++ [torn] }
  | .er b => c.set b { c.b b with l := List.replicate 8 torn, wear := wrap64 ((c.b b).wear + 1) }
def Pend.blk : Pend → Nat
  | .wr b _ => b
  | .er b => b
/-- The step: done, or the machine falls in it. -/
def Chip.step (c : Chip) (p : Pend) : Chip × Nat :=
  if c.fuse = 0 then ({ c with down := true, pend := some p }, 9) else (doP { c with fuse := if 0 < c.fuse then c.fuse - 1 else c.fuse } p, 0)
def Chip.ready (c : Chip) (b : Int) : Nat :=
  if c.down then 9 else if b < 0 ∨ 24 ≤ b then 1 else if (c.b b.toNat).bad then 7 else 0
def Chip.spoil (c : Chip) (b : Nat) : Chip := if (c.b b).weak then c.set b { c.b b with bad := true } else c
def Chip.write (c : Chip) (b : Int) (d : ByteArray) : Chip × Nat :=
  if c.ready b ≠ 0 then (c, c.ready b)
  else if 64 < d.size then (c, 2)
  else if (c.b b.toNat).l.length = 8 then (c, 6)
  else if (c.b b.toNat).weak then (c.spoil b.toNat, 7)
  else c.step (.wr b.toNat (pad d))
def Chip.erase (c : Chip) (b : Int) : Chip × Nat :=
  if c.ready b ≠ 0 then (c, c.ready b)
  else if (c.b b.toNat).weak then (c.spoil b.toNat, 7)
  else c.step (.er b.toNat)
def Chip.read (c : Chip) (b p : Int) : ByteArray × Nat :=
  if c.down then (ByteArray.empty, 9)
  else if b < 0 ∨ 24 ≤ b ∨ p < 0 ∨ 8 ≤ p then (ByteArray.empty, 1)
  else match (c.b b.toNat).l[p.toNat]? with
    | none => (ByteArray.empty, 5)
    | some s => if s.t then (ByteArray.empty, 4) else (s.d, 0)
def Chip.weaken (c : Chip) (b : Int) : Chip × Nat :=
  if b < 2 ∨ 24 ≤ b then (c, 1) else (c.set b.toNat { c.b b.toNat with weak := true }, 0)
def Chip.arm (c : Chip) (n : Int) : Chip := { c with fuse := max n (-1) }
def Chip.undone (c : Chip) (how : Int) : Chip :=
  match c.pend with
  | none => c
  | some p => if how = 1 then halfP c p else if how = 2 then doP c p else c
def Chip.restart (c : Chip) (how : Int) : Chip := { c.undone how with pend := none, down := false, fuse := -1 }

/-- A step that is on its way fits. -/
def PendOk (c : Chip) : Pend → Prop
  | .wr b d => b < 24 ∧ d.size = 64 ∧ (c.b b).l.length < 8
  | .er b => b < 24
/-- What is so of every chip. -/
structure CWf (c : Chip) : Prop where
  len : ∀ b, b < 24 → (c.b b).l.length ≤ 8
  size : ∀ b, b < 24 → ∀ s ∈ (c.b b).l, s.t = false → s.d.size = 64
  torn : ∀ b, b < 24 → ∀ s ∈ (c.b b).l, s.t = true → s = Go.Proofs.YtaepdbkfaoiimabGreatDoor.torn
  down : c.pend.isSome = c.down
  pend : ∀ p, c.pend = some p → PendOk c p
  fuse : -1 ≤ c.fuse ∧ c.fuse ≤ 9223372036854775807
  weak : ∀ b, (c.b b).weak = true → 2 ≤ b ∧ b < 24
  bad : ∀ b, (c.b b).bad = true → (c.b b).weak = true
  wear : ∀ b, -9223372036854775808 ≤ (c.b b).wear ∧ (c.b b).wear ≤ 9223372036854775807

section
variable {c : Chip}
@[simp] theorem Chip.set_same (c : Chip) (b : Nat) (x : CB) : (c.set b x).b b = x := by simp [Chip.set]
theorem Chip.set_far (c : Chip) {b i : Nat} (x : CB) (h : i ≠ b) : (c.set b x).b i = c.b i := by simp [Chip.set, h]
theorem CWf.new : CWf Chip.new := by
  constructor <;> simp [Chip.new]
theorem doP_pend (c : Chip) (p : Pend) : (doP c p).pend = c.pend ∧ (doP c p).down = c.down ∧ (doP c p).fuse = c.fuse := by
  cases p <;> exact ⟨rfl, rfl, rfl⟩
theorem halfP_pend (c : Chip) (p : Pend) : (halfP c p).pend = c.pend ∧ (halfP c p).down = c.down ∧ (halfP c p).fuse = c.fuse := by
  cases p <;> exact ⟨rfl, rfl, rfl⟩
theorem doP_far (c : Chip) (p : Pend) {i : Nat} (h : i ≠ p.blk) : (doP c p).b i = c.b i := by
  cases p <;> exact Chip.set_far _ _ h
theorem halfP_far (c : Chip) (p : Pend) {i : Nat} (h : i ≠ p.blk) : (halfP c p).b i = c.b i := by
  cases p <;> exact Chip.set_far _ _ h
theorem doP_flags (c : Chip) (p : Pend) (i : Nat) : ((doP c p).b i).weak = (c.b i).weak ∧ ((doP c p).b i).bad = (c.b i).bad := by
  by_cases h : i = p.blk
  · subst h; cases p <;> simp [doP, Pend.blk]
  · rw [doP_far c p h]; exact ⟨rfl, rfl⟩
theorem halfP_flags (c : Chip) (p : Pend) (i : Nat) : ((halfP c p).b i).weak = (c.b i).weak ∧ ((halfP c p).b i).bad = (c.b i).bad := by
  by_cases h : i = p.blk
  · subst h; cases p <;> simp [halfP, Pend.blk]
  · rw [halfP_far c p h]; exact ⟨rfl, rfl⟩
theorem wrap64_range (n : Int) : -9223372036854775808 ≤ wrap64 n ∧ wrap64 n ≤ 9223372036854775807 := by
  unfold wrap64; omega
/-- What is so of the blocks alone. -/
structure BWf (c : Chip) : Prop where
  len : ∀ b, b < 24 → (c.b b).l.length ≤ 8
  size : ∀ b, b < 24 → ∀ s ∈ (c.b b).l, s.t = false → s.d.size = 64
  torn : ∀ b, b < 24 → ∀ s ∈ (c.b b).l, s.t = true → s = Go.Proofs.YtaepdbkfaoiimabGreatDoor.torn
  weak : ∀ b, (c.b b).weak = true → 2 ≤ b ∧ b < 24
  bad : ∀ b, (c.b b).bad = true → (c.b b).weak = true
  wear : ∀ b, -9223372036854775808 ≤ (c.b b).wear ∧ (c.b b).wear ≤ 9223372036854775807
theorem CWf.blocks (h : CWf c) : BWf c := ⟨h.len, h.size, h.torn, h.weak, h.bad, h.wear⟩
theorem BWf.chip (h : BWf c) (h1 : c.pend.isSome = c.down) (h2 : ∀ p, c.pend = some p → PendOk c p) (h3 : -1 ≤ c.fuse ∧ c.fuse ≤ 9223372036854775807) : CWf c :=
  ⟨h.len, h.size, h.torn, h1, h2, h3, h.weak, h.bad, h.wear⟩
theorem BWf.set_ (h : BWf c) {b : Nat} {x : CB} (h1 : x.l.length ≤ 8) (h2 : ∀ s ∈ x.l, s.t = false → s.d.size = 64) (h3 : ∀ s ∈ x.l, s.t = true → s = Go.Proofs.YtaepdbkfaoiimabGreatDoor.torn)
    (h4 : x.weak = true → 2 ≤ b ∧ b < 24) (h5 : x.bad = true → x.weak = true) (h6 : -9223372036854775808 ≤ x.wear ∧ x.wear ≤ 9223372036854775807) : BWf (c.set b x) := by
  refine ⟨fun i hi => ?_, fun i hi => ?_, fun i hi => ?_, fun i => ?_, fun i => ?_, fun i => ?_⟩ <;>
  · by_cases e : i = b
    · subst e; simp only [Chip.set_same]; assumption
    · rw [Chip.set_far c x e]
      first | exact h.len i hi | exact h.size i hi | exact h.torn i hi | exact h.weak i | exact h.bad i | exact h.wear i
theorem BWf.doP_ (h : BWf c) {p : Pend} (hp : PendOk c p) : BWf (doP c p) := by
  cases p with
  | wr b d =>
    obtain ⟨h1, h2, h3⟩ := hp
    refine h.set_ (by simp; omega) (fun s hs ht => ?_) (fun s hs ht => ?_) (h.weak b) (h.bad b) (h.wear b)
    · rcases List.mem_append.1 hs with hs | hs
      · exact h.size b h1 s hs ht
      · simp at hs; subst hs; exact h2
    · rcases List.mem_append.1 hs with hs | hs
      · exact h.torn b h1 s hs ht
      · simp at hs; subst hs; cases ht
  | er b => exact h.set_ (by simp) (by simp) (by simp) (h.weak b) (h.bad b) (wrap64_range _)
theorem BWf.halfP_ (h : BWf c) {p : Pend} (hp : PendOk c p) : BWf (halfP c p) := by
  cases p with
  | wr b d =>
    obtain ⟨h1, h2, h3⟩ := hp
    refine h.set_ (by simp; omega) (fun s hs ht => ?_) (fun s hs ht => ?_) (h.weak b) (h.bad b) (h.wear b)
    · rcases List.mem_append.1 hs with hs | hs
      · exact h.size b h1 s hs ht
      · simp at hs; subst hs; cases ht
    · rcases List.mem_append.1 hs with hs | hs
      · exact h.torn b h1 s hs ht
      · simp at hs; exact hs
  | er b =>
    refine h.set_ (by simp) (fun s hs ht => ?_) (fun s hs ht => ?_) (h.weak b) (h.bad b) (wrap64_range _)
    · have := List.eq_of_mem_replicate hs; subst this; cases ht
    · exact List.eq_of_mem_replicate hs
theorem CWf.step_ (h : CWf c) (hd : c.down = false) {p : Pend} (hp : PendOk c p) : CWf (c.step p).1 := by
  have hn : c.pend = none := by have := h.down; rw [hd] at this; simpa using this
  unfold Chip.step
  split
  · exact ⟨h.len, h.size, h.torn, rfl, fun q hq => by cases hq; cases p <;> exact hp, h.fuse, h.weak, h.bad, h.wear⟩
  · rename_i hf
    have hb : BWf { c with fuse := if 0 < c.fuse then c.fuse - 1 else c.fuse } := ⟨h.len, h.size, h.torn, h.weak, h.bad, h.wear⟩
    obtain ⟨e1, e2, e3⟩ := doP_pend { c with fuse := if 0 < c.fuse then c.fuse - 1 else c.fuse } p
    refine (hb.doP_ (p := p) (by cases p <;> exact hp)).chip ?_ ?_ ?_
    · rw [e1, e2]; exact h.down
    · rw [e1]; intro q hq; rw [hn] at hq; cases hq
    · rw [e3]
      have := h.fuse
      show -1 ≤ (if 0 < c.fuse then c.fuse - 1 else c.fuse) ∧ (if 0 < c.fuse then c.fuse - 1 else c.fuse) ≤ 9223372036854775807
      split <;> omega
theorem ready_zero {b : Int} (h : c.ready b = 0) : c.down = false ∧ 0 ≤ b ∧ b < 24 ∧ (c.b b.toNat).bad = false := by
  unfold Chip.ready at h
  split at h
  · omega
  · split at h
    · omega
    · split at h
      · omega
      · rename_i h1 h2 h3
        exact ⟨by simpa using h1, by omega, by omega, by simpa using h3⟩
theorem CWf.spoil_ (h : CWf c) (b : Nat) (hd : c.down = false) : CWf (c.spoil b) := by
  have hn : c.pend = none := by have := h.down; rw [hd] at this; simpa using this
  unfold Chip.spoil
  split
  · rename_i hw
    refine BWf.chip ?_ h.down ?_ h.fuse
    · exact h.blocks.set_ (h.len b (h.weak b hw).2) (h.size b (h.weak b hw).2) (h.torn b (h.weak b hw).2) (fun _ => h.weak b hw) (fun _ => hw) (h.wear b)
    · intro q hq; rw [show (c.set b _).pend = c.pend from rfl, hn] at hq; cases hq
  · exact h
theorem CWf.write_ (h : CWf c) (b : Int) (d : ByteArray) : CWf (c.write b d).1 := by
  unfold Chip.write
  split
  · exact h
  · rename_i h1
    obtain ⟨hd, hb0, hb1, hb⟩ := ready_zero (c := c) (b := b) (by simpa using h1)
    split
    · exact h
    · split
      · exact h
      · split
        · exact h.spoil_ _ hd
        · rename_i h2 h3 h4
          have := h.len b.toNat (by omega)
          exact h.step_ hd ⟨by omega, pad_size (by omega), by omega⟩
theorem CWf.erase_ (h : CWf c) (b : Int) : CWf (c.erase b).1 := by
  unfold Chip.erase
  split
  · exact h
  · rename_i h1
    obtain ⟨hd, hb0, hb1, hb⟩ := ready_zero (c := c) (b := b) (by simpa using h1)
    split
    · exact h.spoil_ _ hd
    · exact h.step_ hd (p := .er b.toNat) (show b.toNat < 24 by omega)
theorem CWf.weaken_ (h : CWf c) (b : Int) : CWf (c.weaken b).1 := by
  unfold Chip.weaken
  split
  · exact h
  · rename_i hb
    have hl : b.toNat < 24 := by omega
    refine BWf.chip ?_ h.down ?_ h.fuse
    · exact h.blocks.set_ (h.len _ hl) (h.size _ hl) (h.torn _ hl) (fun _ => ⟨by omega, hl⟩) (fun _ => rfl) (h.wear _)
    · intro q hq
      have := h.pend q hq
      cases q with
      | wr b' d =>
        refine ⟨this.1, this.2.1, ?_⟩
        by_cases e : b' = b.toNat
        · subst e; simp; exact this.2.2
        · rw [Chip.set_far _ _ e]; exact this.2.2
      | er b' => exact this
theorem CWf.arm_ (h : CWf c) {n : Int} (hn : n ≤ 9223372036854775807) : CWf (c.arm n) :=
  ⟨h.len, h.size, h.torn, h.down, fun p hp => by have := h.pend p hp; cases p <;> exact this, by simp only [Chip.arm]; omega, h.weak, h.bad, h.wear⟩
theorem BWf.undone_ (h : CWf c) (how : Int) : BWf (c.undone how) := by
  unfold Chip.undone
  split
  · exact h.blocks
  · rename_i p hp
    split
    · exact h.blocks.halfP_ (h.pend p hp)
    · split
      · exact h.blocks.doP_ (h.pend p hp)
      · exact h.blocks
theorem CWf.restart_ (h : CWf c) (how : Int) : CWf (c.restart how) := by
  have hb := BWf.undone_ h how
  exact BWf.chip ⟨hb.len, hb.size, hb.torn, hb.weak, hb.bad, hb.wear⟩ rfl (fun p hp => by cases hp) (show -1 ≤ (-1 : Int) ∧ (-1 : Int) ≤ 9223372036854775807 from ⟨by decide, by decide⟩)
end
end Go.Proofs.YtaepdbkfaoiimabGreatDoor
/- How a chip lies in memory, and what stores into it do. Conditions: none but those that each lemma names. -/
set_option linter.unusedVariables false
set_option linter.unusedSimpArgs false
namespace Go.Proofs.YtaepdbkfaoiimabGreatDoor
open Go.RowKit

/-! ### how a chip lies in memory -/
def sheetL (l : List Sheet) : List Value := l.flatMap fun s => [.string s.d, .bool s.t]
def blkL (V : Nat → Value) (c : Chip) (b : Nat) : List Value := [V b, .int .i64 (c.b b).wear, .bool (c.b b).weak, .bool (c.b b).bad]
def chipL (V : Nat → Value) (c : Chip) (u : Value) : List Value := (List.range 24).flatMap (blkL V c) ++ [.int .i64 c.fuse, .bool c.down, u]
theorem flat_at {α : Type} (c : α → List Value) (sz : Nat) (hc : ∀ a, (c a).length = sz) : ∀ (l : List α) (i j : Nat) (a : α), l[i]? = some a → j < sz → (l.flatMap c)[i * sz + j]? = (c a)[j]?
  | [], i, j, a, h, _ => by simp at h
  | x :: l, 0, j, a, h, hj => by
    simp at h; subst h
    rw [Nat.zero_mul, Nat.zero_add, List.flatMap_cons, List.getElem?_append_left (by rw [hc]; exact hj)]
  | x :: l, i + 1, j, a, h, hj => by
    simp only [List.getElem?_cons_succ] at h
    have ih := flat_at c sz hc l i j a h hj
    rw [List.flatMap_cons, List.getElem?_append_right (by rw [hc, Nat.succ_mul]; omega), hc, ← ih]
    congr 1
    rw [Nat.succ_mul]; omega
theorem flat_size {α : Type} (c : α → List Value) (sz : Nat) (hc : ∀ a, (c a).length = sz) : ∀ l : List α, (l.flatMap c).length = l.length * sz
  | [] => by simp
  | x :: l => by rw [List.flatMap_cons, List.length_append, hc, flat_size c sz hc l, List.length_cons, Nat.succ_mul]; omega
theorem sheetL_len (l : List Sheet) : (sheetL l).length = l.length * 2 := flat_size _ 2 (fun _ => rfl) l
theorem sheetL_at {l : List Sheet} {i : Nat} {s : Sheet} (h : l[i]? = some s) : (sheetL l)[i * 2]? = some (.string s.d) ∧ (sheetL l)[i * 2 + 1]? = some (.bool s.t) :=
  ⟨flat_at _ 2 (fun _ => rfl) l i 0 s h (by omega), flat_at _ 2 (fun _ => rfl) l i 1 s h (by omega)⟩
theorem sheetL_snoc (l : List Sheet) (s : Sheet) : sheetL (l ++ [s]) = sheetL l ++ [.string s.d, .bool s.t] := by simp [sheetL]
theorem chipL_at (V : Nat → Value) (c : Chip) (u : Value) {b j : Nat} (hb : b < 24) (hj : j < 4) : (chipL V c u)[b * 4 + j]? = (blkL V c b)[j]? := by
  unfold chipL
  rw [List.getElem?_append_left (by rw [flat_size _ 4 (fun _ => rfl)]; simp; omega)]
  exact flat_at _ 4 (fun _ => rfl) _ b j b (by simp [hb]) hj
theorem chipL_size (V : Nat → Value) (c : Chip) (u : Value) : (chipL V c u).length = 99 := by
  unfold chipL
  rw [List.length_append, flat_size _ 4 (fun _ => rfl)]; simp
theorem chipL_tail (V : Nat → Value) (c : Chip) (u : Value) (j : Nat) : (chipL V c u)[96 + j]? = [Value.int .i64 c.fuse, .bool c.down, u][j]? := by
  unfold chipL
  rw [List.getElem?_append_right (by rw [flat_size _ 4 (fun _ => rfl)]; simp), flat_size _ 4 (fun _ => rfl)]
  simp
theorem chipL_set {V V' : Nat → Value} {c c' : Chip} {u u' : Value} {b j : Nat} {x : Value} (hb : b < 24) (hj : j < 4) (h1 : ∀ i, i < 24 → i ≠ b → blkL V' c' i = blkL V c i) (h2 : blkL V' c' b = (blkL V c b).set j x)
    (h3 : c'.fuse = c.fuse ∧ c'.down = c.down ∧ u' = u) : (chipL V c u).set (b * 4 + j) x = chipL V' c' u' := by
  refine List.ext_getElem? fun i => ?_
  rw [List.getElem?_set]
  rcases Nat.lt_or_ge i 96 with hi | hi
  · have e : i = i / 4 * 4 + i % 4 := by omega
    have hq : i / 4 < 24 := by omega
    have hr : i % 4 < 4 := by omega
    rw [e, chipL_at V' c' u' hq hr, chipL_at V c u hq hr]
    by_cases hbi : i / 4 = b
    · rw [hbi, h2, List.getElem?_set]
      by_cases hji : j = i % 4
      · rw [if_pos (by omega), if_pos hji, if_pos (by rw [chipL_size]; omega), if_pos (by show j < 4; omega)]
      · rw [if_neg (by omega), if_neg hji]
    · rw [h1 _ hq hbi, if_neg (by omega)]
  · obtain ⟨k, rfl⟩ : ∃ k, i = 96 + k := ⟨i - 96, by omega⟩
    rw [if_neg (by omega), chipL_tail, chipL_tail, h3.1, h3.2.1, h3.2.2]
theorem chipL_setT {V : Nat → Value} {c c' : Chip} {u u' : Value} {j : Nat} {x : Value} (hj : j < 3) (h1 : c'.b = c.b)
    (h3 : [Value.int .i64 c'.fuse, .bool c'.down, u'] = [Value.int .i64 c.fuse, .bool c.down, u].set j x) : (chipL V c u).set (96 + j) x = chipL V c' u' := by
  refine List.ext_getElem? fun i => ?_
  rw [List.getElem?_set]
  rcases Nat.lt_or_ge i 96 with hi | hi
  · have e : i = i / 4 * 4 + i % 4 := by omega
    have hq : i / 4 < 24 := by omega
    have hr : i % 4 < 4 := by omega
    rw [if_neg (by omega), e, chipL_at V c' u' hq hr, chipL_at V c u hq hr]
    unfold blkL
    rw [h1]
  · obtain ⟨k, rfl⟩ : ∃ k, i = 96 + k := ⟨i - 96, by omega⟩
    rw [chipL_tail, chipL_tail, h3, List.getElem?_set]
    by_cases e : j = k
    · subst e; rw [if_pos rfl, if_pos rfl, if_pos (by rw [chipL_size]; omega), if_pos (by show j < 3; omega)]
    · rw [if_neg (by omega), if_neg e]

/-- The chip of block p: V b is the slice of block b's pages, u what is to be done at a restart. -/
structure ChipV (B : Nat) (w : World) (p : Nat) (V : Nat → Value) (c : Chip) (u : Value) : Prop where
  blk : Blk w p 67 (chipL V c u).toArray
  rows : ∀ b, b < 24 → Rd B 91 2 w (V b) (c.b b).l.length (sheetL (c.b b).l)
  base : B ≤ p
/-- What is to be done at a restart. -/
def UndoR (w : World) (p : Nat) (c : Chip) (u : Value) : Option Pend → Prop
  | none => u = .nilFunc
  | some (.wr b d) => ∃ qh qd bx bn bd, u = .func (.func 75) #[] #[.pointer (some ⟨qh, 0, none⟩), .pointer (some ⟨qd, 0, none⟩)] ∧
      Blk w qh 1 #[.func (.func 82) #[] #[.pointer (some ⟨bx, 0, none⟩), .pointer (some ⟨bn, 0, none⟩)]] ∧
      Blk w qd 1 #[.func (.func 81) #[] #[.pointer (some ⟨bx, 0, none⟩), .pointer (some ⟨bn, 0, none⟩), .pointer (some ⟨bd, 0, none⟩)]] ∧
      Blk w bx 88 #[.pointer (some ⟨p, b * 4, none⟩)] ∧ Blk w bn 3 #[.int .i64 (c.b b).l.length] ∧ Blk w bd 9 #[.string d]
  | some (.er b) => ∃ qh qd bx, u = .func (.func 75) #[] #[.pointer (some ⟨qh, 0, none⟩), .pointer (some ⟨qd, 0, none⟩)] ∧
      Blk w qh 1 #[.func (.func 42) #[] #[.pointer (some ⟨bx, 0, none⟩)]] ∧
      Blk w qd 1 #[.func (.func 41) #[] #[.pointer (some ⟨bx, 0, none⟩)]] ∧
      Blk w bx 88 #[.pointer (some ⟨p, b * 4, none⟩)]
def ChipR (B : Nat) (w : World) (p : Nat) (c : Chip) : Prop := ∃ V u, ChipV B w p V c u ∧ UndoR w p c u c.pend ∧ CWf c

section
variable {B : Nat} {M : Nat → Prop} {w w' : World} {p : Nat} {V : Nat → Value} {c : Chip} {u : Value}
theorem ChipV.cell (h : ChipV B w p V c u) {b : Nat} (hb : b < 24) : w.cell? ⟨p, b * 4, none⟩ = some (V b) ∧ w.cell? ⟨p, b * 4 + 1, none⟩ = some (.int .i64 (c.b b).wear) ∧ w.cell? ⟨p, b * 4 + 2, none⟩ = some (.bool (c.b b).weak) ∧ w.cell? ⟨p, b * 4 + 3, none⟩ = some (.bool (c.b b).bad) := by
  have e : ∀ j, j < 4 → w.cell? ⟨p, b * 4 + j, none⟩ = (blkL V c b)[j]? := fun j hj => by
    rw [h.blk.cell, List.getElem?_toArray, chipL_at V c u hb hj]
  exact ⟨e 0 (by omega), e 1 (by omega), e 2 (by omega), e 3 (by omega)⟩
theorem ChipV.tail (h : ChipV B w p V c u) : w.cell? ⟨p, 96, none⟩ = some (.int .i64 c.fuse) ∧ w.cell? ⟨p, 97, none⟩ = some (.bool c.down) ∧ w.cell? ⟨p, 98, none⟩ = some u := by
  have e : ∀ j, w.cell? ⟨p, 96 + j, none⟩ = [Value.int .i64 c.fuse, .bool c.down, u][j]? := fun j => by
    rw [h.blk.cell, List.getElem?_toArray, chipL_tail V c u]
  exact ⟨e 0, e 1, e 2⟩
theorem ChipV.keep (h : ChipV B w p V c u) (hf : Fr B M w w') (hM : ¬ M p) : ChipV B w' p V c u :=
  ⟨h.blk.fr hf (.inr (.inl hM)), fun b hb => (h.rows b hb).fr hf (by decide), h.base⟩
theorem ChipV.below (h : ChipV B w p V c u) (hb : Below w.heap.size w w') : ChipV B w' p V c u := h.keep (M := fun _ => False) (.of_below hb) id
theorem ChipV.drewN (h : ChipV B w p V c u) (n : Nat) : ChipV B (w.drewN n) p V c u := ⟨h.blk, h.rows, h.base⟩
theorem UndoR.keep {o : Option Pend} (h : UndoR w p c u o) (hf : Fr B M w w') : UndoR w' p c u o := by
  match o, h with
  | none, h => exact h
  | some (.wr b d), ⟨qh, qd, bx, bn, bd, h1, h2, h3, h4, h5, h6⟩ =>
    exact ⟨qh, qd, bx, bn, bd, h1, h2.fr hf (.inr (.inr (by decide))), h3.fr hf (.inr (.inr (by decide))), h4.fr hf (.inr (.inr (by decide))), h5.fr hf (.inr (.inr (by decide))), h6.fr hf (.inr (.inr (by decide)))⟩
  | some (.er b), ⟨qh, qd, bx, h1, h2, h3, h4⟩ =>
    exact ⟨qh, qd, bx, h1, h2.fr hf (.inr (.inr (by decide))), h3.fr hf (.inr (.inr (by decide))), h4.fr hf (.inr (.inr (by decide)))⟩
theorem ChipR.keep (h : ChipR B w p c) (hf : Fr B M w w') (hM : ¬ M p) : ChipR B w' p c := by
  obtain ⟨V, u, h1, h2, h3⟩ := h
  exact ⟨V, u, h1.keep hf hM, h2.keep hf, h3⟩
theorem ChipR.below (h : ChipR B w p c) (hb : Below w.heap.size w w') : ChipR B w' p c := h.keep (M := fun _ => False) (.of_below hb) id
theorem ChipR.drewN (h : ChipR B w p c) (n : Nat) : ChipR B (w.drewN n) p c := by
  obtain ⟨V, u, h1, h2, h3⟩ := h
  exact ⟨V, u, h1.drewN n, h2.keep (B := 0) (M := fun _ => False) ((Fr.refl _ _ _).drewN n), h3⟩
theorem ChipR.wf (h : ChipR B w p c) : CWf c := by obtain ⟨V, u, h1, h2, h3⟩ := h; exact h3
theorem ChipR.lt (h : ChipR B w p c) : p < w.heap.size := by obtain ⟨V, u, h1, h2, h3⟩ := h; exact h1.blk.lt
/-- A store into a block of another type, that the call has made. -/
theorem Rd.far {T sz n : Nat} {v : Value} {xs : List Value} (h : Rd B T sz w v n xs) {g o : Nat} {cs : Array Value} {T' : TypeId} {fz : Nat × Nat} (hg : w.heap[g]? = some (.cells cs T' fz)) (hB : B ≤ g) (hT : T' ≠ T) (x : Value) :
    Rd B T sz (w.setCell ⟨g, o, none⟩ x) v n xs := by
  refine h.keep fun k hk hlt => Below.heap_setCell _ _ _ _ fun e => ?_
  have e' : k = g := e
  subst e'
  rcases hk with hk | ⟨cs', fz', hk⟩
  · omega
  · rw [hg] at hk
    injection hk with hk
    injection hk with _ e
    exact hT e
/-- A store into a block's cells. -/
theorem ChipV.set_ (h : ChipV B w p V c u) {V' : Nat → Value} {c' : Chip} {b j : Nat} {x : Value} (hb : b < 24) (hj : j < 4) (h1 : ∀ i, i < 24 → i ≠ b → blkL V' c' i = blkL V c i) (h2 : blkL V' c' b = (blkL V c b).set j x)
    (h3 : c'.fuse = c.fuse ∧ c'.down = c.down) (h4 : ∀ b, b < 24 → Rd B 91 2 w (V' b) (c'.b b).l.length (sheetL (c'.b b).l)) : ChipV B (w.setCell ⟨p, b * 4 + j, none⟩ x) p V' c' u := by
  refine ⟨?_, fun b hb => (h4 b hb).far h.blk h.base (by decide) _, h.base⟩
  have := h.blk.set_ (b * 4 + j) x
  rw [List.setIfInBounds_toArray, chipL_set hb hj h1 h2 ⟨h3.1, h3.2, rfl⟩] at this
  exact this
theorem ChipV.setT (h : ChipV B w p V c u) {c' : Chip} {u' : Value} {j : Nat} {x : Value} (hj : j < 3) (h1 : c'.b = c.b)
    (h3 : [Value.int .i64 c'.fuse, .bool c'.down, u'] = [Value.int .i64 c.fuse, .bool c.down, u].set j x) : ChipV B (w.setCell ⟨p, 96 + j, none⟩ x) p V c' u' := by
  refine ⟨?_, fun b hb => by rw [h1]; exact (h.rows b hb).far h.blk h.base (by decide) _, h.base⟩
  have := h.blk.set_ (96 + j) x
  rw [List.setIfInBounds_toArray, chipL_setT hj h1 h3] at this
  exact this
/-- A store into the chip's block stays within its footprint. -/
theorem fr_chip {w0 : World} (h : Fr B (· = p) w0 w) (hc : ChipV B w p V c u) (o : Nat) (x : Value) (hk : p < w0.heap.size → ∃ cs T fz, w0.heap[p]? = some (.cells cs T fz) ∧ mutT T = true) : Fr B (· = p) w0 (w.setCell ⟨p, o, none⟩ x) :=
  h.setCell hc.base (.inl rfl) hk x
theorem ChipV.mut (h : ChipV B w p V c u) : p < w.heap.size → ∃ cs T fz, w.heap[p]? = some (.cells cs T fz) ∧ mutT T = true := fun _ => ⟨_, _, _, h.blk, by decide⟩
end

section
variable {w : World} {p : Nat} {c c' : Chip} {u : Value}
theorem UndoR.like {o : Option Pend} (h : UndoR w p c u o) (hl : ∀ b, (c'.b b).l.length = (c.b b).l.length) : UndoR w p c' u o := by
  match o, h with
  | none, h => exact h
  | some (.wr b d), h => simp only [UndoR]; rw [hl b]; exact h
  | some (.er b), h => exact h
end
/-- The slice of a block's pages written out. -/
theorem sheets_form {B : Nat} {w : World} {v : Value} {l : List Sheet} (h : Rd B 91 2 w v l.length (sheetL l)) : ∃ A c, v = .slice A l.length c ∧ l.length ≤ c ∧ c ≤ 9223372036854775807 ∧
    (l.length = 0 ∨ ∃ b o, A = some ⟨b, o, none⟩) ∧
    ∀ i s, l[i]? = some s → ∃ b o, A = some ⟨b, o, none⟩ ∧ b < w.heap.size ∧ w.cell? ⟨b, o + i * 2, none⟩ = some (.string s.d) ∧ w.cell? ⟨b, o + i * 2 + 1, none⟩ = some (.bool s.t) := by
  obtain ⟨_, A, c, h1, h2, h3, h4⟩ := h
  refine ⟨A, c, h1, h2, h3, ?_, fun i s hi => ?_⟩
  · rcases Nat.eq_zero_or_pos l.length with h0 | h0
    · exact .inl h0
    · obtain ⟨b, o, hA, _⟩ := h4 h0
      exact .inr ⟨b, o, hA⟩
  · have hlt : i < l.length := by
      rcases Nat.lt_or_ge i l.length with h | h
      · exact h
      · rw [List.getElem?_eq_none h] at hi; cases hi
    obtain ⟨b, o, hA, _, hb, hc⟩ := h4 (by omega)
    obtain ⟨f1, f2⟩ := sheetL_at hi
    exact ⟨b, o, hA, hb, hc _ _ f1, hc _ _ f2⟩
end Go.Proofs.YtaepdbkfaoiimabGreatDoor
/- The contracts of package chip: what its functions do is what the plain model does. Conditions: none but the sizes of any memory. -/
set_option linter.unusedVariables false
set_option linter.unusedSimpArgs false
namespace Go.Proofs.YtaepdbkfaoiimabGreatDoor
open Go.RowKit

/-! ### the small ones -/
theorem next_any (B p : Nat) (c : Chip) (b : Int) (w : World) (h : ChipR B w p c) (h0 : 0 ≤ b) (h1 : b < 24) :
    Calls Tryz.prog 45 #[.pointer (some ⟨p, 0, none⟩), .int .i64 b] w fun e w' => e = .returned (.int .i64 (c.b b.toNat).l.length) ∧ w = w' := by
  obtain ⟨V, u, hv, _, _⟩ := h
  obtain ⟨n, rfl⟩ := Int.eq_ofNat_of_zero_le h0
  have hn : n < 24 := by omega
  have hc := (hv.cell hn).1
  have hr := hv.rows n hn
  rw [Int.toNat_natCast]
  obtain ⟨_, A, cap, h2, h3, h4, _⟩ := hr
  rw [h2] at hc
  clear h2 hv
  go_enter Tryz.func45, Tryz.ntmps45
  go_wp2_with fail
  go_ret
  exact ⟨rfl, rfl⟩
theorem bad_any (B p : Nat) (c : Chip) (b : Int) (w : World) (h : ChipR B w p c) (h0 : 0 ≤ b) (h1 : b < 24) :
    Calls Tryz.prog 76 #[.pointer (some ⟨p, 0, none⟩), .int .i64 b] w fun e w' => e = .returned (.bool (c.b b.toNat).bad) ∧ w = w' := by
  obtain ⟨V, u, hv, _, _⟩ := h
  obtain ⟨n, rfl⟩ := Int.eq_ofNat_of_zero_le h0
  have hc := (hv.cell (b := n) (by omega)).2.2.2
  rw [Int.toNat_natCast]
  clear hv
  go_enter Tryz.func76, Tryz.ntmps76
  go_wp2_with fail
  go_ret
  exact ⟨rfl, rfl⟩
theorem wear_any (B p : Nat) (c : Chip) (b : Int) (w : World) (h : ChipR B w p c) (h0 : 0 ≤ b) (h1 : b < 24) :
    Calls Tryz.prog 78 #[.pointer (some ⟨p, 0, none⟩), .int .i64 b] w fun e w' => e = .returned (.int .i64 (c.b b.toNat).wear) ∧ w = w' := by
  obtain ⟨V, u, hv, _, _⟩ := h
  obtain ⟨n, rfl⟩ := Int.eq_ofNat_of_zero_le h0
  have hc := (hv.cell (b := n) (by omega)).2.1
  rw [Int.toNat_natCast]
  clear hv
  go_enter Tryz.func78, Tryz.ntmps78
  go_wp2_with fail
  go_ret
  exact ⟨rfl, rfl⟩
theorem cnew_any (B : Nat) (w : World) (hB : B ≤ w.heap.size) :
    Calls Tryz.prog 9 #[] w fun e w' => ∃ p, e = .returned (.pointer (some ⟨p, 0, none⟩)) ∧ w.heap.size ≤ p ∧ ChipR B w' p Chip.new ∧ Below w.heap.size w w' := by
  go_enter Tryz.func9, Tryz.ntmps9
  go_wp2_with fail
  go_ret
  refine ⟨w.heap.size, rfl, Nat.le_refl _, ⟨fun _ => .slice none 0 0, .nilFunc, ⟨?_, fun b hb => Rd.nil _ _ _ _, hB⟩, rfl, CWf.new⟩, (Below.refl _ _).alloc (Nat.le_refl _) _⟩
  have h := Blk.new w 67 (chipL (fun _ => .slice none 0 0) Chip.new .nilFunc).toArray
  exact h
theorem arm_any (B p : Nat) (c : Chip) (n : Int) (w : World) (h : ChipR B w p c) (hn : n ≤ 9223372036854775807) :
    Calls Tryz.prog 63 #[.pointer (some ⟨p, 0, none⟩), .int .i64 n] w fun e w' => e = .returned (.tuple #[]) ∧ ChipR B w' p (c.arm n) ∧ Fr B (· = p) w w' := by
  obtain ⟨V, u, hv, hu, hwf⟩ := h
  have hc := hv.tail.1
  have hfz := hv.blk.frozen 96
  have HV := Lib.hid hv
  have HU := Lib.hid hu
  have HW := Lib.hid hwf
  clear hv hu hwf
  go_enter Tryz.func63, Tryz.ntmps63
  go_wp2_with fail
  all_goals
    go_end0
    have e : (c.arm n).fuse = max n (-1) := rfl
    refine ⟨rfl, ⟨V, u, HV.out.setT (c' := c.arm n) (j := 0) (by omega) rfl ?_, HU.out.keep (fr_chip (Fr.refl B _ w) HV.out _ _ HV.out.mut), HW.out.arm_ hn⟩, fr_chip (Fr.refl B _ w) HV.out _ _ HV.out.mut⟩
    rw [e]
    show [Value.int .i64 (max n (-1)), _, _] = _
    congr 2 <;> omega
theorem UndoR.weaken {w : World} {p : Nat} {c : Chip} {u : Value} {o : Option Pend} (h : UndoR w p c u o) (b : Int) : UndoR w p (c.weaken b).1 u o := by
  refine h.like fun i => ?_
  unfold Chip.weaken
  split
  · rfl
  · simp only [Chip.set]; split <;> simp_all
theorem weaken_any (B p : Nat) (c : Chip) (b : Int) (w : World) (h : ChipR B w p c) :
    Calls Tryz.prog 62 #[.pointer (some ⟨p, 0, none⟩), .int .i64 b] w fun e w' => e = .returned (errV (c.weaken b).2) ∧ ChipR B w' p (c.weaken b).1 ∧ Fr B (· = p) w w' := by
  by_cases hb : b < 2 ∨ 24 ≤ b
  · have e : c.weaken b = (c, 1) := if_pos hb
    rw [e]
    have HR := Lib.hid h
    clear h e
    rcases hb with hb | hb
    · go_enter Tryz.func62, Tryz.ntmps62
      go_wp2_with fail
      go_ret
      exact ⟨rfl, HR.out, Fr.refl _ _ _⟩
    · have hb2 : ¬ b < 2 := by omega
      go_enter Tryz.func62, Tryz.ntmps62
      go_wp2_with fail
      go_ret
      exact ⟨rfl, HR.out, Fr.refl _ _ _⟩
  · have e : c.weaken b = (c.set b.toNat { c.b b.toNat with weak := true }, 0) := if_neg hb
    obtain ⟨V, u, hv, hu, hwf⟩ := h
    have hu' := hu.weaken b
    have hw' := hwf.weaken_ b
    rw [e] at hu' hw' ⊢
    obtain ⟨n, rfl⟩ := Int.eq_ofNat_of_zero_le (show 0 ≤ b by omega)
    have hn : n < 24 := by omega
    have hn2 : ¬ ((n : Int) < 2) := by omega
    have hn3 : ¬ (24 ≤ (n : Int)) := by omega
    rw [Int.toNat_natCast] at *
    have hc := (hv.cell hn).2.2.1
    have hfz := hv.blk.frozen (n * 4 + 2)
    have HV := Lib.hid hv
    have HU := Lib.hid hu'
    have HW := Lib.hid hw'
    clear hv hu hwf hu' hw' e hb
    go_enter Tryz.func62, Tryz.ntmps62
    go_wp2_with fail
    go_ret
    refine ⟨rfl, ⟨V, u, HV.out.set_ (c' := c.set n { c.b n with weak := true }) (b := n) (j := 2) hn (by omega) (fun i hi hne => ?_) ?_ ⟨rfl, rfl⟩ (fun b hb => ?_), HU.out.keep (fr_chip (Fr.refl B _ w) HV.out _ _ HV.out.mut), HW.out⟩, fr_chip (Fr.refl B _ w) HV.out _ _ HV.out.mut⟩
    · simp only [blkL]; rw [Chip.set_far _ _ hne]
    · simp only [blkL, Chip.set_same, List.set_cons_succ, List.set_cons_zero]
    · have := HV.out.rows b hb
      by_cases hbn : b = n
      · subst hbn; rw [Chip.set_same]; exact this
      · rw [Chip.set_far _ _ hbn]; exact this
theorem ready_any (B p : Nat) (c : Chip) (b : Int) (w : World) (h : ChipR B w p c) :
    Calls Tryz.prog 38 #[.pointer (some ⟨p, 0, none⟩), .int .i64 b] w fun e w' => e = .returned (errV (c.ready b)) ∧ w = w' := by
  obtain ⟨V, u, hv, _, _⟩ := h
  have hd := hv.tail.2.1
  cases hdn : c.down
  · rw [hdn] at hd
    by_cases hb : b < 0 ∨ 24 ≤ b
    · have e : c.ready b = 1 := by unfold Chip.ready; rw [hdn, if_neg (by simp), if_pos hb]
      rw [e]
      clear hv e hdn
      rcases hb with hb | hb
      · go_enter Tryz.func38, Tryz.ntmps38
        go_wp2_with fail
        go_ret
        exact ⟨rfl, rfl⟩
      · have hb2 : ¬ b < 0 := by omega
        go_enter Tryz.func38, Tryz.ntmps38
        go_wp2_with fail
        go_ret
        exact ⟨rfl, rfl⟩
    · obtain ⟨n, rfl⟩ := Int.eq_ofNat_of_zero_le (show 0 ≤ b by omega)
      have hn : n < 24 := by omega
      have hc := (hv.cell hn).2.2.2
      have hn2 : ¬ ((n : Int) < 0) := by omega
      have hn3 : ¬ (24 ≤ (n : Int)) := by omega
      have hn4 : decide (24 ≤ (n : Int)) = false := by simpa using hn3
      have e : c.ready n = if (c.b n).bad then 7 else 0 := by unfold Chip.ready; rw [hdn, if_neg (by simp), if_neg hb, Int.toNat_natCast]
      rw [e]
      clear hv e hdn hb
      cases hbd : (c.b n).bad <;> rw [hbd] at hc <;> clear hbd
      all_goals
        go_enter Tryz.func38, Tryz.ntmps38
        go_wp2_with fail
        go_ret
        exact ⟨rfl, rfl⟩
  · rw [hdn] at hd
    have e : c.ready b = 9 := by unfold Chip.ready; rw [hdn, if_pos rfl]
    rw [e]
    clear hv e hdn
    go_enter Tryz.func38, Tryz.ntmps38
    go_wp2_with fail
    go_ret
    exact ⟨rfl, rfl⟩
theorem Chip.spoil_len (c : Chip) (n i : Nat) : ((c.spoil n).b i).l = (c.b i).l := by
  unfold Chip.spoil
  split
  · simp only [Chip.set]; split <;> simp_all
  · rfl
theorem spoil_any (B p : Nat) (c : Chip) (n : Nat) (w : World) (h : ChipR B w p c) (hn : n < 24) (hd : c.down = false) (hbad : (c.b n).bad = false) :
    Calls Tryz.prog 39 #[.pointer (some ⟨p, 0, none⟩), .int .i64 n] w fun e w' => e = .returned (.bool (c.b n).weak) ∧ ChipR B w' p (c.spoil n) ∧ Fr B (· = p) w w' := by
  have hwf' := h.wf.spoil_ n hd
  have hlen := Chip.spoil_len c n
  obtain ⟨V, u, hv, hu, hwf⟩ := h
  have hc1 := (hv.cell hn).2.2.1
  have hc2 := (hv.cell hn).2.2.2
  have hfz := hv.blk.frozen (n * 4 + 3)
  rw [hbad] at hc2
  have HV := Lib.hid hv
  have hu' : UndoR w p (c.spoil n) u (c.spoil n).pend := by
    have e : (c.spoil n).pend = c.pend := by unfold Chip.spoil; split <;> rfl
    rw [e]
    exact hu.like fun i => by rw [hlen]
  have HU := Lib.hid hu'
  have HW := Lib.hid hwf'
  have HBAD := Lib.hid hbad
  clear hv hu hwf hwf' hu' hbad
  cases hw : (c.b n).weak
  · rw [hw] at hc1
    have e : c.spoil n = c := by unfold Chip.spoil; rw [hw]; rfl
    rw [e] at HU HW hlen ⊢
    clear hw hlen e
    go_enter Tryz.func39, Tryz.ntmps39
    go_wp2_with fail
    go_ret
    exact ⟨rfl, ⟨V, u, HV.out, HU.out, HW.out⟩, Fr.refl _ _ _⟩
  · rw [hw] at hc1
    have e : c.spoil n = c.set n { c.b n with bad := true } := by unfold Chip.spoil; rw [hw]; rfl
    have E := Lib.hid e
    clear hw hlen e
    go_enter Tryz.func39, Tryz.ntmps39
    go_wp2_with fail
    go_ret
    refine ⟨rfl, ⟨V, u, HV.out.set_ (c' := c.spoil n) (b := n) (j := 3) hn (by omega) (fun i hi hne => ?_) ?_ ?_ (fun b hb => ?_), HU.out.keep (fr_chip (Fr.refl B _ w) HV.out _ _ HV.out.mut), HW.out⟩, fr_chip (Fr.refl B _ w) HV.out _ _ HV.out.mut⟩
    · rw [E.out]; simp only [blkL]; rw [Chip.set_far _ _ hne]
    · rw [E.out]; simp only [blkL, Chip.set_same, List.set_cons_succ, List.set_cons_zero]
    · rw [E.out]; exact ⟨rfl, rfl⟩
    · rw [Chip.spoil_len]; exact HV.out.rows b hb
set_option maxHeartbeats 1000000 in
theorem cread_any (B p : Nat) (c : Chip) (b q : Int) (w : World) (h : ChipR B w p c) :
    Calls Tryz.prog 51 #[.pointer (some ⟨p, 0, none⟩), .int .i64 b, .int .i64 q] w fun e w' => e = .returned (.tuple #[.string (c.read b q).1, errV (c.read b q).2]) ∧ w = w' := by
  have fin : ∀ (s : ByteArray) (n : Nat), c.read b q = (s, n) → ∀ (tmps : Array Value), tmps[6]? = some (.string s) → tmps[7]? = some (errV n) →
      bodyPost Tryz.prog Tryz.f51 (fun e w' => e = .returned (.tuple #[.string (c.read b q).1, errV (c.read b q).2]) ∧ w = w') .ret { tmps := tmps, defers := [] } w := by
    intro s n e tmps h6 h7
    rw [e]
    exact bodyPost_ret (v := .tuple #[.string s, errV n]) (by simp [results, Tryz.results51, go_sem, h6, h7]) rfl ⟨rfl, rfl⟩
  have FIN := Lib.hid fin
  clear fin
  obtain ⟨V, u, hv, _, _⟩ := h
  have hd := hv.tail.2.1
  cases hdn : c.down
  · rw [hdn] at hd
    by_cases hb : b < 0 ∨ 24 ≤ b ∨ q < 0 ∨ 8 ≤ q
    · have e : c.read b q = (ByteArray.empty, 1) := by unfold Chip.read; rw [hdn, if_neg (by simp), if_pos hb]
      have E := Lib.hid e
      clear hv e hdn
      by_cases h1 : b < 0
      · go_enter Tryz.func51, Tryz.ntmps51
        go_wp2_with fail
        exact FIN.out _ 1 E.out _ rfl rfl
      · by_cases h2 : 24 ≤ b
        · clear hb
          go_enter Tryz.func51, Tryz.ntmps51
          go_wp2_with fail
          exact FIN.out _ 1 E.out _ rfl rfl
        · by_cases h3 : q < 0
          · clear hb
            go_enter Tryz.func51, Tryz.ntmps51
            go_wp2_with fail
            exact FIN.out _ 1 E.out _ rfl rfl
          · have h4 : 8 ≤ q := by omega
            clear hb
            go_enter Tryz.func51, Tryz.ntmps51
            go_wp2_with fail
            exact FIN.out _ 1 E.out _ rfl rfl
    · obtain ⟨n, rfl⟩ := Int.eq_ofNat_of_zero_le (show 0 ≤ b by omega)
      obtain ⟨k, rfl⟩ := Int.eq_ofNat_of_zero_le (show 0 ≤ q by omega)
      have hn : n < 24 := by omega
      have hk : k < 8 := by omega
      have hc := (hv.cell hn).1
      obtain ⟨A, cap, h1, h2, h3, hA, h4⟩ := sheets_form (hv.rows n hn)
      rw [h1] at hc
      have e : c.read n k = match (c.b n).l[k]? with
          | none => (ByteArray.empty, 5)
          | some s => if s.t then (ByteArray.empty, 4) else (s.d, 0) := by
        unfold Chip.read; rw [hdn, if_neg (by simp), if_neg hb, Int.toNat_natCast, Int.toNat_natCast]; try rfl
      have n1 : ¬ ((n : Int) < 0) := by omega
      have n2 : ¬ (24 ≤ (n : Int)) := by omega
      have n3 : ¬ ((k : Int) < 0) := by omega
      have n4 : ¬ (8 ≤ (k : Int)) := by omega
      have H4 := Lib.hid h4
      have E := Lib.hid e
      clear hv e hdn hb h1 h4
      by_cases hkl : k < (c.b n).l.length
      · obtain ⟨s, hs, _, _⟩ := getElem?_of_lt hkl
        obtain ⟨bb, o, rfl, hbb, c1, c2⟩ := H4.out k s hs
        have g1 : (0 : Int) ≤ (k : Int) := by omega
        have g2 : (k : Int) < ((c.b n).l.length : Int) := by omega
        have t1 : decide (((c.b n).l.length : Int) ≤ (k : Int)) = false := decide_eq_false (by omega)
        have HE : Hid (c.read n k = if s.t then (ByteArray.empty, 4) else (s.d, 0)) := by rw [Hid, E.out, hs]
        clear hA hs E
        cases hst : s.t
        · rw [hst] at c2 HE
          clear hst
          go_enter Tryz.func51, Tryz.ntmps51
          go_wp2_with fail
          exact FIN.out _ 0 HE.out _ rfl rfl
        · rw [hst] at c2 HE
          clear hst
          go_enter Tryz.func51, Tryz.ntmps51
          go_wp2_with fail
          exact FIN.out _ 4 HE.out _ rfl rfl
      · have HE : Hid (c.read n k = (ByteArray.empty, 5)) := by rw [Hid, E.out, List.getElem?_eq_none (by omega)]
        have t1 : decide (((c.b n).l.length : Int) ≤ (k : Int)) = true := decide_eq_true (by omega)
        clear hA E
        go_enter Tryz.func51, Tryz.ntmps51
        go_wp2_with fail
        exact FIN.out _ 5 HE.out _ rfl rfl
  · rw [hdn] at hd
    have e : c.read b q = (ByteArray.empty, 9) := by unfold Chip.read; rw [hdn, if_pos rfl]
    have E := Lib.hid e
    clear hv e hdn
    go_enter Tryz.func51, Tryz.ntmps51
    go_wp2_with fail
    exact FIN.out _ 9 E.out _ rfl rfl
end Go.Proofs.YtaepdbkfaoiimabGreatDoor
/- The closures of package chip that a page is written by, and Write. Conditions: none but the sizes of any memory. -/
set_option linter.unusedVariables false
set_option linter.unusedSimpArgs false
namespace Go.Proofs.YtaepdbkfaoiimabGreatDoor
open Go.RowKit

theorem info_page : (Tryz.prog.info? 91).map (fun i => (i.zero, i.size, i.bytes)) = some (some (.agg #[.string ByteArray.empty, .bool false]), 2, 24) := by kernel_rfl
/-- The cells of block n behind a page more. -/
theorem ChipV.snoc {B : Nat} {w : World} {p : Nat} {V : Nat → Value} {c : Chip} {u : Value} (h : ChipV B w p V c u) {n : Nat} (hn : n < 24) (s : Sheet) {v : Value}
    (hr : Rd B 91 2 w v ((c.b n).l.length + 1) (sheetL (c.b n).l ++ [.string s.d, .bool s.t])) :
    ChipV B (w.setCell ⟨p, n * 4, none⟩ v) p (fun i => if i = n then v else V i) (c.set n { c.b n with l := (c.b n).l ++ [s] }) u := by
  refine h.set_ (b := n) (j := 0) hn (by omega) (fun i hi hne => ?_) ?_ ⟨rfl, rfl⟩ (fun i hi => ?_)
  · simp only [blkL]; rw [Chip.set_far _ _ hne, if_neg hne]
  · simp [blkL]
  · by_cases e : i = n
    · subst e
      rw [Chip.set_same, if_pos rfl]
      rw [sheetL_snoc]
      simpa using hr
    · rw [Chip.set_far _ _ e, if_neg e]
      exact h.rows i hi

theorem rd_at {B T sz n : Nat} {w : World} {xs : List Value} {A : Option Addr} {m cap : Nat} (h : Rd B T sz w (.slice A m cap) n xs) : 0 < n → ∃ b o, A = some ⟨b, o, none⟩ ∧ Kd B T w b ∧ b < w.heap.size ∧ ∀ j u, xs[j]? = some u → w.cell? ⟨b, o + j, none⟩ = some u := by
  obtain ⟨_, A', cap', e, _, _, h5⟩ := h
  cases e
  exact h5
theorem rd_form {B T sz n : Nat} {w : World} {xs : List Value} {v : Value} (h : Rd B T sz w v n xs) : ∃ A cap, v = .slice A n cap := by
  obtain ⟨_, A', cap', e, _⟩ := h
  exact ⟨A', cap', e⟩
theorem blk_ne {w : World} {g : Nat} {T T' : TypeId} {cs cs' : Array Value} (h : Blk w g T cs) (h' : Blk w g T' cs') (hT : T ≠ T') : False := by
  unfold Blk at h h'
  rw [h] at h'
  injection h' with h'
  injection h' with _ e
  exact hT e
set_option maxHeartbeats 4000000 in
theorem write1_any (B p n bx bn bd : Nat) (V : Nat → Value) (c : Chip) (u : Value) (d : ByteArray) (w : World) (hv : ChipV B w p V c u) (hn : n < 24) (hl : (c.b n).l.length < 8)
    (h1 : Blk w bx 88 #[.pointer (some ⟨p, n * 4, none⟩)]) (h2 : Blk w bn 3 #[.int .i64 (c.b n).l.length]) (h3 : Blk w bd 9 #[.string d]) :
    Calls Tryz.prog 81 #[.pointer (some ⟨bx, 0, none⟩), .pointer (some ⟨bn, 0, none⟩), .pointer (some ⟨bd, 0, none⟩)] w fun e w' =>
      e = .returned (.tuple #[]) ∧ (∃ V', ChipV B w' p V' (doP c (.wr n d)) u) ∧ Fr B (· = p) w w' := by
  have hc := (hv.cell hn).1
  obtain ⟨A, cap, hV, k2, k3, kA, k4⟩ := sheets_form (hv.rows n hn)
  have hrow := hv.rows n hn
  rw [hV] at hc hrow
  have x1 := h1.cell 0
  have x2 := h2.cell 0
  have x3 := h3.cell 0
  simp at x1 x2 x3
  have hfz := hv.blk.frozen (n * 4)
  have HV := Lib.hid hv
  have HR := Lib.hid hrow
  have HK := Lib.hid k4
  have HKA := Lib.hid kA
  have H1 := Lib.hid h1
  have H2 := Lib.hid h2
  have H3 := Lib.hid h3
  have NE : Hid (p ≠ bx ∧ p ≠ bn ∧ p ≠ bd) := ⟨fun e => by have := h1; rw [← e] at this; exact blk_ne hv.blk this (by decide), fun e => by have := h2; rw [← e] at this; exact blk_ne hv.blk this (by decide), fun e => by have := h3; rw [← e] at this; exact blk_ne hv.blk this (by decide)⟩
  clear hv hV h1 h2 h3 hrow k4 kA
  obtain ⟨i0, hi, hz0, hz1, hz2⟩ := info_parts info_page
  have g0 : (0 : Int) ≤ ((c.b n).l.length : Int) := by omega
  have g1 : ((c.b n).l.length : Int) ≤ (cap : Int) := by omega
  have HBA : Hid (Below w.heap.size w (w.alloc (.cells #[.string d, .bool false] 91)).drew) := ((Below.refl w.heap.size w).alloc (Nat.le_refl _) _).drew
  have HNEW : Hid (∀ (j : Nat) (u : Value), [Value.string d, .bool false][j]? = some u → (w.alloc (.cells #[.string d, .bool false] 91)).drew.cell? ((Addr.mk w.heap.size 0 none).add j) = some u) := by
    intro j u hu
    have h := (Blk.drewN (Blk.new w 91 #[.string d, .bool false]) 1).cell (0 + j)
    rw [addr_add]
    refine h.trans ?_
    simpa using hu
  have HX : Hid ((w.alloc (.cells #[.string d, .bool false] 91)).drew.cell? ⟨bx, 0, none⟩ = some (.pointer (some ⟨p, n * 4, none⟩)) ∧ (w.alloc (.cells #[.string d, .bool false] 91)).drew.cell? ⟨bn, 0, none⟩ = some (.int .i64 (c.b n).l.length) ∧ (w.alloc (.cells #[.string d, .bool false] 91)).drew.cell? ⟨bd, 0, none⟩ = some (.string d)) :=
    ⟨(HBA.out.cell (p := ⟨bx, 0, none⟩) H1.out.lt).trans x1, (HBA.out.cell (p := ⟨bn, 0, none⟩) H2.out.lt).trans x2, (HBA.out.cell (p := ⟨bd, 0, none⟩) H3.out.lt).trans x3⟩
  have HOLD : Hid (∀ b, A = some b → ∀ j u, (sheetL (c.b n).l)[j]? = some u → (w.alloc (.cells #[.string d, .bool false] 91)).drew.cell? (b.add j) = some u) := by
    intro b hb j u hu
    have h5 := rd_at HR.out
    have hj : 0 < (c.b n).l.length := by
      have hs := sheetL_len (c.b n).l
      rcases Nat.lt_or_ge j (sheetL (c.b n).l).length with h | h
      · clear h5; omega
      · rw [List.getElem?_eq_none h] at hu; cases hu
    obtain ⟨g, o, e, _, hlt, h6⟩ := h5 hj
    obtain rfl : b = ⟨g, o, none⟩ := Option.some.inj (hb.symm.trans e)
    rw [addr_add]
    exact (HBA.out.cell (p := ⟨g, o + j, none⟩) hlt).trans (h6 j u hu)
  have HN0 : Hid (A = none → (c.b n).l.length = 0 ∧ (c.b n).l.length = 0) := by
    intro e
    rcases HKA.out with h | ⟨b, o, h⟩
    · exact ⟨h, h⟩
    · rw [e] at h; cases h
  go_enter Tryz.func81, Tryz.ntmps81
  go_wp2_with fail
  refine wp_region_held_drew (S := fun w' => w'.cell? ⟨bx, 0, none⟩ = some (.pointer (some ⟨p, n * 4, none⟩)) ∧ w'.cell? ⟨bn, 0, none⟩ = some (.int .i64 (c.b n).l.length) ∧ w'.cell? ⟨bd, 0, none⟩ = some (.string d)) (by kernel_rfl) ?_ (fun hHeld => ?_)
  · exact ⟨x1, x2, x3⟩
  refine wpAnyH_take (i := 0) (oi := ⟨some 3, _, _, _, _, _⟩) (v := .pointer (some ⟨p, n * 4, none⟩)) rfl (by kernel_rfl) (by kernel_rfl) (by kernel_rfl) (fun _ _ _ h => h) (Or.inl ⟨by rfl, ?_⟩) (by assumption) ?_
  · intro wS hSw
    go_simp
  simp only [Act.put, List.setIfInBounds_toArray, List.set_cons_zero, List.set_cons_succ]
  refine wpAnyH_take (i := 1) (oi := ⟨some 4, _, _, _, _, _⟩) (v := .pointer (some ⟨p, n * 4, none⟩)) rfl (by kernel_rfl) (by kernel_rfl) (by kernel_rfl) (fun _ _ _ h => h) (Or.inl ⟨by rfl, ?_⟩) (by assumption) ?_
  · intro wS hSw
    go_simp
  simp only [Act.put, List.setIfInBounds_toArray, List.set_cons_zero, List.set_cons_succ]
  refine wpAnyH_take (i := 2) (oi := ⟨some 5, _, _, _, _, _⟩) (v := .pointer (some ⟨p, n * 4, none⟩)) rfl (by kernel_rfl) (by kernel_rfl) (by kernel_rfl) (fun _ _ _ h => h) (Or.inl ⟨by rfl, ?_⟩) (by assumption) ?_
  · intro wS hSw
    go_simp
  simp only [Act.put, List.setIfInBounds_toArray, List.set_cons_zero, List.set_cons_succ]
  refine wpAnyH_take (i := 3) (oi := ⟨some 6, _, _, _, _, _⟩) (v := .pointer (some ⟨p, n * 4, none⟩)) rfl (by kernel_rfl) (by kernel_rfl) (by kernel_rfl) (fun _ _ _ h => h) (Or.inl ⟨by rfl, ?_⟩) (by assumption) ?_
  · intro wS hSw
    go_simp
  simp only [Act.put, List.setIfInBounds_toArray, List.set_cons_zero, List.set_cons_succ]
  refine wpAnyH_take (i := 5) (oi := ⟨some 8, _, _, _, _, _⟩) (v := .int .i64 (c.b n).l.length) rfl (by kernel_rfl) (by kernel_rfl) (by kernel_rfl) (fun _ _ _ h => h) (Or.inl ⟨by rfl, ?_⟩) (by assumption) ?_
  · intro wS hSw
    go_simp
  simp only [Act.put, List.setIfInBounds_toArray, List.set_cons_zero, List.set_cons_succ]
  refine wpAnyH_take (i := 6) (oi := ⟨some 9, _, _, _, _, _⟩) (v := .int .i64 (c.b n).l.length) rfl (by kernel_rfl) (by kernel_rfl) (by kernel_rfl) (fun _ _ _ h => h) (Or.inl ⟨by rfl, ?_⟩) (by assumption) ?_
  · intro wS hSw
    go_simp
  simp only [Act.put, List.setIfInBounds_toArray, List.set_cons_zero, List.set_cons_succ]
  refine wpAnyH_take (i := 8) (oi := ⟨some 11, _, _, _, _, _⟩) (v := .string d) rfl (by kernel_rfl) (by kernel_rfl) (by kernel_rfl) (fun _ _ _ h => h) (Or.inl ⟨by rfl, ?_⟩) (by assumption) ?_
  · intro wS hSw
    go_simp
  simp only [Act.put, List.setIfInBounds_toArray, List.set_cons_zero, List.set_cons_succ]
  refine wpAnyH_take (i := 9) (oi := ⟨some 12, _, _, _, _, _⟩) (v := .agg #[.string d, .bool false]) rfl (by kernel_rfl) (by kernel_rfl) (by kernel_rfl) (fun _ _ _ h => h) (Or.inl ⟨by rfl, ?_⟩) (by assumption) ?_
  · intro wS hSw
    go_simp
  simp only [Act.put, List.setIfInBounds_toArray, List.set_cons_zero, List.set_cons_succ]
  refine wpAnyH_ready (rs := [4, 10]) (by kernel_rfl) (by simp) ?_
  refine AllReadyH.cons (o := ⟨some 7, _, _, _, _, _⟩) rfl (fun K hK => ?_) ?_
  · go_simp
    refine hK.out _ _ ?_ (fun hHeld => ?_)
    · exact hHeld
    clear hK K
    try simp only [Act.put, List.setIfInBounds_toArray, List.set_cons_zero, List.set_cons_succ]
    refine wpAnyH_take (i := 7) (oi := ⟨some 10, _, _, _, _, _⟩) (v := .slice A (c.b n).l.length (c.b n).l.length) rfl (by kernel_rfl) (by kernel_rfl) (by kernel_rfl) (fun _ _ _ h => h) (Or.inl ⟨by rfl, ?_⟩) (by assumption) ?_
    · intro wS hSw
      go_simp
    simp only [Act.put, List.setIfInBounds_toArray, List.set_cons_zero, List.set_cons_succ]
    refine wpAnyH_ready (rs := [10]) (by kernel_rfl) (by simp) ?_
    refine AllReadyH.cons (o := ⟨some 13, _, _, _, _, _⟩) rfl (fun K hK => ?_) ?_
    · go_simp
      refine hK.out _ _ ?_ (fun hHeld => ?_)
      · exact HX.out
      clear hK K
      try simp only [Act.put, List.setIfInBounds_toArray, List.set_cons_zero, List.set_cons_succ]
      refine wpAnyH_ready (rs := [11]) (by kernel_rfl) (by simp) ?_
      refine AllReadyH.cons (o := ⟨some 14, _, _, _, _, _⟩) rfl (fun K hK => ?_) ?_
      refine step_append_grows rfl (.tmp 10) (.tmp 13) 61 rfl 91 i0 _ 2 24 Tryz.underlying61 hi hz0 hz1 hz2 rfl (by decide) A (c.b n).l.length (c.b n).l.length (sheetL (c.b n).l) (by rfl) HN0.out (sheetL_len _) HOLD.out ⟨w.heap.size, 0, none⟩ 1 1 [Value.string d, .bool false] (by rfl) (by rfl) HNEW.out (by simp [Value.oneCell']) (by omega) (by unfold maxLen; omega) (by omega) ?_
      intro v1 w1 hown1 hg1
      obtain ⟨A1, cap1, rfl⟩ := rd_form (B := w.heap.size) (Rd.of_own hown1)
      have hb1 := HBA.out.grown hg1 HBA.out.size (fun k e => by cases e)
      have hv1 := HV.out.below hb1
      have y1 := (H1.out.below hb1 H1.out.lt).cell 0
      have y2 := (H2.out.below hb1 H2.out.lt).cell 0
      have y3 := (H3.out.below hb1 H3.out.lt).cell 0
      simp at y1 y2 y3
      refine hK.out _ _ ?_ (fun hHeld => ?_)
      · exact ⟨y1, y2, y3⟩
      clear hK K
      have HO1 := Lib.hid hown1
      have HB1 := Lib.hid hb1
      have HV1 := Lib.hid hv1
      clear hown1 hg1 hb1 hv1
      simp only [Act.put, List.setIfInBounds_toArray, List.set_cons_zero, List.set_cons_succ]
      refine wpAnyH_take (i := 12) (oi := ⟨some 15, _, _, _, _, _⟩) (v := .pointer (some ⟨p, n * 4, none⟩)) rfl (by kernel_rfl) (by kernel_rfl) (by kernel_rfl) (fun _ _ _ h => h) (Or.inl ⟨by rfl, ?_⟩) (by assumption) ?_
      · intro wS hSw
        go_simp
      simp only [Act.put, List.setIfInBounds_toArray, List.set_cons_zero, List.set_cons_succ]
      refine wpAnyH_take (i := 13) (oi := ⟨some 16, _, _, _, _, _⟩) (v := .pointer (some ⟨p, n * 4, none⟩)) rfl (by kernel_rfl) (by kernel_rfl) (by kernel_rfl) (fun _ _ _ h => h) (Or.inl ⟨by rfl, ?_⟩) (by assumption) ?_
      · intro wS hSw
        go_simp
      simp only [Act.put, List.setIfInBounds_toArray, List.set_cons_zero, List.set_cons_succ]
      refine wpAnyH_ready (rs := [14]) (by kernel_rfl) (by simp) ?_
      refine AllReadyH.cons (o := ⟨none, _, _, _, _, _⟩) rfl (fun K hK => ?_) ?_
      have q1 := (HV1.out.cell hn).1
      have q2 := HV1.out.blk.frozen (n * 4)
      have hrow1 : Hid (Rd B 91 2 w1 (.slice A1 ((c.b n).l.length + 1) cap1) ((c.b n).l.length + 1) (sheetL (c.b n).l ++ [Value.string d, .bool false])) := Rd.of_own HO1.out
      go_simp
      refine hK.out _ _ ?_ (fun hHeld => ?_)
      · exact ⟨by rw [World.cell?_setCell_far _ _ _ _ NE.out.1]; exact hHeld.1, by rw [World.cell?_setCell_far _ _ _ _ NE.out.2.1]; exact hHeld.2.1, by rw [World.cell?_setCell_far _ _ _ _ NE.out.2.2]; exact hHeld.2.2⟩
      clear hK K
      refine wpAnyH_done (by kernel_rfl) ?_ _
      go_end0
      refine ⟨rfl, ⟨_, HV1.out.snoc hn ⟨d, false⟩ hrow1.out⟩, ?_⟩
      exact fr_chip (Fr.of_below HB1.out) HV1.out _ _ HV.out.mut
      all_goals exact AllReadyH.nil
    · exact AllReadyH.nil
  · refine AllReadyH.cons (o := ⟨some 13, _, _, _, _, _⟩) rfl (fun K hK => ?_) ?_
    · go_simp
      refine hK.out _ _ ?_ (fun hHeld => ?_)
      · exact HX.out
      clear hK K
      try simp only [Act.put, List.setIfInBounds_toArray, List.set_cons_zero, List.set_cons_succ]
      refine wpAnyH_ready (rs := [4]) (by kernel_rfl) (by simp) ?_
      refine AllReadyH.cons (o := ⟨some 7, _, _, _, _, _⟩) rfl (fun K hK => ?_) ?_
      have hcA := (HBA.out.cell (p := ⟨p, n * 4, none⟩) HV.out.blk.lt).trans hc
      · go_simp
        refine hK.out _ _ ?_ (fun hHeld => ?_)
        · exact hHeld
        clear hK K
        try simp only [Act.put, List.setIfInBounds_toArray, List.set_cons_zero, List.set_cons_succ]
        refine wpAnyH_take (i := 7) (oi := ⟨some 10, _, _, _, _, _⟩) (v := .slice A (c.b n).l.length (c.b n).l.length) rfl (by kernel_rfl) (by kernel_rfl) (by kernel_rfl) (fun _ _ _ h => h) (Or.inl ⟨by rfl, ?_⟩) (by assumption) ?_
        · intro wS hSw
          go_simp
        simp only [Act.put, List.setIfInBounds_toArray, List.set_cons_zero, List.set_cons_succ]
        refine wpAnyH_ready (rs := [11]) (by kernel_rfl) (by simp) ?_
        refine AllReadyH.cons (o := ⟨some 14, _, _, _, _, _⟩) rfl (fun K hK => ?_) ?_
        refine step_append_grows rfl (.tmp 10) (.tmp 13) 61 rfl 91 i0 _ 2 24 Tryz.underlying61 hi hz0 hz1 hz2 rfl (by decide) A (c.b n).l.length (c.b n).l.length (sheetL (c.b n).l) (by rfl) HN0.out (sheetL_len _) HOLD.out ⟨w.heap.size, 0, none⟩ 1 1 [Value.string d, .bool false] (by rfl) (by rfl) HNEW.out (by simp [Value.oneCell']) (by omega) (by unfold maxLen; omega) (by omega) ?_
        intro v1 w1 hown1 hg1
        obtain ⟨A1, cap1, rfl⟩ := rd_form (B := w.heap.size) (Rd.of_own hown1)
        have hb1 := HBA.out.grown hg1 HBA.out.size (fun k e => by cases e)
        have hv1 := HV.out.below hb1
        have y1 := (H1.out.below hb1 H1.out.lt).cell 0
        have y2 := (H2.out.below hb1 H2.out.lt).cell 0
        have y3 := (H3.out.below hb1 H3.out.lt).cell 0
        simp at y1 y2 y3
        refine hK.out _ _ ?_ (fun hHeld => ?_)
        · exact ⟨y1, y2, y3⟩
        clear hK K
        have HO1 := Lib.hid hown1
        have HB1 := Lib.hid hb1
        have HV1 := Lib.hid hv1
        clear hown1 hg1 hb1 hv1
        simp only [Act.put, List.setIfInBounds_toArray, List.set_cons_zero, List.set_cons_succ]
        refine wpAnyH_take (i := 12) (oi := ⟨some 15, _, _, _, _, _⟩) (v := .pointer (some ⟨p, n * 4, none⟩)) rfl (by kernel_rfl) (by kernel_rfl) (by kernel_rfl) (fun _ _ _ h => h) (Or.inl ⟨by rfl, ?_⟩) (by assumption) ?_
        · intro wS hSw
          go_simp
        simp only [Act.put, List.setIfInBounds_toArray, List.set_cons_zero, List.set_cons_succ]
        refine wpAnyH_take (i := 13) (oi := ⟨some 16, _, _, _, _, _⟩) (v := .pointer (some ⟨p, n * 4, none⟩)) rfl (by kernel_rfl) (by kernel_rfl) (by kernel_rfl) (fun _ _ _ h => h) (Or.inl ⟨by rfl, ?_⟩) (by assumption) ?_
        · intro wS hSw
          go_simp
        simp only [Act.put, List.setIfInBounds_toArray, List.set_cons_zero, List.set_cons_succ]
        refine wpAnyH_ready (rs := [14]) (by kernel_rfl) (by simp) ?_
        refine AllReadyH.cons (o := ⟨none, _, _, _, _, _⟩) rfl (fun K hK => ?_) ?_
        have q1 := (HV1.out.cell hn).1
        have q2 := HV1.out.blk.frozen (n * 4)
        have hrow1 : Hid (Rd B 91 2 w1 (.slice A1 ((c.b n).l.length + 1) cap1) ((c.b n).l.length + 1) (sheetL (c.b n).l ++ [Value.string d, .bool false])) := Rd.of_own HO1.out
        go_simp
        refine hK.out _ _ ?_ (fun hHeld => ?_)
        · exact ⟨by rw [World.cell?_setCell_far _ _ _ _ NE.out.1]; exact hHeld.1, by rw [World.cell?_setCell_far _ _ _ _ NE.out.2.1]; exact hHeld.2.1, by rw [World.cell?_setCell_far _ _ _ _ NE.out.2.2]; exact hHeld.2.2⟩
        clear hK K
        refine wpAnyH_done (by kernel_rfl) ?_ _
        go_end0
        refine ⟨rfl, ⟨_, HV1.out.snoc hn ⟨d, false⟩ hrow1.out⟩, ?_⟩
        exact fr_chip (Fr.of_below HB1.out) HV1.out _ _ HV.out.mut
        all_goals exact AllReadyH.nil
      · exact AllReadyH.nil
    · exact AllReadyH.nil
set_option maxHeartbeats 4000000 in
theorem write2_any (B p n bx bn : Nat) (V : Nat → Value) (c : Chip) (u : Value) (d : ByteArray) (w : World) (hv : ChipV B w p V c u) (hn : n < 24) (hl : (c.b n).l.length < 8)
    (h1 : Blk w bx 88 #[.pointer (some ⟨p, n * 4, none⟩)]) (h2 : Blk w bn 3 #[.int .i64 (c.b n).l.length]) :
    Calls Tryz.prog 82 #[.pointer (some ⟨bx, 0, none⟩), .pointer (some ⟨bn, 0, none⟩)] w fun e w' =>
      e = .returned (.tuple #[]) ∧ (∃ V', ChipV B w' p V' (halfP c (.wr n d)) u) ∧ Fr B (· = p) w w' := by
  have hc := (hv.cell hn).1
  obtain ⟨A, cap, hV, k2, k3, kA, k4⟩ := sheets_form (hv.rows n hn)
  have hrow := hv.rows n hn
  rw [hV] at hc hrow
  have x1 := h1.cell 0
  have x2 := h2.cell 0
  simp at x1 x2
  have hfz := hv.blk.frozen (n * 4)
  have HV := Lib.hid hv
  have HR := Lib.hid hrow
  have HK := Lib.hid k4
  have HKA := Lib.hid kA
  have H1 := Lib.hid h1
  have H2 := Lib.hid h2
  have NE : Hid (p ≠ bx ∧ p ≠ bn) := ⟨fun e => by have := h1; rw [← e] at this; exact blk_ne hv.blk this (by decide), fun e => by have := h2; rw [← e] at this; exact blk_ne hv.blk this (by decide)⟩
  clear hv hV h1 h2 hrow k4 kA
  obtain ⟨i0, hi, hz0, hz1, hz2⟩ := info_parts info_page
  have g0 : (0 : Int) ≤ ((c.b n).l.length : Int) := by omega
  have g1 : ((c.b n).l.length : Int) ≤ (cap : Int) := by omega
  have HBA : Hid (Below w.heap.size w (w.alloc (.cells #[.string ⟨#[]⟩, .bool true] 91)).drew) := ((Below.refl w.heap.size w).alloc (Nat.le_refl _) _).drew
  have HNEW : Hid (∀ (j : Nat) (u : Value), [Value.string ⟨#[]⟩, .bool true][j]? = some u → (w.alloc (.cells #[.string ⟨#[]⟩, .bool true] 91)).drew.cell? ((Addr.mk w.heap.size 0 none).add j) = some u) := by
    intro j u hu
    have h := (Blk.drewN (Blk.new w 91 #[.string ⟨#[]⟩, .bool true]) 1).cell (0 + j)
    rw [addr_add]
    refine h.trans ?_
    simpa using hu
  have HX : Hid ((w.alloc (.cells #[.string ⟨#[]⟩, .bool true] 91)).drew.cell? ⟨bx, 0, none⟩ = some (.pointer (some ⟨p, n * 4, none⟩)) ∧ (w.alloc (.cells #[.string ⟨#[]⟩, .bool true] 91)).drew.cell? ⟨bn, 0, none⟩ = some (.int .i64 (c.b n).l.length)) :=
    ⟨(HBA.out.cell (p := ⟨bx, 0, none⟩) H1.out.lt).trans x1, (HBA.out.cell (p := ⟨bn, 0, none⟩) H2.out.lt).trans x2⟩
  have HOLD : Hid (∀ b, A = some b → ∀ j u, (sheetL (c.b n).l)[j]? = some u → (w.alloc (.cells #[.string ⟨#[]⟩, .bool true] 91)).drew.cell? (b.add j) = some u) := by
    intro b hb j u hu
    have h5 := rd_at HR.out
    have hj : 0 < (c.b n).l.length := by
      have hs := sheetL_len (c.b n).l
      rcases Nat.lt_or_ge j (sheetL (c.b n).l).length with h | h
      · clear h5; omega
      · rw [List.getElem?_eq_none h] at hu; cases hu
    obtain ⟨g, o, e, _, hlt, h6⟩ := h5 hj
    obtain rfl : b = ⟨g, o, none⟩ := Option.some.inj (hb.symm.trans e)
    rw [addr_add]
    exact (HBA.out.cell (p := ⟨g, o + j, none⟩) hlt).trans (h6 j u hu)
  have HN0 : Hid (A = none → (c.b n).l.length = 0 ∧ (c.b n).l.length = 0) := by
    intro e
    rcases HKA.out with h | ⟨b, o, h⟩
    · exact ⟨h, h⟩
    · rw [e] at h; cases h
  go_enter Tryz.func82, Tryz.ntmps82
  go_wp2_with fail
  refine wp_region_held_drew (S := fun w' => w'.cell? ⟨bx, 0, none⟩ = some (.pointer (some ⟨p, n * 4, none⟩)) ∧ w'.cell? ⟨bn, 0, none⟩ = some (.int .i64 (c.b n).l.length)) (by kernel_rfl) ?_ (fun hHeld => ?_)
  · exact ⟨x1, x2⟩
  refine wpAnyH_take (i := 0) (oi := ⟨some 2, _, _, _, _, _⟩) (v := .pointer (some ⟨p, n * 4, none⟩)) rfl (by kernel_rfl) (by kernel_rfl) (by kernel_rfl) (fun _ _ _ h => h) (Or.inl ⟨by rfl, ?_⟩) (by assumption) ?_
  · intro wS hSw
    go_simp
  simp only [Act.put, List.setIfInBounds_toArray, List.set_cons_zero, List.set_cons_succ]
  refine wpAnyH_take (i := 1) (oi := ⟨some 3, _, _, _, _, _⟩) (v := .pointer (some ⟨p, n * 4, none⟩)) rfl (by kernel_rfl) (by kernel_rfl) (by kernel_rfl) (fun _ _ _ h => h) (Or.inl ⟨by rfl, ?_⟩) (by assumption) ?_
  · intro wS hSw
    go_simp
  simp only [Act.put, List.setIfInBounds_toArray, List.set_cons_zero, List.set_cons_succ]
  refine wpAnyH_take (i := 2) (oi := ⟨some 4, _, _, _, _, _⟩) (v := .pointer (some ⟨p, n * 4, none⟩)) rfl (by kernel_rfl) (by kernel_rfl) (by kernel_rfl) (fun _ _ _ h => h) (Or.inl ⟨by rfl, ?_⟩) (by assumption) ?_
  · intro wS hSw
    go_simp
  simp only [Act.put, List.setIfInBounds_toArray, List.set_cons_zero, List.set_cons_succ]
  refine wpAnyH_take (i := 3) (oi := ⟨some 5, _, _, _, _, _⟩) (v := .pointer (some ⟨p, n * 4, none⟩)) rfl (by kernel_rfl) (by kernel_rfl) (by kernel_rfl) (fun _ _ _ h => h) (Or.inl ⟨by rfl, ?_⟩) (by assumption) ?_
  · intro wS hSw
    go_simp
  simp only [Act.put, List.setIfInBounds_toArray, List.set_cons_zero, List.set_cons_succ]
  refine wpAnyH_take (i := 5) (oi := ⟨some 7, _, _, _, _, _⟩) (v := .int .i64 (c.b n).l.length) rfl (by kernel_rfl) (by kernel_rfl) (by kernel_rfl) (fun _ _ _ h => h) (Or.inl ⟨by rfl, ?_⟩) (by assumption) ?_
  · intro wS hSw
    go_simp
  simp only [Act.put, List.setIfInBounds_toArray, List.set_cons_zero, List.set_cons_succ]
  refine wpAnyH_take (i := 6) (oi := ⟨some 8, _, _, _, _, _⟩) (v := .int .i64 (c.b n).l.length) rfl (by kernel_rfl) (by kernel_rfl) (by kernel_rfl) (fun _ _ _ h => h) (Or.inl ⟨by rfl, ?_⟩) (by assumption) ?_
  · intro wS hSw
    go_simp
  simp only [Act.put, List.setIfInBounds_toArray, List.set_cons_zero, List.set_cons_succ]
  refine wpAnyH_take (i := 8) (oi := ⟨some 10, _, _, _, _, _⟩) (v := .agg #[.string ⟨#[]⟩, .bool true]) rfl (by kernel_rfl) (by kernel_rfl) (by kernel_rfl) (fun _ _ _ h => h) (Or.inl ⟨by rfl, ?_⟩) (by assumption) ?_
  · intro wS hSw
    go_simp
  simp only [Act.put, List.setIfInBounds_toArray, List.set_cons_zero, List.set_cons_succ]
  refine wpAnyH_ready (rs := [4, 9]) (by kernel_rfl) (by simp) ?_
  refine AllReadyH.cons (o := ⟨some 6, _, _, _, _, _⟩) rfl (fun K hK => ?_) ?_
  · go_simp
    refine hK.out _ _ ?_ (fun hHeld => ?_)
    · exact hHeld
    clear hK K
    try simp only [Act.put, List.setIfInBounds_toArray, List.set_cons_zero, List.set_cons_succ]
    refine wpAnyH_take (i := 7) (oi := ⟨some 9, _, _, _, _, _⟩) (v := .slice A (c.b n).l.length (c.b n).l.length) rfl (by kernel_rfl) (by kernel_rfl) (by kernel_rfl) (fun _ _ _ h => h) (Or.inl ⟨by rfl, ?_⟩) (by assumption) ?_
    · intro wS hSw
      go_simp
    simp only [Act.put, List.setIfInBounds_toArray, List.set_cons_zero, List.set_cons_succ]
    refine wpAnyH_ready (rs := [9]) (by kernel_rfl) (by simp) ?_
    refine AllReadyH.cons (o := ⟨some 11, _, _, _, _, _⟩) rfl (fun K hK => ?_) ?_
    · go_simp
      refine hK.out _ _ ?_ (fun hHeld => ?_)
      · exact HX.out
      clear hK K
      try simp only [Act.put, List.setIfInBounds_toArray, List.set_cons_zero, List.set_cons_succ]
      refine wpAnyH_ready (rs := [10]) (by kernel_rfl) (by simp) ?_
      refine AllReadyH.cons (o := ⟨some 12, _, _, _, _, _⟩) rfl (fun K hK => ?_) ?_
      refine step_append_grows rfl (.tmp 9) (.tmp 11) 61 rfl 91 i0 _ 2 24 Tryz.underlying61 hi hz0 hz1 hz2 rfl (by decide) A (c.b n).l.length (c.b n).l.length (sheetL (c.b n).l) (by rfl) HN0.out (sheetL_len _) HOLD.out ⟨w.heap.size, 0, none⟩ 1 1 [Value.string ⟨#[]⟩, .bool true] (by rfl) (by rfl) HNEW.out (by simp [Value.oneCell']) (by omega) (by unfold maxLen; omega) (by omega) ?_
      intro v1 w1 hown1 hg1
      obtain ⟨A1, cap1, rfl⟩ := rd_form (B := w.heap.size) (Rd.of_own hown1)
      have hb1 := HBA.out.grown hg1 HBA.out.size (fun k e => by cases e)
      have hv1 := HV.out.below hb1
      have y1 := (H1.out.below hb1 H1.out.lt).cell 0
      have y2 := (H2.out.below hb1 H2.out.lt).cell 0
      skip
      simp at y1 y2
      refine hK.out _ _ ?_ (fun hHeld => ?_)
      · exact ⟨y1, y2⟩
      clear hK K
      have HO1 := Lib.hid hown1
      have HB1 := Lib.hid hb1
      have HV1 := Lib.hid hv1
      clear hown1 hg1 hb1 hv1
      simp only [Act.put, List.setIfInBounds_toArray, List.set_cons_zero, List.set_cons_succ]
      refine wpAnyH_take (i := 11) (oi := ⟨some 13, _, _, _, _, _⟩) (v := .pointer (some ⟨p, n * 4, none⟩)) rfl (by kernel_rfl) (by kernel_rfl) (by kernel_rfl) (fun _ _ _ h => h) (Or.inl ⟨by rfl, ?_⟩) (by assumption) ?_
      · intro wS hSw
        go_simp
      simp only [Act.put, List.setIfInBounds_toArray, List.set_cons_zero, List.set_cons_succ]
      refine wpAnyH_take (i := 12) (oi := ⟨some 14, _, _, _, _, _⟩) (v := .pointer (some ⟨p, n * 4, none⟩)) rfl (by kernel_rfl) (by kernel_rfl) (by kernel_rfl) (fun _ _ _ h => h) (Or.inl ⟨by rfl, ?_⟩) (by assumption) ?_
      · intro wS hSw
        go_simp
      simp only [Act.put, List.setIfInBounds_toArray, List.set_cons_zero, List.set_cons_succ]
      refine wpAnyH_ready (rs := [13]) (by kernel_rfl) (by simp) ?_
      refine AllReadyH.cons (o := ⟨none, _, _, _, _, _⟩) rfl (fun K hK => ?_) ?_
      have q1 := (HV1.out.cell hn).1
      have q2 := HV1.out.blk.frozen (n * 4)
      have hrow1 : Hid (Rd B 91 2 w1 (.slice A1 ((c.b n).l.length + 1) cap1) ((c.b n).l.length + 1) (sheetL (c.b n).l ++ [Value.string ⟨#[]⟩, .bool true])) := Rd.of_own HO1.out
      go_simp
      refine hK.out _ _ ?_ (fun hHeld => ?_)
      · exact ⟨by rw [World.cell?_setCell_far _ _ _ _ NE.out.1]; exact hHeld.1, by rw [World.cell?_setCell_far _ _ _ _ NE.out.2]; exact hHeld.2⟩
      clear hK K
      refine wpAnyH_done (by kernel_rfl) ?_ _
      go_end0
      refine ⟨rfl, ⟨_, HV1.out.snoc hn torn hrow1.out⟩, ?_⟩
      exact fr_chip (Fr.of_below HB1.out) HV1.out _ _ HV.out.mut
      all_goals exact AllReadyH.nil
    · exact AllReadyH.nil
  · refine AllReadyH.cons (o := ⟨some 11, _, _, _, _, _⟩) rfl (fun K hK => ?_) ?_
    · go_simp
      refine hK.out _ _ ?_ (fun hHeld => ?_)
      · exact HX.out
      clear hK K
      try simp only [Act.put, List.setIfInBounds_toArray, List.set_cons_zero, List.set_cons_succ]
      refine wpAnyH_ready (rs := [4]) (by kernel_rfl) (by simp) ?_
      refine AllReadyH.cons (o := ⟨some 6, _, _, _, _, _⟩) rfl (fun K hK => ?_) ?_
      have hcA := (HBA.out.cell (p := ⟨p, n * 4, none⟩) HV.out.blk.lt).trans hc
      · go_simp
        refine hK.out _ _ ?_ (fun hHeld => ?_)
        · exact hHeld
        clear hK K
        try simp only [Act.put, List.setIfInBounds_toArray, List.set_cons_zero, List.set_cons_succ]
        refine wpAnyH_take (i := 7) (oi := ⟨some 9, _, _, _, _, _⟩) (v := .slice A (c.b n).l.length (c.b n).l.length) rfl (by kernel_rfl) (by kernel_rfl) (by kernel_rfl) (fun _ _ _ h => h) (Or.inl ⟨by rfl, ?_⟩) (by assumption) ?_
        · intro wS hSw
          go_simp
        simp only [Act.put, List.setIfInBounds_toArray, List.set_cons_zero, List.set_cons_succ]
        refine wpAnyH_ready (rs := [10]) (by kernel_rfl) (by simp) ?_
        refine AllReadyH.cons (o := ⟨some 12, _, _, _, _, _⟩) rfl (fun K hK => ?_) ?_
        refine step_append_grows rfl (.tmp 9) (.tmp 11) 61 rfl 91 i0 _ 2 24 Tryz.underlying61 hi hz0 hz1 hz2 rfl (by decide) A (c.b n).l.length (c.b n).l.length (sheetL (c.b n).l) (by rfl) HN0.out (sheetL_len _) HOLD.out ⟨w.heap.size, 0, none⟩ 1 1 [Value.string ⟨#[]⟩, .bool true] (by rfl) (by rfl) HNEW.out (by simp [Value.oneCell']) (by omega) (by unfold maxLen; omega) (by omega) ?_
        intro v1 w1 hown1 hg1
        obtain ⟨A1, cap1, rfl⟩ := rd_form (B := w.heap.size) (Rd.of_own hown1)
        have hb1 := HBA.out.grown hg1 HBA.out.size (fun k e => by cases e)
        have hv1 := HV.out.below hb1
        have y1 := (H1.out.below hb1 H1.out.lt).cell 0
        have y2 := (H2.out.below hb1 H2.out.lt).cell 0
        skip
        simp at y1 y2
        refine hK.out _ _ ?_ (fun hHeld => ?_)
        · exact ⟨y1, y2⟩
        clear hK K
        have HO1 := Lib.hid hown1
        have HB1 := Lib.hid hb1
        have HV1 := Lib.hid hv1
        clear hown1 hg1 hb1 hv1
        simp only [Act.put, List.setIfInBounds_toArray, List.set_cons_zero, List.set_cons_succ]
        refine wpAnyH_take (i := 11) (oi := ⟨some 13, _, _, _, _, _⟩) (v := .pointer (some ⟨p, n * 4, none⟩)) rfl (by kernel_rfl) (by kernel_rfl) (by kernel_rfl) (fun _ _ _ h => h) (Or.inl ⟨by rfl, ?_⟩) (by assumption) ?_
        · intro wS hSw
          go_simp
        simp only [Act.put, List.setIfInBounds_toArray, List.set_cons_zero, List.set_cons_succ]
        refine wpAnyH_take (i := 12) (oi := ⟨some 14, _, _, _, _, _⟩) (v := .pointer (some ⟨p, n * 4, none⟩)) rfl (by kernel_rfl) (by kernel_rfl) (by kernel_rfl) (fun _ _ _ h => h) (Or.inl ⟨by rfl, ?_⟩) (by assumption) ?_
        · intro wS hSw
          go_simp
        simp only [Act.put, List.setIfInBounds_toArray, List.set_cons_zero, List.set_cons_succ]
        refine wpAnyH_ready (rs := [13]) (by kernel_rfl) (by simp) ?_
        refine AllReadyH.cons (o := ⟨none, _, _, _, _, _⟩) rfl (fun K hK => ?_) ?_
        have q1 := (HV1.out.cell hn).1
        have q2 := HV1.out.blk.frozen (n * 4)
        have hrow1 : Hid (Rd B 91 2 w1 (.slice A1 ((c.b n).l.length + 1) cap1) ((c.b n).l.length + 1) (sheetL (c.b n).l ++ [Value.string ⟨#[]⟩, .bool true])) := Rd.of_own HO1.out
        go_simp
        refine hK.out _ _ ?_ (fun hHeld => ?_)
        · exact ⟨by rw [World.cell?_setCell_far _ _ _ _ NE.out.1]; exact hHeld.1, by rw [World.cell?_setCell_far _ _ _ _ NE.out.2]; exact hHeld.2⟩
        clear hK K
        refine wpAnyH_done (by kernel_rfl) ?_ _
        go_end0
        refine ⟨rfl, ⟨_, HV1.out.snoc hn torn hrow1.out⟩, ?_⟩
        exact fr_chip (Fr.of_below HB1.out) HV1.out _ _ HV.out.mut
        all_goals exact AllReadyH.nil
      · exact AllReadyH.nil
    · exact AllReadyH.nil
end Go.Proofs.YtaepdbkfaoiimabGreatDoor
/- A step of the chip, Write, Erase and Restart. Conditions: none but the sizes of any memory. -/
set_option linter.unusedVariables false
set_option linter.unusedSimpArgs false
namespace Go.Proofs.YtaepdbkfaoiimabGreatDoor
open Go.RowKit

theorem hmf (fn : Fn) (first cap : Array Value) (w : World) : (Instr.makeFunc fn first cap).run Tryz.prog w = .ok (.func fn first cap) w := rfl
attribute [local go_sem] hmf
set_option maxHeartbeats 1000000 in
theorem step_fall (B p : Nat) (V : Nat → Value) (c : Chip) (u : Value) (F1 F2 : Nat) (k1 k2 : Array Value) (w : World) (hv : ChipV B w p V c u) (hf : c.fuse = 0) :
    Calls Tryz.prog 40 #[.pointer (some ⟨p, 0, none⟩), .func (.func F1) #[] k1, .func (.func F2) #[] k2] w fun e w' => e = .returned (errV 9) ∧ (∃ qh qd,
      ChipV B w' p V { c with down := true } (.func (.func 75) #[] #[.pointer (some ⟨qh, 0, none⟩), .pointer (some ⟨qd, 0, none⟩)]) ∧
      Blk w' qh 1 #[.func (.func F2) #[] k2] ∧ Blk w' qd 1 #[.func (.func F1) #[] k1]) ∧ Fr B (· = p) w w' := by
  have c1 := hv.tail.1
  have c2 := hv.tail.2.1
  have c3 := hv.tail.2.2
  rw [hf] at c1
  have z2 := hv.blk.frozen 97
  have z3 := hv.blk.frozen 98
  have HV := Lib.hid hv
  have HF := Lib.hid hf
  have hlt := hv.blk.lt
  clear hv hf
  go_enter Tryz.func40, Tryz.ntmps40
  go_wp2_with fail
  go_ret
  have v1 := HV.out.setT (c' := { c with down := true }) (u' := u) (j := 1) (by omega) rfl (x := .bool true) rfl
  have v2 := v1.setT (c' := { c with down := true }) (u' := .func (.func 75) #[] #[.pointer (some ⟨w.heap.size + 1, 0, none⟩), .pointer (some ⟨w.heap.size, 0, none⟩)]) (j := 2) (by omega) rfl rfl
  have f1 := fr_chip (fr_chip (Fr.refl B (· = p) w) HV.out 97 (.bool true) HV.out.mut) v1 98 (.func (.func 75) #[] #[.pointer (some ⟨w.heap.size + 1, 0, none⟩), .pointer (some ⟨w.heap.size, 0, none⟩)]) HV.out.mut
  generalize hw2 : (w.setCell ⟨p, 97, none⟩ (.bool true)).setCell ⟨p, 98, none⟩ (.func (.func 75) #[] #[.pointer (some ⟨w.heap.size + 1, 0, none⟩), .pointer (some ⟨w.heap.size, 0, none⟩)]) = w2 at *
  have hsz : w2.heap.size = w.heap.size := by rw [← hw2]; simp [World.setCell]
  have q1 := (Blk.new w2 1 #[.func (.func F1) #[] k1]).alloc (.cells #[.func (.func F2) #[] k2] 1)
  have q2 := Blk.new (w2.alloc (.cells #[.func (.func F1) #[] k1] 1)) 1 #[.func (.func F2) #[] k2]
  rw [World.size_alloc, hsz] at q2
  rw [hsz] at q1
  exact ⟨rfl, ⟨_, _, v2.below (((Below.refl _ _).alloc (Nat.le_refl _) _).alloc (by simp) _), q2, q1⟩, (f1.alloc _).alloc _⟩
set_option maxRecDepth 20000 in
set_option maxHeartbeats 1000000 in
theorem step_go (B p : Nat) (V : Nat → Value) (c : Chip) (u : Value) (F1 F2 : Nat) (k1 k2 : Array Value) (w : World) (R : World → Prop) (hE : ∀ (args : Array Value) (w : World), (callFunc F1 args).run Tryz.prog w = .ok (.enter F1 args) w) (hv : ChipV B w p V c u) (hf : c.fuse ≠ 0) (hf1 : -1 ≤ c.fuse) (hf2 : c.fuse ≤ 9223372036854775807)
    (hd : ∀ w1, ChipV B w1 p V { c with fuse := if 0 < c.fuse then c.fuse - 1 else c.fuse } u → Fr B (· = p) w w1 → Calls Tryz.prog F1 k1 w1 fun e w2 => e = .returned (.tuple #[]) ∧ R w2 ∧ Fr B (· = p) w1 w2) :
    Calls Tryz.prog 40 #[.pointer (some ⟨p, 0, none⟩), .func (.func F1) #[] k1, .func (.func F2) #[] k2] w fun e w' => e = .returned (errV 0) ∧ R w' ∧ Fr B (· = p) w w' := by
  have c1 := hv.tail.1
  have c2 := hv.tail.2.1
  have c3 := hv.tail.2.2
  have z2 := hv.blk.frozen 96
  have HV := Lib.hid hv
  have HD := Lib.hid hd
  have hlt := hv.blk.lt
  clear hv hd
  have t1 : (c.fuse == 0) = false := by simpa using hf
  by_cases hp : 0 < c.fuse
  · clear hf
    go_enter Tryz.func40, Tryz.ntmps40
    go_wp2_with fail
    have e1 : (if 0 < c.fuse then c.fuse - 1 else c.fuse) = c.fuse - 1 := if_pos hp
    have v1 := HV.out.setT (c' := { c with fuse := c.fuse - 1 }) (u' := u) (j := 0) (by omega) rfl (x := .int .i64 (c.fuse - 1)) rfl
    have f1 := fr_chip (Fr.refl B (· = p) w) HV.out 96 (.int .i64 (c.fuse - 1)) HV.out.mut
    have hsz : (w.setCell ⟨p, 96, none⟩ (.int .i64 (c.fuse - 1))).heap.size = w.heap.size := by simp [World.setCell]
    have hb1 : Below (w.setCell ⟨p, 96, none⟩ (.int .i64 (c.fuse - 1))).heap.size (w.setCell ⟨p, 96, none⟩ (.int .i64 (c.fuse - 1))) (((w.setCell ⟨p, 96, none⟩ (.int .i64 (c.fuse - 1))).alloc (.cells #[.func (.func F1) #[] k1] 1)).alloc (.cells #[.func (.func F2) #[] k2] 1)) :=
      ((Below.refl _ _).alloc (Nat.le_refl _) _).alloc (by simp) _
    have hd := HD.out _ (by rw [e1]; exact v1.below hb1) ((f1.alloc _).alloc _)
    have f2 := (f1.alloc (.cells #[.func (.func F1) #[] k1] 1)).alloc (.cells #[.func (.func F2) #[] k2] 1)
    clear e1 v1 f1 hsz hb1 HD HV
    have HDD := Lib.hid hd
    have HF2 := Lib.hid f2
    clear hd f2
    refine HDD.out.mono ?_
    rintro e w2 ⟨rfl, hR, hf2⟩
    have HRR := Lib.hid hR
    have HFF := Lib.hid (HF2.out.trans hf2 (fun _ _ => trivial))
    clear hR hf2 HDD HF2 hE
    go_wp2_with fail
    go_ret
    exact ⟨rfl, HRR.out, HFF.out⟩
  · have t2 : decide (0 < c.fuse) = false := by simpa using hp
    have e1 : (if 0 < c.fuse then c.fuse - 1 else c.fuse) = c.fuse := if_neg hp
    have E1 := Lib.hid e1
    clear hf e1
    go_enter Tryz.func40, Tryz.ntmps40
    go_wp2_with fail
    have hb1 : Below w.heap.size w ((w.alloc (.cells #[.func (.func F1) #[] k1] 1)).alloc (.cells #[.func (.func F2) #[] k2] 1)) :=
      ((Below.refl _ _).alloc (Nat.le_refl _) _).alloc (by simp) _
    have hd := HD.out _ (by rw [E1.out]; exact HV.out.below hb1) (Fr.of_below hb1)
    have f2 : Fr B (· = p) w ((w.alloc (.cells #[.func (.func F1) #[] k1] 1)).alloc (.cells #[.func (.func F2) #[] k2] 1)) := Fr.of_below hb1
    clear hb1 HD HV
    have HDD := Lib.hid hd
    have HF2 := Lib.hid f2
    clear hd f2
    refine HDD.out.mono ?_
    rintro e w2 ⟨rfl, hR, hf2⟩
    have HRR := Lib.hid hR
    have HFF := Lib.hid (HF2.out.trans hf2 (fun _ _ => trivial))
    clear hR hf2 HDD HF2 hE
    go_wp2_with fail
    go_ret
    exact ⟨rfl, HRR.out, HFF.out⟩
/-- The cells of block n, erased. -/
theorem ChipV.clear {B : Nat} {w : World} {p : Nat} {V : Nat → Value} {c : Chip} {u : Value} (h : ChipV B w p V c u) {n : Nat} (hn : n < 24) {v : Value} (l : List Sheet) (x : Int)
    (hr : Rd B 91 2 w v l.length (sheetL l)) :
    ChipV B ((w.setCell ⟨p, n * 4, none⟩ v).setCell ⟨p, n * 4 + 1, none⟩ (.int .i64 x)) p (fun i => if i = n then v else V i) (c.set n { c.b n with l := l, wear := x }) u := by
  have h1 : ChipV B (w.setCell ⟨p, n * 4, none⟩ v) p (fun i => if i = n then v else V i) (c.set n { c.b n with l := l }) u := by
    refine h.set_ (b := n) (j := 0) hn (by omega) (fun i hi hne => ?_) ?_ ⟨rfl, rfl⟩ (fun i hi => ?_)
    · simp only [blkL]; rw [Chip.set_far _ _ hne, if_neg hne]
    · simp [blkL]
    · by_cases e : i = n
      · subst e
        rw [Chip.set_same, if_pos rfl]
        exact hr
      · rw [Chip.set_far _ _ e, if_neg e]
        exact h.rows i hi
  refine h1.set_ (b := n) (j := 1) hn (by omega) (fun i hi hne => ?_) ?_ ⟨rfl, rfl⟩ (fun i hi => ?_)
  · simp only [blkL]; rw [Chip.set_far _ _ hne, Chip.set_far _ _ hne]
  · simp [blkL]
  · have := h1.rows i hi
    by_cases e : i = n
    · subst e
      rw [Chip.set_same] at this ⊢
      exact this
    · rw [Chip.set_far _ _ e] at this ⊢
      exact this
set_option maxHeartbeats 1000000 in
theorem erase1_any (B p n bx : Nat) (V : Nat → Value) (c : Chip) (u : Value) (w : World) (hv : ChipV B w p V c u) (hn : n < 24) (h1 : Blk w bx 88 #[.pointer (some ⟨p, n * 4, none⟩)]) :
    Calls Tryz.prog 41 #[.pointer (some ⟨bx, 0, none⟩)] w fun e w' =>
      e = .returned (.tuple #[]) ∧ (∃ V', ChipV B w' p V' (doP c (.er n)) u) ∧ Fr B (· = p) w w' := by
  have c1 := (hv.cell hn).1
  have c2 := (hv.cell hn).2.1
  have x1 := h1.cell 0
  simp at x1
  have z1 := hv.blk.frozen (n * 4)
  have z2 := hv.blk.frozen (n * 4 + 1)
  have ne : ¬ p = bx := fun e => by rw [← e] at h1; exact blk_ne hv.blk h1 (by decide)
  have HV := Lib.hid hv
  clear hv h1
  go_enter Tryz.func41, Tryz.ntmps41
  go_wp2_with fail
  go_end0
  refine ⟨rfl, ⟨_, HV.out.clear hn [] (wrap64 ((c.b n).wear + 1)) (Rd.nil _ _ _ _)⟩, ?_⟩
  have v1 := HV.out.clear hn [] (wrap64 ((c.b n).wear + 1)) (Rd.nil _ _ _ _)
  exact (fr_chip (Fr.refl B (· = p) w) HV.out _ _ HV.out.mut).setCell HV.out.base (.inl rfl) HV.out.mut _
/-- n blank pages, and k of them torn. -/
def zeroPages (n : Nat) : List Value := sheetL (List.replicate n ⟨⟨#[]⟩, false⟩)
def tornPages (k n : Nat) : List Value := sheetL (List.replicate k torn ++ List.replicate n ⟨⟨#[]⟩, false⟩)
theorem sheetL_append (a b : List Sheet) : sheetL (a ++ b) = sheetL a ++ sheetL b := by simp [sheetL]
theorem tornPages_at (k n : Nat) : (tornPages k (n + 1))[k * 2 + 1]? = some (.bool false) := by
  unfold tornPages
  rw [sheetL_append, List.getElem?_append_right (by rw [sheetL_len]; simp), sheetL_len]
  simp [List.replicate_succ, sheetL]
theorem tornPages_set (k n : Nat) : (tornPages k (n + 1)).set (k * 2 + 1) (.bool true) = tornPages (k + 1) n := by
  unfold tornPages
  rw [sheetL_append, List.set_append_right _ _ (by rw [sheetL_len]; simp), sheetL_len]
  have e : List.replicate (k + 1) torn = List.replicate k torn ++ [torn] := by rw [List.replicate_succ']
  rw [e, sheetL_append, sheetL_append, List.append_assoc]
  have e2 : k * 2 + 1 - (List.replicate k torn).length * 2 = 1 := by simp
  rw [e2, List.replicate_succ]
  rfl
set_option maxRecDepth 20000 in
set_option maxHeartbeats 4000000 in
theorem erase2_any (B p n bx : Nat) (V : Nat → Value) (c : Chip) (u : Value) (w : World) (hv : ChipV B w p V c u) (hn : n < 24) (h1 : Blk w bx 88 #[.pointer (some ⟨p, n * 4, none⟩)]) :
    Calls Tryz.prog 42 #[.pointer (some ⟨bx, 0, none⟩)] w fun e w' =>
      e = .returned (.tuple #[]) ∧ (∃ V', ChipV B w' p V' (halfP c (.er n)) u) ∧ Fr B (· = p) w w' := by
  have c1 := (hv.cell hn).1
  have c2 := (hv.cell hn).2.1
  have x1 := h1.cell 0
  simp at x1
  have z1 := hv.blk.frozen (n * 4)
  have z2 := hv.blk.frozen (n * 4 + 1)
  have ne : ¬ p = bx := fun e => by rw [← e] at h1; exact blk_ne hv.blk h1 (by decide)
  have HV := Lib.hid hv
  clear hv h1
  have hmk : ∀ w : World, (Instr.makeSlice 61 (.int .i64 8) (.int .i64 8)).run Tryz.prog w = .ok (.slice (some ⟨w.heap.size, 0, none⟩) 8 8) (w.alloc (.cells (zeroPages 8).toArray 91)) := fun _ => by kernel_rfl
  go_enter Tryz.func42, Tryz.ntmps42
  go_wp2_with fail
  go_loopw [6] (fun i wr => ∃ k : Nat, k ≤ 8 ∧ i = .int .i64 k ∧ Hid (Blk wr w.heap.size 91 (tornPages k (8 - k)).toArray) ∧ Below w.heap.size w wr) (fun i _ => 8 - (intOf i).toNat)
  case atStart => exact ⟨0, by omega, rfl, Blk.new w _ _, (Below.refl _ _).alloc (Nat.le_refl _) _⟩
  case round =>
    obtain ⟨k, hk, rfl, hblk, hbl⟩ := hrel
    by_cases hlt : k < 8
    · obtain ⟨m, hm⟩ : ∃ m, 8 - k = m + 1 := ⟨7 - k, by omega⟩
      have hm2 : 8 - (k + 1) = m := by omega
      rw [hm] at hblk
      have q1 := hblk.out.cell (k * 2 + 1)
      rw [List.getElem?_toArray, tornPages_at] at q1
      have q2 := hblk.out.frozen (k * 2 + 1)
      have g1 : (0 : Int) ≤ (k : Int) := by omega
      have g2 : (k : Int) < 8 := by omega
      have HM := Lib.hid hm2
      clear hm hm2
      go_wp2_with fail
      go_roundw
      case rel =>
        refine ⟨k + 1, by omega, by go_num, ?_, hbl.setCell (p := ⟨w.heap.size, k * 2 + 1, none⟩) (Nat.le_refl _) _⟩
        have := hblk.out.set_ (k * 2 + 1) (.bool true)
        rw [List.setIfInBounds_toArray, tornPages_set] at this
        rw [HM.out]
        exact this
      case measure => simp [intOf] <;> omega
    · have hk8 : k = 8 := by omega
      subst hk8
      have d1 := (hbl.cell (p := ⟨p, n * 4, none⟩) HV.out.blk.lt).trans c1
      have d2 := (hbl.cell (p := ⟨p, n * 4 + 1, none⟩) HV.out.blk.lt).trans c2
      have d3 := (hbl.cell (p := ⟨bx, 0, none⟩) (cell_lt x1)).trans x1
      have y1 := (hbl.frozen (p := ⟨p, n * 4, none⟩) HV.out.blk.lt).trans z1
      have y2 := (hbl.frozen (p := ⟨p, n * 4 + 1, none⟩) HV.out.blk.lt).trans z2
      clear c1 c2 x1 z1 z2 hmk
      go_wp2_with fail
      go_end0
      have hv1 := HV.out.below hbl
      have hr : Rd B 91 2 wr (.slice (some ⟨w.heap.size, 0, none⟩) 8 8) (List.replicate 8 torn).length (sheetL (List.replicate 8 torn)) := by
        refine ⟨sheetL_len _, _, 8, rfl, by simp, by omega, fun _ => ⟨w.heap.size, 0, rfl, .inr ⟨_, _, hblk.out⟩, hblk.out.lt, fun j v hj => ?_⟩⟩
        rw [hblk.out.cell, Nat.zero_add, List.getElem?_toArray]
        exact hj
      have hv2 := hv1.clear hn (List.replicate 8 torn) (wrap64 ((c.b n).wear + 1)) hr
      exact ⟨rfl, ⟨_, hv2⟩, (fr_chip (Fr.of_below hbl) hv1 _ _ HV.out.mut).setCell HV.out.base (.inl rfl) HV.out.mut _⟩
end Go.Proofs.YtaepdbkfaoiimabGreatDoor
/- Write, Erase and Restart of the chip. Conditions: none but the sizes of any memory. -/
set_option linter.unusedVariables false
set_option linter.unusedSimpArgs false
namespace Go.Proofs.YtaepdbkfaoiimabGreatDoor
open Go.RowKit
attribute [local go_sem] hmf

/-- n noughts. -/
def zpad (n : Nat) : ByteArray := ⟨(List.replicate n 0).toArray⟩
theorem repeat_zero (n : Int) (h0 : 0 ≤ n) (h1 : n ≤ 64) (w : World) :
    Calls Tryz.prog 80 #[.string ⟨#[0]⟩, .int .i64 n] w fun e w' => e = .returned (.string (zpad n.toNat)) ∧ Below w.heap.size w w' := by
  obtain ⟨k, rfl⟩ := Int.eq_ofNat_of_zero_le h0
  have e : ∀ k : Nat, Lib.repeatL [(0 : UInt8)] k = List.replicate k 0 := fun k => by
    induction k with
    | zero => rfl
    | succ k ih => rw [Lib.repeatL, ih]; rfl
  have h := Tryz.strings_Repeat ⟨#[0]⟩ k w (by omega) (by have : ByteArray.size ⟨#[0]⟩ = 1 := rfl; rw [this]; omega)
  rw [show ByteArray.data ⟨#[0]⟩ = #[(0 : UInt8)] from rfl, show (#[(0 : UInt8)]).toList = [0] from rfl, e] at h
  rw [Int.toNat_natCast]
  exact h
theorem zpad_size (n : Nat) : (zpad n).size = n := by simp [zpad, ByteArray.size]
theorem pad_eq (d : ByteArray) : d ++ zpad (64 - d.size) = pad d := by
  apply ByteArray.ext
  simp [pad, zpad, ByteArray.data_append]
theorem UndoR.like' {w : World} {p : Nat} {c c' : Chip} {u : Value} {o : Option Pend} (h : UndoR w p c u o) (hl : ∀ b, (c'.b b).l.length = (c.b b).l.length) : UndoR w p c' u o := h.like hl
set_option maxRecDepth 20000 in
set_option maxHeartbeats 4000000 in
theorem cwrite_go (B p n : Nat) (c : Chip) (d : ByteArray) (w : World) (h : ChipR B w p c) (hn : n < 24) (hd : c.down = false) (hb : (c.b n).bad = false) (hs : d.size ≤ 64) (hl : (c.b n).l.length < 8) (hw : (c.b n).weak = false) :
    Calls Tryz.prog 46 #[.pointer (some ⟨p, 0, none⟩), .int .i64 n, .string d] w fun e w' => e = .returned (errV (c.step (.wr n (pad d))).2) ∧ ChipR B w' p (c.step (.wr n (pad d))).1 ∧ Fr B (· = p) w w' := by
  have hrd : c.ready n = 0 := by unfold Chip.ready; rw [hd, if_neg (by simp), if_neg (by omega), Int.toNat_natCast, hb, if_neg (by simp)]
  have HRD := Lib.hid (ready_any B p c n (w.alloc (.cells #[.string d] 9)) (h.below ((Below.refl _ _).alloc (Nat.le_refl _) _)))
  rw [hrd, show errV 0 = Value.nilIface from rfl] at HRD
  have hsp : c.spoil n = c := by unfold Chip.spoil; rw [hw]; rfl
  have HSP := Lib.hid (spoil_any B p c n (w.alloc (.cells #[.string d] 9)) (h.below ((Below.refl _ _).alloc (Nat.le_refl _) _)) hn hd hb)
  rw [hsp, hw] at HSP
  have HN0 := Lib.hid h.wf.down
  have HD0 := Lib.hid hd
  have HP0 := Lib.hid h.lt
  have HR := Lib.hid h
  obtain ⟨V, u, hv, hu, hwf⟩ := h
  obtain ⟨A, cap, hV, k2, k3, kA, kX⟩ := sheets_form (hv.rows n hn)
  have c1 := ((hv.below ((Below.refl _ _).alloc (Nat.le_refl _) (.cells #[.string d] 9))).cell hn).1
  rw [hV] at c1
  have HWF := Lib.hid hwf
  clear hv hu hV hwf hrd hsp hb hw hd kA kX
  have t1 : decide (64 < (d.size : Int)) = false := decide_eq_false (by omega)
  have t2 : (((c.b n).l.length : Int) == 8) = false := by rw [beq_eq_false_iff_ne]; omega
  go_enter Tryz.func46, Tryz.ntmps46
  go_wp2_with fail
  refine HRD.out.mono ?_
  rintro e w1 ⟨rfl, rfl⟩
  clear HRD
  go_wp2_with fail
  refine HSP.out.mono ?_
  rintro e w1 ⟨rfl, hr1, hf1⟩
  obtain ⟨V1, u1, hv1, hu1, kY⟩ := hr1
  clear kY
  obtain ⟨A1, cap1, hV1, k4, k5, kA, kX⟩ := sheets_form (hv1.rows n hn)
  have c2 := (hv1.cell hn).1
  rw [hV1] at c2
  have hd1 : Hid (Blk w1 w.heap.size 9 #[.string d]) := ((Blk.new w 9 #[.string d]).fr hf1 (.inr (.inr (by decide))))
  have d0 := hd1.out.cell 0
  have d1 := hd1.out.frozen 0
  simp at d0
  have l1 := hv1.blk.lt
  have l2 := hd1.out.lt
  have HV1 := Lib.hid hv1
  have HU1 := Lib.hid hu1
  have HF1 : Hid (Fr B (· = p) w w1) := (((Fr.refl B (· = p) w).alloc (.cells #[.string d] 9)).trans' hf1 (fun _ _ h => h))
  clear hv1 hu1 hV1 HSP c1 hf1 kA kX
  go_wp2_with fail
  have hB2 : Below w1.heap.size w1 ((w1.alloc (.cells #[.pointer (some ⟨p, n * 4, none⟩)] 88)).alloc (.cells #[.int .i64 (c.b n).l.length] 3)) := ((Below.refl _ _).alloc (Nat.le_refl _) _).alloc (by simp) _
  have hx1 := (Blk.new w1 88 #[.pointer (some ⟨p, n * 4, none⟩)]).alloc (.cells #[.int .i64 (c.b n).l.length] 3)
  have hx2 := Blk.new (w1.alloc (.cells #[.pointer (some ⟨p, n * 4, none⟩)] 88)) 3 #[.int .i64 (c.b n).l.length]
  rw [World.size_alloc] at hx2
  have hx3 := hd1.out.below hB2 hd1.out.lt
  have hv2 := HV1.out.below hB2
  have hu2 := HU1.out.keep (Fr.of_below (B := B) (M := fun _ => False) hB2)
  have hf2 : Fr B (· = p) w ((w1.alloc (.cells #[.pointer (some ⟨p, n * 4, none⟩)] 88)).alloc (.cells #[.int .i64 (c.b n).l.length] 3)) := HF1.out.trans (Fr.of_below hB2) (fun _ _ => trivial)
  generalize (w1.alloc (.cells #[.pointer (some ⟨p, n * 4, none⟩)] 88)).alloc (.cells #[.int .i64 (c.b n).l.length] 3) = w2 at *
  have HX1 := Lib.hid hx1
  have HX2 := Lib.hid hx2
  have HX3 := Lib.hid hx3
  have HV2 := Lib.hid hv2
  have HU2 := Lib.hid hu2
  have HF2 := Lib.hid hf2
  have l0 : w.heap.size ≤ w2.heap.size := hf2.size
  have y0 := hx3.cell 0
  have y1 := hx3.frozen 0
  have y2 := hx3.lt
  simp at y0
  clear hx1 hx2 hx3 hv2 hu2 hf2 HV1 HU1 HF1 hd1 c2 d0 d1 hB2 l1
  generalize hbx : w1.heap.size = bx at *
  generalize hbd : w.heap.size = bd at *
  clear hbx
  go_cut [] from 48 to 53 (fun wx => ∃ w3, Below w2.heap.size w2 w3 ∧ wx = w3.setCell ⟨bd, 0, none⟩ (.string (pad d)))
  case first =>
    have g1 : IntKind.i64.wrap (64 - (d.size : Int)) = 64 - (d.size : Int) := IntWalk.i64_in _ (by omega)
    have HP := Lib.hid (pad_eq d)
    have z1 : (zpad (64 - d.size)).size = 64 - d.size := zpad_size _
    have z2 : (64 - (d.size : Int)).toNat = 64 - d.size := by omega
    have HB3 : Hid (Below w2.heap.size w2 w2.drew) := (Below.refl _ _).drew
    go_region_with ((go_at_call 80; refine (repeat_zero _ (by omega) (by omega) _).mono ?_; rintro e w3 ⟨rfl, hb3⟩; have y3 := (hb3.cell (p := ⟨bd, 0, none⟩) y2).trans y0; have y4 := (hb3.frozen (p := ⟨bd, 0, none⟩) y2).trans y1; have HB4 : Hid (Below w2.heap.size w2 w3) := HB3.out.trans hb3; clear hb3))
    all_goals (go_wp2_with fail; go_meet; exact ⟨w3, HB4.out, by rw [← HP.out]⟩)
  case rest =>
    obtain ⟨w3, hb3, rfl⟩ := hcut
    have hlt := HV2.out.blk.lt
    have hpd : p ≠ bd := fun e => blk_ne HV2.out.blk (by rw [e]; exact HX3.out) (by decide)
    have hBd : B ≤ bd := by have := HV2.out.base; have := HP0.out; omega
    have hv3 := HV2.out.below hb3
    have hv4 : ChipV B (w3.setCell ⟨bd, 0, none⟩ (.string (pad d))) p V1 c u1 :=
      ⟨hv3.blk.far (p := ⟨bd, 0, none⟩) hpd _, fun b hb => (hv3.rows b hb).far (HX3.out.below hb3 HX3.out.lt) hBd (by decide) _, hv3.base⟩
    have hx1 : Blk (w3.setCell ⟨bd, 0, none⟩ (.string (pad d))) bx 88 #[.pointer (some ⟨p, n * 4, none⟩)] := (HX1.out.below hb3 HX1.out.lt).far (p := ⟨bd, 0, none⟩) (by show bx ≠ bd; omega) _
    have hx2 : Blk (w3.setCell ⟨bd, 0, none⟩ (.string (pad d))) (bx + 1) 3 #[.int .i64 (c.b n).l.length] := (HX2.out.below hb3 HX2.out.lt).far (p := ⟨bd, 0, none⟩) (by show bx + 1 ≠ bd; omega) _
    have hx3 : Blk (w3.setCell ⟨bd, 0, none⟩ (.string (pad d))) bd 9 #[.string (pad d)] := (HX3.out.below hb3 HX3.out.lt).set_ 0 _
    have hf4 : Fr B (· = p) w (w3.setCell ⟨bd, 0, none⟩ (.string (pad d))) := (HF2.out.trans (Fr.of_below hb3) (fun _ _ => trivial)).setCell hBd (.inr (by show w.heap.size ≤ bd; omega)) (fun h => absurd h (by show ¬ bd < w.heap.size; omega)) _
    generalize w3.setCell ⟨bd, 0, none⟩ (.string (pad d)) = w4 at *
    have hu : u1 = .nilFunc := by
      have h1 := HN0.out
      rw [HD0.out] at h1
      have h2 : c.pend = none := by simpa using h1
      have h3 := HU2.out
      rw [h2] at h3
      exact h3
    have hwf' := HWF.out.step_ HD0.out (p := .wr n (pad d)) ⟨hn, pad_size hs, hl⟩
    have hfz := HWF.out.fuse
    have HX1' := Lib.hid hx1
    have HX2' := Lib.hid hx2
    have HX3' := Lib.hid hx3
    have HV4 := Lib.hid hv4
    have HF4 := Lib.hid hf4
    have HW' := Lib.hid hwf'
    have HFZ := Lib.hid hfz
    have HUN := Lib.hid hu
    clear hx1 hx2 hx3 hv4 hv3 hf4 hwf' hfz HX1 HX2 HX3 HV2 HF2 HU2 hb3 hu hlt hpd hBd
    by_cases hf : c.fuse = 0
    · have E : Hid (c.step (.wr n (pad d)) = ({ c with down := true, pend := some (.wr n (pad d)) }, 9)) := if_pos hf
      have HS := Lib.hid (step_fall B p V1 c u1 81 82 #[.pointer (some ⟨bx, 0, none⟩), .pointer (some ⟨bx + 1, 0, none⟩), .pointer (some ⟨bd, 0, none⟩)] #[.pointer (some ⟨bx, 0, none⟩), .pointer (some ⟨bx + 1, 0, none⟩)] w4 HV4.out hf)
      clear hf
      go_wp2_with fail
      refine HS.out.mono ?_
      rintro e w5 ⟨rfl, hq, hf5⟩
      have HQ := Lib.hid hq
      have HF5 := Lib.hid hf5
      clear hq hf5 HS
      go_wp2_with fail
      go_ret
      rw [E.out] at HW' ⊢
      obtain ⟨qh, qd, q1, q2, q3⟩ := HQ.out
      exact ⟨rfl, ⟨V1, _, ⟨q1.blk, q1.rows, q1.base⟩, ⟨qh, qd, bx, bx + 1, bd, rfl, q2, q3, HX1'.out.fr HF5.out (.inr (.inr (by decide))), HX2'.out.fr HF5.out (.inr (.inr (by decide))), HX3'.out.fr HF5.out (.inr (.inr (by decide)))⟩, HW'.out⟩, HF4.out.trans HF5.out (fun _ _ => trivial)⟩
    · have E : Hid (c.step (.wr n (pad d)) = (doP { c with fuse := if 0 < c.fuse then c.fuse - 1 else c.fuse } (.wr n (pad d)), 0)) := if_neg hf
      have HS := Lib.hid (step_go B p V1 c u1 81 82 #[.pointer (some ⟨bx, 0, none⟩), .pointer (some ⟨bx + 1, 0, none⟩), .pointer (some ⟨bd, 0, none⟩)] #[.pointer (some ⟨bx, 0, none⟩), .pointer (some ⟨bx + 1, 0, none⟩)] w4
        (fun w5 => ∃ V', ChipV B w5 p V' (doP { c with fuse := if 0 < c.fuse then c.fuse - 1 else c.fuse } (.wr n (pad d))) u1) (enters_of Tryz.func81 (by kernel_rfl) rfl) HV4.out hf HFZ.out.1 HFZ.out.2
        (fun w5 hv5 hf5 => write1_any B p n bx (bx + 1) bd V1 { c with fuse := if 0 < c.fuse then c.fuse - 1 else c.fuse } u1 (pad d) w5 hv5 hn hl (HX1'.out.fr hf5 (.inr (.inr (by decide)))) (HX2'.out.fr hf5 (.inr (.inr (by decide)))) (HX3'.out.fr hf5 (.inr (.inr (by decide))))))
      clear hf
      go_wp2_with fail
      refine HS.out.mono ?_
      rintro e w5 ⟨rfl, hq, hf5⟩
      have HQ := Lib.hid hq
      have HF5 := Lib.hid hf5
      clear hq hf5 HS
      go_wp2_with fail
      go_ret
      rw [E.out] at HW' ⊢
      obtain ⟨V', q1⟩ := HQ.out
      have hn0 : c.pend = none := by
        have h1 := HN0.out
        rw [HD0.out] at h1
        simpa using h1
      exact ⟨rfl, ⟨V', u1, q1, by rw [(doP_pend _ _).1]; show UndoR _ _ _ _ c.pend; rw [hn0]; exact HUN.out, HW'.out⟩, HF4.out.trans HF5.out (fun _ _ => trivial)⟩
set_option maxRecDepth 20000 in
set_option maxHeartbeats 4000000 in
theorem cwrite_any (B p : Nat) (c : Chip) (b : Int) (d : ByteArray) (w : World) (h : ChipR B w p c) (hs : d.size ≤ 9223372036854775807) :
    Calls Tryz.prog 46 #[.pointer (some ⟨p, 0, none⟩), .int .i64 b, .string d] w fun e w' => e = .returned (errV (c.write b d).2) ∧ ChipR B w' p (c.write b d).1 ∧ Fr B (· = p) w w' := by
  have hb0 : Below w.heap.size w (w.alloc (.cells #[.string d] 9)) := (Below.refl _ _).alloc (Nat.le_refl _) _
  have hr0 := h.below hb0
  have hf0 : Fr B (· = p) w (w.alloc (.cells #[.string d] 9)) := (Fr.refl _ _ _).alloc _
  by_cases hrd : c.ready b = 0
  · obtain ⟨hd, h0, h1, hbad⟩ := ready_zero hrd
    obtain ⟨n, rfl⟩ := Int.eq_ofNat_of_zero_le h0
    rw [Int.toNat_natCast] at hbad
    have hn : n < 24 := by omega
    by_cases h64 : 64 < d.size
    · have E : Hid (c.write n d = (c, 2)) := by rw [Hid, Chip.write, if_neg (by rw [hrd]; simp), if_pos h64]
      have HRD := Lib.hid (ready_any B p c n (w.alloc (.cells #[.string d] 9)) hr0)
      rw [hrd, show errV 0 = Value.nilIface from rfl] at HRD
      have HR0 := Lib.hid hr0
      have HF0 := Lib.hid hf0
      have t1 : decide (64 < (d.size : Int)) = true := decide_eq_true (by omega)
      clear h hb0 hr0 hf0 hrd hd hbad
      go_enter Tryz.func46, Tryz.ntmps46
      go_wp2_with fail
      refine HRD.out.mono ?_
      rintro e w1 ⟨rfl, rfl⟩
      clear HRD
      go_wp2_with fail
      go_ret
      rw [E.out]
      exact ⟨rfl, HR0.out, HF0.out⟩
    · have t1 : decide (64 < (d.size : Int)) = false := decide_eq_false (by omega)
      by_cases h8 : (c.b n).l.length = 8
      · have E : Hid (c.write n d = (c, 6)) := by rw [Hid, Chip.write, if_neg (by rw [hrd]; simp), if_neg h64, Int.toNat_natCast, if_pos h8]
        have HRD := Lib.hid (ready_any B p c n (w.alloc (.cells #[.string d] 9)) hr0)
        rw [hrd, show errV 0 = Value.nilIface from rfl] at HRD
        have HR0 := Lib.hid hr0
        have HF0 := Lib.hid hf0
        obtain ⟨V, u, hv, hu, hwf⟩ := hr0
        obtain ⟨A, cap, hV, k2, k3, kA, kX⟩ := sheets_form (hv.rows n hn)
        have c1 := (hv.cell hn).1
        rw [hV] at c1
        have t2 : (((c.b n).l.length : Int) == 8) = true := by rw [h8]; rfl
        clear h hb0 hf0 hrd hd hbad hv hu hwf hV kA kX h8
        go_enter Tryz.func46, Tryz.ntmps46
        go_wp2_with fail
        refine HRD.out.mono ?_
        rintro e w1 ⟨rfl, rfl⟩
        clear HRD
        go_wp2_with fail
        go_ret
        rw [E.out]
        exact ⟨rfl, HR0.out, HF0.out⟩
      · cases hw : (c.b n).weak
        · have E : c.write n d = c.step (.wr n (pad d)) := by
            rw [Chip.write, if_neg (by rw [hrd]; simp), if_neg h64, Int.toNat_natCast, if_neg h8, hw, if_neg (by simp)]
          rw [E]
          have := h.wf.len n hn
          exact cwrite_go B p n c d w h hn hd hbad (by omega) (by omega) hw
        · have E : Hid (c.write n d = (c.spoil n, 7)) := by
            rw [Hid, Chip.write, if_neg (by rw [hrd]; simp), if_neg h64, Int.toNat_natCast, if_neg h8, if_pos hw]
          have HRD := Lib.hid (ready_any B p c n (w.alloc (.cells #[.string d] 9)) hr0)
          rw [hrd, show errV 0 = Value.nilIface from rfl] at HRD
          have HSP := Lib.hid (spoil_any B p c n (w.alloc (.cells #[.string d] 9)) hr0 hn hd hbad)
          rw [hw] at HSP
          have HF0 := Lib.hid hf0
          obtain ⟨V, u, hv, hu, hwf⟩ := hr0
          obtain ⟨A, cap, hV, k2, k3, kA, kX⟩ := sheets_form (hv.rows n hn)
          have c1 := (hv.cell hn).1
          rw [hV] at c1
          have t2 : (((c.b n).l.length : Int) == 8) = false := by rw [beq_eq_false_iff_ne]; omega
          clear h hb0 hf0 hrd hd hbad hv hu hwf hV kA kX h8 hw
          go_enter Tryz.func46, Tryz.ntmps46
          go_wp2_with fail
          refine HRD.out.mono ?_
          rintro e w1 ⟨rfl, rfl⟩
          clear HRD
          go_wp2_with fail
          refine HSP.out.mono ?_
          rintro e w1 ⟨rfl, hr1, hf1⟩
          have HR1 := Lib.hid hr1
          have HF1 := Lib.hid hf1
          clear hr1 hf1 HSP
          go_wp2_with fail
          go_ret
          rw [E.out]
          exact ⟨rfl, HR1.out, HF0.out.trans HF1.out (fun _ _ => trivial)⟩
  · have E : Hid (c.write b d = (c, c.ready b)) := if_pos hrd
    have e1 : errV (c.ready b) = .iface 39 (.int .i64 (c.ready b)) := if_neg hrd
    have HRD := Lib.hid (ready_any B p c b (w.alloc (.cells #[.string d] 9)) hr0)
    rw [e1] at HRD
    have E1 := Lib.hid e1
    have HR0 := Lib.hid hr0
    have HF0 := Lib.hid hf0
    clear h hb0 hr0 hf0 hrd e1
    go_enter Tryz.func46, Tryz.ntmps46
    go_wp2_with fail
    refine HRD.out.mono ?_
    rintro e w1 ⟨rfl, rfl⟩
    clear HRD
    go_wp2_with fail
    go_ret
    rw [E.out]
    exact ⟨by rw [E1.out]; rfl, HR0.out, HF0.out⟩
end Go.Proofs.YtaepdbkfaoiimabGreatDoor
/- Erase and Restart of the chip. Conditions: none but the sizes of any memory. -/
set_option linter.unusedVariables false
set_option linter.unusedSimpArgs false
namespace Go.Proofs.YtaepdbkfaoiimabGreatDoor
open Go.RowKit
attribute [local go_sem] hmf

set_option maxRecDepth 20000 in
set_option maxHeartbeats 4000000 in
theorem cerase_go (B p n : Nat) (c : Chip) (w : World) (h : ChipR B w p c) (hn : n < 24) (hd : c.down = false) (hb : (c.b n).bad = false) (hw : (c.b n).weak = false) :
    Calls Tryz.prog 21 #[.pointer (some ⟨p, 0, none⟩), .int .i64 n] w fun e w' => e = .returned (errV (c.step (.er n)).2) ∧ ChipR B w' p (c.step (.er n)).1 ∧ Fr B (· = p) w w' := by
  have hrd : c.ready n = 0 := by unfold Chip.ready; rw [hd, if_neg (by simp), if_neg (by omega), Int.toNat_natCast, hb, if_neg (by simp)]
  have HRD := Lib.hid (ready_any B p c n w h)
  rw [hrd, show errV 0 = Value.nilIface from rfl] at HRD
  have hsp : c.spoil n = c := by unfold Chip.spoil; rw [hw]; rfl
  have HSP := Lib.hid (spoil_any B p c n w h hn hd hb)
  rw [hsp, hw] at HSP
  have hwf := h.wf
  have hwf' := hwf.step_ hd (p := .er n) hn
  have hn0 : c.pend = none := by
    have h1 := hwf.down
    rw [hd] at h1
    simpa using h1
  have HN0 := Lib.hid hn0
  have HWF := Lib.hid hwf
  have HW' := Lib.hid hwf'
  clear hrd hsp hb hw hd hwf hwf' hn0
  go_enter Tryz.func21, Tryz.ntmps21
  go_wp2_with fail
  refine HRD.out.mono ?_
  rintro e w1 ⟨rfl, rfl⟩
  clear HRD
  go_wp2_with fail
  refine HSP.out.mono ?_
  rintro e w1 ⟨rfl, hr1, hf1⟩
  obtain ⟨V1, u1, hv1, hu1, kY⟩ := hr1
  clear kY HSP
  have l1 := hv1.blk.lt
  have hB2 : Below w1.heap.size w1 (w1.alloc (.cells #[.pointer (some ⟨p, n * 4, none⟩)] 88)) := (Below.refl _ _).alloc (Nat.le_refl _) _
  have HX1 := Lib.hid (Blk.new w1 88 #[.pointer (some ⟨p, n * 4, none⟩)])
  have HV4 := Lib.hid (hv1.below hB2)
  have HU4 := Lib.hid (hu1.keep (Fr.of_below (B := B) (M := fun _ => False) hB2))
  have HF4 : Hid (Fr B (· = p) w (w1.alloc (.cells #[.pointer (some ⟨p, n * 4, none⟩)] 88))) := hf1.trans (Fr.of_below hB2) (fun _ _ => trivial)
  have HFZ := Lib.hid HWF.out.fuse
  clear hv1 hu1 hf1 hB2
  have HUN : Hid (u1 = .nilFunc) := by
    have h3 := HU4.out
    rw [HN0.out] at h3
    exact h3
  by_cases hf : c.fuse = 0
  · have E : Hid (c.step (.er n) = ({ c with down := true, pend := some (.er n) }, 9)) := if_pos hf
    have HS := Lib.hid (step_fall B p V1 c u1 41 42 #[.pointer (some ⟨w1.heap.size, 0, none⟩)] #[.pointer (some ⟨w1.heap.size, 0, none⟩)] _ HV4.out hf)
    clear hf
    go_wp2_with fail
    refine HS.out.mono ?_
    rintro e w5 ⟨rfl, hq, hf5⟩
    have HQ := Lib.hid hq
    have HF5 := Lib.hid hf5
    clear hq hf5 HS
    go_wp2_with fail
    go_ret
    rw [E.out] at HW' ⊢
    obtain ⟨qh, qd, q1, q2, q3⟩ := HQ.out
    exact ⟨rfl, ⟨V1, _, ⟨q1.blk, q1.rows, q1.base⟩, ⟨qh, qd, _, rfl, q2, q3, HX1.out.fr HF5.out (.inr (.inr (by decide)))⟩, HW'.out⟩, HF4.out.trans HF5.out (fun _ _ => trivial)⟩
  · have E : Hid (c.step (.er n) = (doP { c with fuse := if 0 < c.fuse then c.fuse - 1 else c.fuse } (.er n), 0)) := if_neg hf
    have HS := Lib.hid (step_go B p V1 c u1 41 42 #[.pointer (some ⟨w1.heap.size, 0, none⟩)] #[.pointer (some ⟨w1.heap.size, 0, none⟩)] _
      (fun w5 => ∃ V', ChipV B w5 p V' (doP { c with fuse := if 0 < c.fuse then c.fuse - 1 else c.fuse } (.er n)) u1) (enters_of Tryz.func41 (by kernel_rfl) rfl) HV4.out hf HFZ.out.1 HFZ.out.2
      (fun w5 hv5 hf5 => erase1_any B p n _ V1 { c with fuse := if 0 < c.fuse then c.fuse - 1 else c.fuse } u1 w5 hv5 hn (HX1.out.fr hf5 (.inr (.inr (by decide))))))
    clear hf
    go_wp2_with fail
    refine HS.out.mono ?_
    rintro e w5 ⟨rfl, hq, hf5⟩
    have HQ := Lib.hid hq
    have HF5 := Lib.hid hf5
    clear hq hf5 HS
    go_wp2_with fail
    go_ret
    rw [E.out] at HW' ⊢
    obtain ⟨V', q1⟩ := HQ.out
    exact ⟨rfl, ⟨V', u1, q1, by rw [(doP_pend _ _).1]; show UndoR _ _ _ _ c.pend; rw [HN0.out]; exact HUN.out, HW'.out⟩, HF4.out.trans HF5.out (fun _ _ => trivial)⟩
set_option maxRecDepth 20000 in
set_option maxHeartbeats 4000000 in
theorem cerase_any (B p : Nat) (c : Chip) (b : Int) (w : World) (h : ChipR B w p c) :
    Calls Tryz.prog 21 #[.pointer (some ⟨p, 0, none⟩), .int .i64 b] w fun e w' => e = .returned (errV (c.erase b).2) ∧ ChipR B w' p (c.erase b).1 ∧ Fr B (· = p) w w' := by
  by_cases hrd : c.ready b = 0
  · obtain ⟨hd, h0, h1, hbad⟩ := ready_zero hrd
    obtain ⟨n, rfl⟩ := Int.eq_ofNat_of_zero_le h0
    rw [Int.toNat_natCast] at hbad
    have hn : n < 24 := by omega
    cases hw : (c.b n).weak
    · have E : c.erase n = c.step (.er n) := by
        rw [Chip.erase, if_neg (by rw [hrd]; simp), Int.toNat_natCast, hw, if_neg (by simp)]
      rw [E]
      exact cerase_go B p n c w h hn hd hbad hw
    · have E : Hid (c.erase n = (c.spoil n, 7)) := by
        rw [Hid, Chip.erase, if_neg (by rw [hrd]; simp), Int.toNat_natCast, if_pos hw]
      have HRD := Lib.hid (ready_any B p c n w h)
      rw [hrd, show errV 0 = Value.nilIface from rfl] at HRD
      have HSP := Lib.hid (spoil_any B p c n w h hn hd hbad)
      rw [hw] at HSP
      clear h hrd hd hbad hw
      go_enter Tryz.func21, Tryz.ntmps21
      go_wp2_with fail
      refine HRD.out.mono ?_
      rintro e w1 ⟨rfl, rfl⟩
      clear HRD
      go_wp2_with fail
      refine HSP.out.mono ?_
      rintro e w1 ⟨rfl, hr1, hf1⟩
      have HR1 := Lib.hid hr1
      have HF1 := Lib.hid hf1
      clear hr1 hf1 HSP
      go_wp2_with fail
      go_ret
      rw [E.out]
      exact ⟨rfl, HR1.out, HF1.out⟩
  · have E : Hid (c.erase b = (c, c.ready b)) := if_pos hrd
    have e1 : errV (c.ready b) = .iface 39 (.int .i64 (c.ready b)) := if_neg hrd
    have HRD := Lib.hid (ready_any B p c b w h)
    rw [e1] at HRD
    have E1 := Lib.hid e1
    have HR0 := Lib.hid h
    clear h hrd e1
    go_enter Tryz.func21, Tryz.ntmps21
    go_wp2_with fail
    refine HRD.out.mono ?_
    rintro e w1 ⟨rfl, rfl⟩
    clear HRD
    go_wp2_with fail
    go_ret
    rw [E.out]
    exact ⟨by rw [E1.out]; rfl, HR0.out, Fr.refl _ _ _⟩
theorem neq_func (f : Fn) (a b : Array Value) (w : World) : (binOp .neq 65 (.func f a b) .nilFunc).run Tryz.prog w = .ok (.bool true) w := by kernel_rfl
theorem neq_nilfunc (w : World) : (binOp .neq 65 .nilFunc .nilFunc).run Tryz.prog w = .ok (.bool false) w := by kernel_rfl
attribute [local go_sem ↓] neq_func neq_nilfunc
set_option maxHeartbeats 1000000 in
theorem undo_any (B p qh qd : Nat) (V : Nat → Value) (c : Chip) (u : Value) (how : Int) (F1 F2 : Nat) (k1 k2 : Array Value) (pd : Pend) (w : World) (hv : ChipV B w p V c u)
    (h1 : Blk w qh 1 #[.func (.func F2) #[] k2]) (h2 : Blk w qd 1 #[.func (.func F1) #[] k1])
    (hE1 : ∀ (args : Array Value) (w : World), (callFunc F1 args).run Tryz.prog w = .ok (.enter F1 args) w) (hE2 : ∀ (args : Array Value) (w : World), (callFunc F2 args).run Tryz.prog w = .ok (.enter F2 args) w)
    (hd : Calls Tryz.prog F1 k1 w fun e w2 => e = .returned (.tuple #[]) ∧ (∃ V', ChipV B w2 p V' (doP c pd) u) ∧ Fr B (· = p) w w2)
    (hh : Calls Tryz.prog F2 k2 w fun e w2 => e = .returned (.tuple #[]) ∧ (∃ V', ChipV B w2 p V' (halfP c pd) u) ∧ Fr B (· = p) w w2) :
    Calls Tryz.prog 75 #[.int .i64 how, .pointer (some ⟨qh, 0, none⟩), .pointer (some ⟨qd, 0, none⟩)] w fun e w' =>
      e = .returned (.tuple #[]) ∧ (∃ V', ChipV B w' p V' (if how = 1 then halfP c pd else if how = 2 then doP c pd else c) u) ∧ Fr B (· = p) w w' := by
  have x1 := h1.cell 0
  have x2 := h2.cell 0
  simp at x1 x2
  have HV := Lib.hid hv
  have HD := Lib.hid hd
  have HH := Lib.hid hh
  clear hv hd hh h1 h2
  by_cases e1 : how = 1
  · subst e1
    rw [if_pos rfl]
    go_enter Tryz.func75, Tryz.ntmps75
    go_wp2_with fail
    refine HH.out.mono ?_
    rintro e w2 ⟨rfl, hq, hf⟩
    have HQ := Lib.hid hq
    have HF := Lib.hid hf
    clear hq hf HH HD hE1 hE2
    go_wp2_with fail
    go_end0
    exact ⟨rfl, HQ.out, HF.out⟩
  · rw [if_neg e1]
    by_cases e2 : how = 2
    · subst e2
      rw [if_pos rfl]
      clear e1
      go_enter Tryz.func75, Tryz.ntmps75
      go_wp2_with fail
      refine HD.out.mono ?_
      rintro e w2 ⟨rfl, hq, hf⟩
      have HQ := Lib.hid hq
      have HF := Lib.hid hf
      clear hq hf HH HD hE1 hE2
      go_wp2_with fail
      go_end0
      exact ⟨rfl, HQ.out, HF.out⟩
    · rw [if_neg e2]
      have t1 : (how == 1) = false := by rw [beq_eq_false_iff_ne]; exact e1
      have t2 : (how == 2) = false := by rw [beq_eq_false_iff_ne]; exact e2
      clear HH HD hE1 hE2 e1 e2
      go_enter Tryz.func75, Tryz.ntmps75
      go_wp2_with fail
      go_end0
      exact ⟨rfl, ⟨V, HV.out⟩, Fr.refl _ _ _⟩
theorem undo_pend (B p : Nat) (V : Nat → Value) (c : Chip) (u : Value) (how : Int) (pd : Pend) (w : World) (hv : ChipV B w p V c u) (hu : UndoR w p c u (some pd)) (hp : PendOk c pd) :
    ∃ qh qd, u = .func (.func 75) #[] #[.pointer (some ⟨qh, 0, none⟩), .pointer (some ⟨qd, 0, none⟩)] ∧
    Calls Tryz.prog 75 #[.int .i64 how, .pointer (some ⟨qh, 0, none⟩), .pointer (some ⟨qd, 0, none⟩)] w fun e w' =>
      e = .returned (.tuple #[]) ∧ (∃ V', ChipV B w' p V' (if how = 1 then halfP c pd else if how = 2 then doP c pd else c) u) ∧ Fr B (· = p) w w' := by
  match pd, hu, hp with
  | .wr b d, ⟨qh, qd, bx, bn, bd, e, h2, h3, h4, h5, h6⟩, hp =>
    exact ⟨qh, qd, e, undo_any B p qh qd V c u how _ _ _ _ (.wr b d) w hv h2 h3 (enters_of Tryz.func81 (by kernel_rfl) rfl) (enters_of Tryz.func82 (by kernel_rfl) rfl)
      (write1_any B p b bx bn bd V c u d w hv hp.1 hp.2.2 h4 h5 h6) (write2_any B p b bx bn V c u d w hv hp.1 hp.2.2 h4 h5)⟩
  | .er b, ⟨qh, qd, bx, e, h2, h3, h4⟩, hp =>
    exact ⟨qh, qd, e, undo_any B p qh qd V c u how _ _ _ _ (.er b) w hv h2 h3 (enters_of Tryz.func41 (by kernel_rfl) rfl) (enters_of Tryz.func42 (by kernel_rfl) rfl)
      (erase1_any B p b bx V c u w hv hp h4) (erase2_any B p b bx V c u w hv hp h4)⟩
set_option maxRecDepth 20000 in
set_option maxHeartbeats 1000000 in
theorem restart_any (B p : Nat) (c : Chip) (how : Int) (w : World) (h : ChipR B w p c) :
    Calls Tryz.prog 64 #[.pointer (some ⟨p, 0, none⟩), .int .i64 how] w fun e w' => e = .returned (.tuple #[]) ∧ ChipR B w' p (c.restart how) ∧ Fr B (· = p) w w' := by
  have hwf' := h.wf.restart_ how
  obtain ⟨V, u, hv, hu, hwf⟩ := h
  have fin : ∀ (w2 : World) (V' : Nat → Value), ChipV B w2 p V' (c.undone how) u → Fr B (· = p) w w2 → w2.cell? ⟨p, 98, none⟩ = some u → w2.frozen? ⟨p, 98, none⟩ = false → w2.frozen? ⟨p, 97, none⟩ = false → w2.frozen? ⟨p, 96, none⟩ = false →
      ChipR B (((w2.setCell ⟨p, 98, none⟩ .nilFunc).setCell ⟨p, 97, none⟩ (.bool false)).setCell ⟨p, 96, none⟩ (.int .i64 (-1))) p (c.restart how) ∧ Fr B (· = p) w (((w2.setCell ⟨p, 98, none⟩ .nilFunc).setCell ⟨p, 97, none⟩ (.bool false)).setCell ⟨p, 96, none⟩ (.int .i64 (-1))) := by
    intro w2 V' hv2 hf2 _ _ _ _
    have v1 := hv2.setT (c' := c.undone how) (u' := .nilFunc) (j := 2) (by omega) rfl (x := .nilFunc) rfl
    have v2 := v1.setT (c' := { c.undone how with down := false }) (u' := .nilFunc) (j := 1) (by omega) rfl (x := .bool false) rfl
    have v3 := v2.setT (c' := c.restart how) (u' := .nilFunc) (j := 0) (by omega) rfl (x := .int .i64 (-1)) rfl
    exact ⟨⟨V', .nilFunc, v3, rfl, hwf'⟩, ((hf2.setCell hv.base (.inl rfl) hv.mut _).setCell hv.base (.inl rfl) hv.mut _).setCell hv.base (.inl rfl) hv.mut _⟩
  have FIN := Lib.hid fin
  have c3 := hv.tail.2.2
  have d3 := hv.tail.2.1
  have e3 := hv.tail.1
  have z1 := hv.blk.frozen 98
  have z2 := hv.blk.frozen 97
  have z3 := hv.blk.frozen 96
  cases hpd : c.pend with
  | none =>
    have hund : c.undone how = c := by unfold Chip.undone; rw [hpd]
    rw [hpd] at hu
    have hu' : u = .nilFunc := hu
    subst hu'
    have HV : Hid (ChipV B w p V (c.undone how) .nilFunc) := by rw [hund]; exact hv
    clear hv hu hwf hpd hund fin hwf'
    go_enter Tryz.func64, Tryz.ntmps64
    go_wp2_with fail
    go_end0
    exact ⟨rfl, FIN.out w V HV.out (Fr.refl _ _ _) c3 z1 z2 z3⟩
  | some pd =>
    rw [hpd] at hu
    obtain ⟨qh, qd, rfl, hc⟩ := undo_pend B p V c u how pd w hv hu (hwf.pend pd hpd)
    have HC := Lib.hid hc
    have hund : c.undone how = if how = 1 then halfP c pd else if how = 2 then doP c pd else c := by unfold Chip.undone; rw [hpd]
    have HU := Lib.hid hund
    clear hv hu hwf hpd hund fin hwf' hc d3 e3 z1 z2 z3
    go_enter Tryz.func64, Tryz.ntmps64
    go_wp2_with fail
    refine HC.out.mono ?_
    rintro e w2 ⟨rfl, ⟨V', hv2⟩, hf2⟩
    rw [← HU.out] at hv2
    have c4 := hv2.tail.2.2
    have d4 := hv2.tail.2.1
    have e4 := hv2.tail.1
    have z1 := hv2.blk.frozen 98
    have z2 := hv2.blk.frozen 97
    have z3 := hv2.blk.frozen 96
    have HV2 := Lib.hid hv2
    have HF2 := Lib.hid hf2
    clear hv2 hf2 HC c3
    go_wp2_with fail
    go_end0
    exact ⟨rfl, FIN.out w2 V' HV2.out HF2.out c4 z1 z2 z3⟩
end Go.Proofs.YtaepdbkfaoiimabGreatDoor
