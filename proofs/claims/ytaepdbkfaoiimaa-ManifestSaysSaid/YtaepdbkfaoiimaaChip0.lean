/- The plain model of a chip: blocks of pages, steps, falls. No program in sight; conditions: none. -/
import Derived.Test.YtaepdbkfaoiimaaBase
set_option linter.unusedVariables false
set_option linter.unusedSimpArgs false
namespace Go.Proofs.Ytaepdbkfaoiimaa
open Go.RowKit

/-- A page: what it has; torn? -/
structure Sheet where
  d : ByteArray
  t : Bool
/-- A block. -/
structure CB where
  l : List Sheet
  wear : Int
  weak : Bool
  bad : Bool
/-- A step that the machine fell in. -/
inductive Pend
  | wr (b : Nat) (d : ByteArray)
  | er (b : Nat)
structure Chip where
  b : Nat → CB
  fuse : Int
  down : Bool
  pend : Option Pend
def Chip.new : Chip := ⟨fun _ => ⟨[], 0, false, false⟩, -1, false, none⟩
def Chip.set (c : Chip) (b : Nat) (x : CB) : Chip := { c with b := fun i => if i = b then x else c.b i }
def torn : Sheet := ⟨ByteArray.empty, true⟩
def pad (d : ByteArray) : ByteArray := ⟨(d.data.toList ++ List.replicate (64 - d.size) 0).toArray⟩
theorem pad_size {d : ByteArray} (h : d.size ≤ 64) : (pad d).size = 64 := by
  simp only [pad, ByteArray.size, List.size_toArray, List.length_append, List.length_replicate, Array.length_toList]
  simp only [ByteArray.size] at h
  omega

def doP (c : Chip) : Pend → Chip
  | .wr b d => c.set b { c.b b with l := (c.b b).l ++ [⟨d, false⟩] }
  | .er b => c.set b { c.b b with l := [], wear := wrap64 ((c.b b).wear + 1) }
def halfP (c : Chip) : Pend → Chip
  | .wr b _ => c.set b { c.b b with l := (c.b b).l ++ [torn] }
  | .er b => c.set b { c.b b with l := List.replicate 8 torn, wear := wrap64 ((c.b b).wear + 1) }
def Pend.blk : Pend → Nat
  | .wr b _ => b
  | .er b => b
/-- The step: done, or the machine falls in it. -/
def Chip.step (c : Chip) (p : Pend) : Chip × Nat :=
  if c.fuse = 0 then ({ c with down := true, pend := some p }, 9) else (doP { c with fuse := if 0 < c.fuse then c.fuse - 1 else c.fuse } p, 0)
def Chip.ready (c : Chip) (b : Int) : Nat :=
  if c.down then 9 else if b < 0 ∨ 24 ≤ b then 1 else if (c.b b.toNat).bad then 7 else 0
def Chip.spoil (c : Chip) (b : Nat) : Chip := if (c.b b).weak then c.set b { c.b b with bad := true } else c
def Chip.write (c : Chip) (b : Int) (d : ByteArray) : Chip × Nat :=
  if c.ready b ≠ 0 then (c, c.ready b)
  else if 64 < d.size then (c, 2)
  else if (c.b b.toNat).l.length = 8 then (c, 6)
  else if (c.b b.toNat).weak then (c.spoil b.toNat, 7)
  else c.step (.wr b.toNat (pad d))
def Chip.erase (c : Chip) (b : Int) : Chip × Nat :=
  if c.ready b ≠ 0 then (c, c.ready b)
  else if (c.b b.toNat).weak then (c.spoil b.toNat, 7)
  else c.step (.er b.toNat)
def Chip.read (c : Chip) (b p : Int) : ByteArray × Nat :=
  if c.down then (ByteArray.empty, 9)
  else if b < 0 ∨ 24 ≤ b ∨ p < 0 ∨ 8 ≤ p then (ByteArray.empty, 1)
  else match (c.b b.toNat).l[p.toNat]? with
    | none => (ByteArray.empty, 5)
    | some s => if s.t then (ByteArray.empty, 4) else (s.d, 0)
def Chip.weaken (c : Chip) (b : Int) : Chip × Nat :=
  if b < 2 ∨ 24 ≤ b then (c, 1) else (c.set b.toNat { c.b b.toNat with weak := true }, 0)
def Chip.arm (c : Chip) (n : Int) : Chip := { c with fuse := max n (-1) }
def Chip.undone (c : Chip) (how : Int) : Chip :=
  match c.pend with
  | none => c
  | some p => if how = 1 then halfP c p else if how = 2 then doP c p else c
def Chip.restart (c : Chip) (how : Int) : Chip := { c.undone how with pend := none, down := false, fuse := -1 }

/-- A step that is on its way fits. -/
def PendOk (c : Chip) : Pend → Prop
  | .wr b d => b < 24 ∧ d.size = 64 ∧ (c.b b).l.length < 8
  | .er b => b < 24
/-- What is so of every chip. -/
structure CWf (c : Chip) : Prop where
  len : ∀ b, b < 24 → (c.b b).l.length ≤ 8
  size : ∀ b, b < 24 → ∀ s ∈ (c.b b).l, s.t = false → s.d.size = 64
  torn : ∀ b, b < 24 → ∀ s ∈ (c.b b).l, s.t = true → s = Go.Proofs.Ytaepdbkfaoiimaa.torn
  down : c.pend.isSome = c.down
  pend : ∀ p, c.pend = some p → PendOk c p
  fuse : -1 ≤ c.fuse ∧ c.fuse ≤ 9223372036854775807
  weak : ∀ b, (c.b b).weak = true → 2 ≤ b ∧ b < 24
  bad : ∀ b, (c.b b).bad = true → (c.b b).weak = true
  wear : ∀ b, -9223372036854775808 ≤ (c.b b).wear ∧ (c.b b).wear ≤ 9223372036854775807

section
variable {c : Chip}
@[simp] theorem Chip.set_same (c : Chip) (b : Nat) (x : CB) : (c.set b x).b b = x := by simp [Chip.set]
theorem Chip.set_far (c : Chip) {b i : Nat} (x : CB) (h : i ≠ b) : (c.set b x).b i = c.b i := by simp [Chip.set, h]
theorem CWf.new : CWf Chip.new := by
  constructor <;> simp [Chip.new]
theorem doP_pend (c : Chip) (p : Pend) : (doP c p).pend = c.pend ∧ (doP c p).down = c.down ∧ (doP c p).fuse = c.fuse := by
  cases p <;> exact ⟨rfl, rfl, rfl⟩
theorem halfP_pend (c : Chip) (p : Pend) : (halfP c p).pend = c.pend ∧ (halfP c p).down = c.down ∧ (halfP c p).fuse = c.fuse := by
  cases p <;> exact ⟨rfl, rfl, rfl⟩
theorem doP_far (c : Chip) (p : Pend) {i : Nat} (h : i ≠ p.blk) : (doP c p).b i = c.b i := by
  cases p <;> exact Chip.set_far _ _ h
theorem halfP_far (c : Chip) (p : Pend) {i : Nat} (h : i ≠ p.blk) : (halfP c p).b i = c.b i := by
  cases p <;> exact Chip.set_far _ _ h
theorem doP_flags (c : Chip) (p : Pend) (i : Nat) : ((doP c p).b i).weak = (c.b i).weak ∧ ((doP c p).b i).bad = (c.b i).bad := by
  by_cases h : i = p.blk
  · subst h; cases p <;> simp [doP, Pend.blk]
  · rw [doP_far c p h]; exact ⟨rfl, rfl⟩
theorem halfP_flags (c : Chip) (p : Pend) (i : Nat) : ((halfP c p).b i).weak = (c.b i).weak ∧ ((halfP c p).b i).bad = (c.b i).bad := by
  by_cases h : i = p.blk
  · subst h; cases p <;> simp [halfP, Pend.blk]
  · rw [halfP_far c p h]; exact ⟨rfl, rfl⟩
theorem wrap64_range (n : Int) : -9223372036854775808 ≤ wrap64 n ∧ wrap64 n ≤ 9223372036854775807 := by
  unfold wrap64; omega
/-- What is so of the blocks alone. -/
structure BWf (c : Chip) : Prop where
  len : ∀ b, b < 24 → (c.b b).l.length ≤ 8
  size : ∀ b, b < 24 → ∀ s ∈ (c.b b).l, s.t = false → s.d.size = 64
  torn : ∀ b, b < 24 → ∀ s ∈ (c.b b).l, s.t = true → s = Go.Proofs.Ytaepdbkfaoiimaa.torn
  weak : ∀ b, (c.b b).weak = true → 2 ≤ b ∧ b < 24
  bad : ∀ b, (c.b b).bad = true → (c.b b).weak = true
  wear : ∀ b, -9223372036854775808 ≤ (c.b b).wear ∧ (c.b b).wear ≤ 9223372036854775807
theorem CWf.blocks (h : CWf c) : BWf c := ⟨h.len, h.size, h.torn, h.weak, h.bad, h.wear⟩
theorem BWf.chip (h : BWf c) (h1 : c.pend.isSome = c.down) (h2 : ∀ p, c.pend = some p → PendOk c p) (h3 : -1 ≤ c.fuse ∧ c.fuse ≤ 9223372036854775807) : CWf c :=
  ⟨h.len, h.size, h.torn, h1, h2, h3, h.weak, h.bad, h.wear⟩
theorem BWf.set_ (h : BWf c) {b : Nat} {x : CB} (h1 : x.l.length ≤ 8) (h2 : ∀ s ∈ x.l, s.t = false → s.d.size = 64) (h3 : ∀ s ∈ x.l, s.t = true → s = Go.Proofs.Ytaepdbkfaoiimaa.torn)
    (h4 : x.weak = true → 2 ≤ b ∧ b < 24) (h5 : x.bad = true → x.weak = true) (h6 : -9223372036854775808 ≤ x.wear ∧ x.wear ≤ 9223372036854775807) : BWf (c.set b x) := by
  refine ⟨fun i hi => ?_, fun i hi => ?_, fun i hi => ?_, fun i => ?_, fun i => ?_, fun i => ?_⟩ <;>
  · by_cases e : i = b
    · subst e; simp only [Chip.set_same]; assumption
    · rw [Chip.set_far c x e]
      first | exact h.len i hi | exact h.size i hi | exact h.torn i hi | exact h.weak i | exact h.bad i | exact h.wear i
theorem BWf.doP_ (h : BWf c) {p : Pend} (hp : PendOk c p) : BWf (doP c p) := by
  cases p with
  | wr b d =>
    obtain ⟨h1, h2, h3⟩ := hp
    refine h.set_ (by simp; omega) (fun s hs ht => ?_) (fun s hs ht => ?_) (h.weak b) (h.bad b) (h.wear b)
    · rcases List.mem_append.1 hs with hs | hs
      · exact h.size b h1 s hs ht
      · simp at hs; subst hs; exact h2
    · rcases List.mem_append.1 hs with hs | hs
      · exact h.torn b h1 s hs ht
      · simp at hs; subst hs; cases ht
  | er b => exact h.set_ (by simp) (by simp) (by simp) (h.weak b) (h.bad b) (wrap64_range _)
theorem BWf.halfP_ (h : BWf c) {p : Pend} (hp : PendOk c p) : BWf (halfP c p) := by
  cases p with
  | wr b d =>
    obtain ⟨h1, h2, h3⟩ := hp
    refine h.set_ (by simp; omega) (fun s hs ht => ?_) (fun s hs ht => ?_) (h.weak b) (h.bad b) (h.wear b)
    · rcases List.mem_append.1 hs with hs | hs
      · exact h.size b h1 s hs ht
      · simp at hs; subst hs; cases ht
    · rcases List.mem_append.1 hs with hs | hs
      · exact h.torn b h1 s hs ht
      · simp at hs; exact hs
  | er b =>
    refine h.set_ (by simp) (fun s hs ht => ?_) (fun s hs ht => ?_) (h.weak b) (h.bad b) (wrap64_range _)
    · have := List.eq_of_mem_replicate hs; subst this; cases ht
    · exact List.eq_of_mem_replicate hs
theorem CWf.step_ (h : CWf c) (hd : c.down = false) {p : Pend} (hp : PendOk c p) : CWf (c.step p).1 := by
  have hn : c.pend = none := by have := h.down; rw [hd] at this; simpa using this
  unfold Chip.step
  split
  · exact ⟨h.len, h.size, h.torn, rfl, fun q hq => by cases hq; cases p <;> exact hp, h.fuse, h.weak, h.bad, h.wear⟩
  · rename_i hf
    have hb : BWf { c with fuse := if 0 < c.fuse then c.fuse - 1 else c.fuse } := ⟨h.len, h.size, h.torn, h.weak, h.bad, h.wear⟩
    obtain ⟨e1, e2, e3⟩ := doP_pend { c with fuse := if 0 < c.fuse then c.fuse - 1 else c.fuse } p
    refine (hb.doP_ (p := p) (by cases p <;> exact hp)).chip ?_ ?_ ?_
    · rw [e1, e2]; exact h.down
    · rw [e1]; intro q hq; rw [hn] at hq; cases hq
    · rw [e3]
      have := h.fuse
      show -1 ≤ (if 0 < c.fuse then c.fuse - 1 else c.fuse) ∧ (if 0 < c.fuse then c.fuse - 1 else c.fuse) ≤ 9223372036854775807
      split <;> omega
theorem ready_zero {b : Int} (h : c.ready b = 0) : c.down = false ∧ 0 ≤ b ∧ b < 24 ∧ (c.b b.toNat).bad = false := by
  unfold Chip.ready at h
  split at h
  · omega
  · split at h
    · omega
    · split at h
      · omega
      · rename_i h1 h2 h3
        exact ⟨by simpa using h1, by omega, by omega, by simpa using h3⟩
theorem CWf.spoil_ (h : CWf c) (b : Nat) (hd : c.down = false) : CWf (c.spoil b) := by
  have hn : c.pend = none := by have := h.down; rw [hd] at this; simpa using this
  unfold Chip.spoil
  split
  · rename_i hw
    refine BWf.chip ?_ h.down ?_ h.fuse
    · exact h.blocks.set_ (h.len b (h.weak b hw).2) (h.size b (h.weak b hw).2) (h.torn b (h.weak b hw).2) (fun _ => h.weak b hw) (fun _ => hw) (h.wear b)
    · intro q hq; rw [show (c.set b _).pend = c.pend from rfl, hn] at hq; cases hq
  · exact h
theorem CWf.write_ (h : CWf c) (b : Int) (d : ByteArray) : CWf (c.write b d).1 := by
  unfold Chip.write
  split
  · exact h
  · rename_i h1
    obtain ⟨hd, hb0, hb1, hb⟩ := ready_zero (c := c) (b := b) (by simpa using h1)
    split
    · exact h
    · split
      · exact h
      · split
        · exact h.spoil_ _ hd
        · rename_i h2 h3 h4
          have := h.len b.toNat (by omega)
          exact h.step_ hd ⟨by omega, pad_size (by omega), by omega⟩
theorem CWf.erase_ (h : CWf c) (b : Int) : CWf (c.erase b).1 := by
  unfold Chip.erase
  split
  · exact h
  · rename_i h1
    obtain ⟨hd, hb0, hb1, hb⟩ := ready_zero (c := c) (b := b) (by simpa using h1)
    split
    · exact h.spoil_ _ hd
    · exact h.step_ hd (p := .er b.toNat) (show b.toNat < 24 by omega)
theorem CWf.weaken_ (h : CWf c) (b : Int) : CWf (c.weaken b).1 := by
  unfold Chip.weaken
  split
  · exact h
  · rename_i hb
    have hl : b.toNat < 24 := by omega
    refine BWf.chip ?_ h.down ?_ h.fuse
    · exact h.blocks.set_ (h.len _ hl) (h.size _ hl) (h.torn _ hl) (fun _ => ⟨by omega, hl⟩) (fun _ => rfl) (h.wear _)
    · intro q hq
      have := h.pend q hq
      cases q with
      | wr b' d =>
        refine ⟨this.1, this.2.1, ?_⟩
        by_cases e : b' = b.toNat
        · subst e; simp; exact this.2.2
        · rw [Chip.set_far _ _ e]; exact this.2.2
      | er b' => exact this
theorem CWf.arm_ (h : CWf c) {n : Int} (hn : n ≤ 9223372036854775807) : CWf (c.arm n) :=
  ⟨h.len, h.size, h.torn, h.down, fun p hp => by have := h.pend p hp; cases p <;> exact this, by simp only [Chip.arm]; omega, h.weak, h.bad, h.wear⟩
theorem BWf.undone_ (h : CWf c) (how : Int) : BWf (c.undone how) := by
  unfold Chip.undone
  split
  · exact h.blocks
  · rename_i p hp
    split
    · exact h.blocks.halfP_ (h.pend p hp)
    · split
      · exact h.blocks.doP_ (h.pend p hp)
      · exact h.blocks
theorem CWf.restart_ (h : CWf c) (how : Int) : CWf (c.restart how) := by
  have hb := BWf.undone_ h how
  exact BWf.chip ⟨hb.len, hb.size, hb.torn, hb.weak, hb.bad, hb.wear⟩ rfl (fun p hp => by cases hp) (show -1 ≤ (-1 : Int) ∧ (-1 : Int) ≤ 9223372036854775807 from ⟨by decide, by decide⟩)
end
end Go.Proofs.Ytaepdbkfaoiimaa
