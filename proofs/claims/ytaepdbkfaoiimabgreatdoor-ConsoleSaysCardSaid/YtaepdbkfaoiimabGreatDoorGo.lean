/- Several texts of this proof, one behind the other: walks and plain laws that the statement rests on. Conditions: none but those that each lemma names. -/
import Derived.Test.YtaepdbkfaoiimabGreatDoorGh
import Derived.Test.YtaepdbkfaoiimabGreatDoorOpen2
import Derived.Test.YtaepdbkfaoiimabGreatDoorGl
import Derived.Test.YtaepdbkfaoiimabGreatDoorGn
import Derived.Test.YtaepdbkfaoiimabGreatDoorClose
import Derived.Test.YtaepdbkfaoiimabGreatDoorOpen
import Derived.Test.YtaepdbkfaoiimabGreatDoorGk
import Derived.Test.YtaepdbkfaoiimabGreatDoorGc
import Derived.Laws.Tables
/- A formatted chip, and what acts make of a store: plain laws. Conditions: none but those that each names. -/
set_option linter.unusedVariables false
set_option linter.unusedSimpArgs false
namespace Go.Proofs.YtaepdbkfaoiimabGreatDoor
open Go.RowKit

/-- A manifest is noted on blocks that are blank. -/
theorem note_blank {c : Chip} {n : Man} (hc : CWf c) (hd : c.down = false) (hfu : c.fuse < 0) (h0 : (c.b 0).l = []) (h1 : (c.b 1).l = []) (hf : n.fault = 0) :
    ∃ c1, noteR c 0 n = (c1, 0, 0) ∧ CWf c1 ∧ c1.down = false ∧ c1.fuse < 0 ∧ Head c1 n 0 ∧ SameBut 0 c c1 ∧ ∀ i, (c1.b i).wear = (c.b i).wear := by
  have hwk : (c.b 0).weak = false := by
    cases e : (c.b 0).weak
    · rfl
    · have := hc.weak 0 e; omega
  have hbad : (c.b 0).bad = false := by
    cases e : (c.b 0).bad
    · rfl
    · have := hc.bad 0 e; rw [hwk] at this; cases this
  obtain ⟨c2, n2, e2, s2, f2, g2⟩ := write_calm (c := c) (b := 0) (d := n.bytes) (by decide) hd hbad hwk (mansize hf) (by rw [h0]; simp)
  have w2 : CWf c2 := by have := hc.write_ ((0 : Nat) : Int) n.bytes; rw [e2] at this; exact this
  obtain ⟨hn, hfu'⟩ := f2 hfu
  subst hn
  rcases g2 with ⟨_, d2, p2, l2, x2⟩ | ⟨h, _⟩
  · refine ⟨c2, ?_, w2, d2, hfu', ?_, s2, fun i => ?_⟩
    · unfold noteR
      rw [if_neg (by simpa using hf), if_neg (by rw [show ((0 : Int).toNat) = 0 from rfl, h0]; simp)]
      rw [show ((0 : Nat) : Int) = 0 from rfl] at e2
      rw [e2]
      simp
    · refine ⟨?_, .inl rfl⟩
      unfold findM
      rw [l2, s2.other 1 (by decide), h1, h0]
      show [].foldl (fStep 1) ([⟨pad n.bytes, false⟩].foldl (fStep 0) (Man.zero, -1)) = _
      rw [List.foldl_nil, List.foldl_cons, List.foldl_nil, fStep_eq, man_sheet hf]
      have := (fault_zero.1 hf).1
      show (if (0 : Int) < n.ep then (n, (0 : Int)) else (Man.zero, -1)) = (n, 0)
      rw [if_pos (by omega)]
    · by_cases e : i = 0
      · subst e; exact x2
      · rw [s2.other i e]
  · cases h
theorem wrap64_small {n : Int} (h0 : 0 ≤ n) (h1 : n ≤ 1000000000000) : wrap64 n = n := by unfold wrap64; omega
theorem wrap64_one : 0 ≤ wrap64 (0 + 1) ∧ wrap64 (0 + 1) ≤ 1 := by unfold wrap64; omega
/-- A store that has done so many acts, so many of which weakened a block. -/
structure Good (k j : Nat) (c : Chip) (s : SM) : Prop where
  inv : Inv c s
  calm : c.fuse < 0
  nw : s.m.nw.length ≤ 2
  ep : s.m.ep ≤ 1 + 12 * (k : Int)
  weak : weaks c ≤ j
  wear : ∀ i, 2 ≤ i → 0 ≤ (c.b i).wear ∧ (c.b i).wear ≤ 1 + 12 * (k : Int)
/-- A chip is formatted. -/
theorem format_calm : ∃ c1 c2 c3 c4 b, Chip.new.erase 0 = (c1, 0) ∧ c1.erase 1 = (c2, 0) ∧ c2.down = false ∧ blankM [] c2 = (c3, b, 0) ∧ noteR c3 0 (manL 1 b) = (c4, 0, 0) ∧
    Inv c4 ⟨manL 1 b, 0, [], []⟩ ∧ c4.fuse < 0 ∧ weaks c4 = 0 ∧ (∀ i, 0 ≤ (c4.b i).wear ∧ (c4.b i).wear ≤ 1) := by
  obtain ⟨c1, n1, e1, s1, f1, g1⟩ := erase_calm (c := Chip.new) (b := 0) (by decide) rfl rfl rfl
  obtain ⟨hn, hf1⟩ := f1 (by decide)
  subst hn
  have w1 : CWf c1 := by have := CWf.new.erase_ ((0 : Nat) : Int); rw [e1] at this; exact this
  rcases g1 with ⟨_, d1, p1, l1, x1⟩ | ⟨h, _⟩
  case inr => cases h
  have o1 : c1.b 1 = ⟨[], 0, false, false⟩ := s1.other 1 (by decide)
  obtain ⟨c2, n2, e2, s2, f2, g2⟩ := erase_calm (c := c1) (b := 1) (by decide) d1 (by rw [o1]) (by rw [o1])
  obtain ⟨hn, hf2⟩ := f2 hf1
  subst hn
  have w2 : CWf c2 := by have := w1.erase_ ((1 : Nat) : Int); rw [e2] at this; exact this
  rcases g2 with ⟨_, d2, p2, l2, x2⟩ | ⟨h, _⟩
  case inr => cases h
  have hb2 : ∀ i, (c2.b i).l = [] ∧ (c2.b i).weak = false ∧ (c2.b i).bad = false ∧ (2 ≤ i → (c2.b i).wear = 0) ∧ 0 ≤ (c2.b i).wear ∧ (c2.b i).wear ≤ 1 := by
    intro i
    by_cases i1 : i = 1
    · subst i1
      refine ⟨l2, by rw [s2.weak, o1], by rw [s2.bad, o1], fun h => by omega, ?_⟩
      rw [x2, o1]; exact wrap64_one
    · rw [s2.other i i1]
      by_cases i0 : i = 0
      · subst i0
        refine ⟨l1, s1.weak, s1.bad, fun h => by omega, ?_⟩
        rw [x1]; exact wrap64_one
      · rw [s1.other i i0]; exact ⟨rfl, rfl, rfl, fun _ => rfl, Int.le_refl _, show (0 : Int) ≤ 1 by decide⟩
  have hwk0 : weaks c2 = 0 := by
    unfold weaks
    rw [List.countP_eq_zero]
    intro i _
    simp [(hb2 i).2.1]
  obtain ⟨c3, b, n3, e3, w3, x3, f3, g3⟩ := seek_calm lays_erase [] 25 c2 (by have := goods_le c2; omega) w2 d2 ⟨2, by omega, by omega, (hb2 2).2.1, by simp⟩
  obtain ⟨hn, hf3⟩ := f3 hf2
  subst hn
  rcases g3 with ⟨_, d3, p3, q, rfl, q2, q24, _, hq, _, hqw, hwear⟩ | ⟨h, _⟩
  case inr => cases h
  have hfl : (manL 1 (q : Int)).fault = 0 := manL_fault (by decide) (by decide) (by omega) (by omega)
  obtain ⟨c4, e4, w4, d4, f4, h4, s4, x4⟩ := note_blank (n := manL 1 (q : Int)) w3 d3 hf3 (by rw [x3.keep 0 (.inr (by omega))]; exact (hb2 0).1) (by rw [x3.keep 1 (.inr (by omega))]; exact (hb2 1).1) hfl
  have hwk : ∀ i, (c4.b i).weak = false := fun i => by
    by_cases e : i = 0
    · subst e; rw [s4.weak, x3.weak]; exact (hb2 0).2.1
    · rw [s4.other i e, x3.weak]; exact (hb2 i).2.1
  have hw0 : weaks c4 = 0 := by
    unfold weaks
    rw [List.countP_eq_zero]
    intro i _
    simp [hwk i]
  refine ⟨c1, c2, c3, c4, (q : Int), e1, e2, d2, e3, e4, ⟨w4, d4, h4, ⟨hfl, trivial, ⟨[], ?_, rfl, by simp, by simp⟩, by omega, by simp [manL], by simp [manL], ⟨by simp [Rises], by simp⟩, ?_, ?_⟩⟩, f4, hw0, fun i => ?_⟩
  · show logE (c4.b ((q : Int)).toNat).l = some []
    rw [Int.toNat_natCast, s4.other q (by omega), hq]
    rfl
  · show (rowsOf [] []).length ≤ 40
    decide +kernel
  · show (liveE (mergeAll [])).length ≤ 40
    decide +kernel
  · rw [x4 i, hwear i]
    have := (hb2 i).2.2.2
    by_cases e : i = q
    · subst e
      rw [if_pos rfl, this.1 q2]
      exact wrap64_one
    · rw [if_neg e]; exact this.2
theorem format_good : ∃ c1 c2 c3 c4 b, Chip.new.erase 0 = (c1, 0) ∧ c1.erase 1 = (c2, 0) ∧ c2.down = false ∧ blankM [] c2 = (c3, b, 0) ∧ noteR c3 0 (manL 1 b) = (c4, 0, 0) ∧ Good 0 0 c4 ⟨manL 1 b, 0, [], []⟩ := by
  obtain ⟨c1, c2, c3, c4, b, e1, e2, d2, e3, e4, hi, hf, hw, hwe⟩ := format_calm
  exact ⟨c1, c2, c3, c4, b, e1, e2, d2, e3, e4, hi, hf, by simp [manL], by simp [manL], by omega, fun i _ => by have := hwe i; omega⟩
/-- Weakening a block leaves what a store holds. -/
theorem weaken_l (c : Chip) (b : Int) (i : Nat) : ((c.weaken b).1.b i).l = (c.b i).l ∧ ((c.weaken b).1.b i).bad = (c.b i).bad ∧ ((c.weaken b).1.b i).wear = (c.b i).wear := by
  unfold Chip.weaken
  split
  · exact ⟨rfl, rfl, rfl⟩
  · by_cases e : i = b.toNat
    · subst e; simp
    · show ((c.set b.toNat _).b i).l = _ ∧ _
      rw [Chip.set_far c _ e]; exact ⟨rfl, rfl, rfl⟩
theorem countP_one {n j : Nat} {f g : Nat → Bool} (h : ∀ i, i ≠ j → g i = f i) : (List.range n).countP g ≤ (List.range n).countP f + 1 := by
  induction n with
  | zero => simp
  | succ n ih =>
    rw [List.range_succ, List.countP_append, List.countP_append]
    by_cases e : n = j
    · subst e
      have : (List.range n).countP g = (List.range n).countP f := by
        refine List.countP_congr fun i hi => ?_
        rw [h i (by have := List.mem_range.1 hi; omega)]
      rw [this]
      have : [n].countP g ≤ 1 := by rw [List.countP_singleton]; split <;> omega
      omega
    · have : [n].countP g = [n].countP f := by rw [List.countP_singleton, List.countP_singleton, h n e]
      omega
theorem weaks_weaken (c : Chip) (b : Int) : weaks (c.weaken b).1 ≤ weaks c + 1 := by
  unfold Chip.weaken
  split
  · show weaks c ≤ _; omega
  · refine countP_one (j := b.toNat) fun i hi => ?_
    show ((c.set b.toNat _).b i).weak = _
    rw [Chip.set_far c _ hi]
theorem Good.weaken {k j : Nat} {c : Chip} {s : SM} (h : Good k j c s) (hj : j ≤ 5) (b : Int) : Good (k + 1) (j + 1) (c.weaken b).1 s := by
  have hl := weaken_l c b
  have hw := weaks_weaken c b
  have hwk := h.weak
  have hi := h.inv
  have hfd : (c.weaken b).1.fuse = c.fuse ∧ (c.weaken b).1.down = c.down := by unfold Chip.weaken; split <;> exact ⟨rfl, rfl⟩
  obtain ⟨es, hlog⟩ := hi.body.log
  refine ⟨⟨hi.wf.weaken_ b, by rw [hfd.2]; exact hi.up, hi.head.same (hl 0).1 (hl 1).1, ⟨hi.body.fault, tabsAt_keep hi.body.tabs fun x _ => (hl _).1, ⟨es, ?_, hlog.mem, ?_, hlog.ok⟩, by omega, hi.body.nwl, hi.body.odl, hi.body.old, hi.body.rows, hi.body.trows⟩⟩, by rw [hfd.1]; exact h.calm, h.nw, by have := h.ep; omega, by omega, fun i h2 => ?_⟩
  · rw [(hl _).1]; exact hlog.read
  · rw [(hl _).1]; exact hlog.few
  · rw [(hl i).2.2]; have := h.wear i h2; omega
theorem Good.mono {k j k' j' : Nat} {c : Chip} {s : SM} (h : Good k j c s) (hk : k ≤ k') (hj : j ≤ j') : Good k' j' c s :=
  ⟨h.inv, h.calm, h.nw, by have := h.ep; omega, by have := h.weak; omega, fun i hi => by have := h.wear i hi; omega⟩
theorem weaks_grew {c c' : Chip} {K : Int} (h : Grew c c' K) : weaks c' = weaks c := by
  unfold weaks
  congr 1
  funext i
  rw [h.weak]
theorem Good.step {k j : Nat} {c c' : Chip} {s s' : SM} {K : Int} (h : Good k j c s) (hk : k ≤ 1000) (hi : Inv c' s') (hf : c'.fuse < 0) (hn : s'.m.nw.length ≤ 2) (he : s'.m.ep ≤ s.m.ep + 12) (hg : Grew c c' K) (hK : K ≤ 12) : Good (k + 1) j c' s' := by
  refine ⟨hi, hf, hn, by have := h.ep; omega, by rw [weaks_grew hg]; exact h.weak, fun i h2 => ?_⟩
  have := (hg.mono hK).wear (1 + 12 * (k : Int)) (by omega) (by omega) h.wear i h2
  omega
/-- What is wrong with a batch of changes to rows. -/
def checkR (r : List Ent) (l : List Ent) : Nat :=
  if l.length = 0 ∨ 4 < l.length then 2
  else if bytesF l ≠ 0 then bytesF l
  else if 40 < (liveE (l.foldl putE r)).length then 8 else 0
theorem checkM_eq (s : SM) (l : List Ent) : checkM s l = checkR s.rows l := rfl
def rowsW (r : List Ent) (l : List Ent) : List Ent := if checkR r l = 0 then liveE (l.foldl putE r) else r
def kWrite : List UInt8 := [119, 114, 105, 116, 101]
def kFlush : List UInt8 := [102, 108, 117, 115, 104]
def kCompact : List UInt8 := [99, 111, 109, 112, 97, 99, 116]
def kWeaken : List UInt8 := [119, 101, 97, 107, 101, 110]
/-- An act to a store. -/
def doM (c : Chip) (s : SM) (a : Act) : Chip × SM × Nat :=
  if a.kind.toList = kWrite then writeM c s a.l
  else if a.kind.toList = kFlush then flushM c s
  else if a.kind.toList = kCompact then compM c s
  else if a.kind.toList = kWeaken then ((c.weaken a.a).1, s, 0) else (c, s, 0)
def rowsA (r : List Ent) (a : Act) : List Ent := if a.kind.toList = kWrite then rowsW r a.l else r
def weakA (a : Act) : Nat := if a.kind.toList = kWeaken then 1 else 0
theorem write_good {k j : Nat} {c : Chip} {s : SM} (h : Good k j c s) (hk : k ≤ 1000) (l : List Ent) :
    ∃ c' s', writeM c s l = (c', s', checkR s.rows l) ∧ Good (k + 1) j c' s' ∧ s'.rows = rowsW s.rows l := by
  by_cases hc : checkM s l = 0
  · obtain ⟨c', s', n, e, f, g⟩ := write_store h.inv (by have := h.ep; omega) hc
    obtain ⟨hn, hf⟩ := f h.calm
    subst hn
    rcases g with ⟨_, hi, hr, he1, he2, hg, hn⟩ | ⟨h9, _⟩
    · refine ⟨c', s', by rw [e, ← checkM_eq, hc], h.step hk hi hf (hn h.nw) (by omega) hg (by omega), ?_⟩
      rw [hr, rowsW, if_pos (by rw [← checkM_eq]; exact hc)]
    · omega
  · exact ⟨c, s, by rw [writeM, if_pos hc, checkM_eq], h.mono (by omega) (Nat.le_refl _), by rw [rowsW, if_neg (by rw [← checkM_eq]; exact hc)]⟩
theorem flush_good {k j : Nat} {c : Chip} {s : SM} (h : Good k j c s) (hk : k ≤ 1000) :
    ∃ c' s', flushM c s = (c', s', 0) ∧ Good (k + 1) j c' s' ∧ s'.rows = s.rows ∧ s'.mem = [] ∧ (∃ q : Nat, s'.m.log = q ∧ (c'.b q).l = [] ∧ (c'.b q).weak = false ∧ (c.b q).bad = false) ∧ (∀ b ∈ s'.m.nw, b ∈ s.m.nw ∨ (c.b b.toNat).bad = false) := by
  obtain ⟨c', s', n, e, f, g⟩ := flush_calm h.inv (by have := h.ep; omega)
  obtain ⟨hn, hf⟩ := f h.calm
  subst hn
  rcases g with ⟨_, hi, hr, he1, he2, hg, hm, hn, hq, hb⟩ | ⟨h9, _⟩
  · exact ⟨c', s', e, h.step hk hi hf hn (by omega) hg (by omega), hr, hm, hq, hb⟩
  · omega
theorem comp_good {k j : Nat} {c : Chip} {s : SM} (h : Good k j c s) (hk : k ≤ 1000) :
    ∃ c' s', compM c s = (c', s', 0) ∧ Good (k + 1) j c' s' ∧ s'.rows = s.rows ∧ s'.mem = s.mem ∧ s'.m.nw = [] ∧ s'.m.log = s.m.log ∧ s'.tabs = parts 14 (liveE (mergeAll s.tabs)) := by
  obtain ⟨c', s', n, e, f, g⟩ := comp_calm h.inv (by have := h.ep; omega)
  obtain ⟨hn, hf⟩ := f h.calm
  subst hn
  rcases g with ⟨_, hi, hr, he, hg, hm, hn, hlg, _, ht⟩ | ⟨h9, _⟩
  · exact ⟨c', s', e, h.step hk hi hf (by rw [hn]; simp) (by omega) hg (by omega), hr, hm, hn, hlg, ht⟩
  · omega
theorem do_good {k j : Nat} {c : Chip} {s : SM} (h : Good k j c s) (hk : k ≤ 1000) (a : Act) (hj : j + weakA a ≤ 6) :
    ∃ c' s' n, doM c s a = (c', s', n) ∧ Good (k + 1) (j + weakA a) c' s' ∧ s'.rows = rowsA s.rows a ∧ n = (if a.kind.toList = kWrite then checkR s.rows a.l else 0) := by
  unfold doM rowsA
  by_cases h1 : a.kind.toList = kWrite
  · have hw : weakA a = 0 := by unfold weakA; rw [h1]; rfl
    rw [if_pos h1, if_pos h1, if_pos h1, hw]
    obtain ⟨c', s', e, g, r⟩ := write_good h hk a.l
    exact ⟨c', s', _, e, g, r, rfl⟩
  rw [if_neg h1, if_neg h1, if_neg h1]
  by_cases h2 : a.kind.toList = kFlush
  · have hw : weakA a = 0 := by unfold weakA; rw [h2]; rfl
    rw [if_pos h2, hw]
    obtain ⟨c', s', e, g, r, _⟩ := flush_good h hk
    exact ⟨c', s', _, e, g, r, rfl⟩
  rw [if_neg h2]
  by_cases h3 : a.kind.toList = kCompact
  · have hw : weakA a = 0 := by unfold weakA; rw [h3]; rfl
    rw [if_pos h3, hw]
    obtain ⟨c', s', e, g, r, _⟩ := comp_good h hk
    exact ⟨c', s', _, e, g, r, rfl⟩
  rw [if_neg h3]
  by_cases h4 : a.kind.toList = kWeaken
  · have hw : weakA a = 1 := by unfold weakA; rw [if_pos h4]
    rw [if_pos h4, hw]
    exact ⟨_, _, _, rfl, h.weaken (by omega) a.a, rfl, rfl⟩
  · have hw : weakA a = 0 := by unfold weakA; rw [if_neg h4]
    rw [if_neg h4, hw]
    exact ⟨_, _, _, rfl, h.mono (by omega) (Nat.le_refl _), rfl, rfl⟩
def weakN (l : List Act) : Nat := (l.map weakA).sum
def lightA (most : Int) (l : List Act) : Bool := decide ((l.length : Int) ≤ most) && l.all (fun a => decide (a.s.size ≤ 100) && lightE 6 a.l)
end Go.Proofs.YtaepdbkfaoiimabGreatDoor
/- The contracts of store.Format on a new chip, and of the law's Stored. Conditions: none. -/
set_option linter.unusedVariables false
set_option linter.unusedSimpArgs false
namespace Go.Proofs.YtaepdbkfaoiimabGreatDoor
open Go.RowKit
attribute [local go_sem ↓] eql_err eql_nilerr neq_err neq_nilerr guard_err guard_nilerr guardn_err guardn_nilerr
/-- How the chip has become. -/
def FormE (c : Chip) (b : Int) : Prop := ∃ c1 c2 c3, Chip.new.erase 0 = (c1, 0) ∧ c1.erase 1 = (c2, 0) ∧ blankM [] c2 = (c3, b, 0) ∧ noteR c3 0 (manL 1 b) = (c, 0, 0)
set_option maxRecDepth 20000 in
set_option maxHeartbeats 4000000 in
/-- A new chip is formatted. -/
theorem format_more (B p : Nat) (w : World) (h : ChipR B w p Chip.new) :
    Calls Tryz.prog 10 #[.pointer (some ⟨p, 0, none⟩)] w fun e w' => ∃ c b, e = .returned .nilIface ∧ ChipR B w' p c ∧ Good 0 0 c ⟨manL 1 b, 0, [], []⟩ ∧ Fr B (· = p) w w' ∧ FormE c b := by
  obtain ⟨c1, c2, c3, c4, b, e1, e2, d2, e3, e4, hgood⟩ := format_good
  have HG := Lib.hid hgood
  have HE : Hid (FormE c4 b) := ⟨c1, c2, c3, e1, e2, e3, e4⟩
  have H1 : Hid (Calls Tryz.prog 21 #[.pointer (some ⟨p, 0, none⟩), .int .i64 0] w fun e w' => e = .returned .nilIface ∧ ChipR B w' p c1 ∧ Fr B (· = p) w w') := by
    have := cerase_any B p Chip.new 0 w h
    rw [e1] at this
    exact this
  have H2 : Hid (∀ W, ChipR B W p c1 → Calls Tryz.prog 21 #[.pointer (some ⟨p, 0, none⟩), .int .i64 1] W fun e w' => e = .returned .nilIface ∧ ChipR B w' p c2 ∧ Fr B (· = p) W w') := fun W hW => by
    have := cerase_any B p c1 1 W hW
    rw [e2] at this
    exact this
  have H3 : Hid (∀ W, ChipR B W p c2 → Calls Tryz.prog 22 #[.pointer (some ⟨p, 0, none⟩), .slice none 0 0] W fun e w' => e = .returned (.tuple #[.int .i64 b, .nilIface]) ∧ ChipR B w' p c3 ∧ Fr B (· = p) W w') := fun W hW => by
    have := blank_any B p c2 (.slice none 0 0) [] W hW (Rd.nil _ _ _ _) d2
    rw [e3] at this
    exact this
  have H4 : Hid (∀ W, ChipR B W p c3 → Calls Tryz.prog 23 #[.pointer (some ⟨p, 0, none⟩), .int .i64 0, .agg #[.int .i64 1, .int .i64 b, .slice none 0 0, .slice none 0 0]] W fun e w' => e = .returned (.tuple #[.int .i64 0, .nilIface]) ∧ ChipR B w' p c4 ∧ Fr B (· = p) W w') := fun W hW => by
    have := note_any B p c3 0 _ (manL 1 b) W hW (.inl rfl) ⟨_, _, rfl, Rd.nil _ _ _ _, Rd.nil _ _ _ _⟩ (by simp [manL]) (by simp [manL])
    rw [e4] at this
    exact this
  clear e1 e2 d2 e3 e4 hgood h
  go_enter Tryz.func10, Tryz.ntmps10
  go_wp2_with fail
  refine wp_loop_rounds 3 ?_
  rw [rounds_succ]
  go_wp2_with (go_at_call 21; refine H1.out.mono ?_; rintro e w1 ⟨rfl, hc1, hf1⟩)
  have HF1 := Lib.hid hf1
  have H2' := Lib.hid (H2.out w1 hc1)
  clear hf1 hc1 H1 H2
  rw [rounds_succ]
  go_wp2_with (go_at_call 21; refine H2'.out.mono ?_; rintro e w2 ⟨rfl, hc2, hf2⟩)
  have HF2 := Lib.hid (HF1.out.trans hf2 (fun _ _ => trivial))
  have H3' := Lib.hid (H3.out w2 hc2)
  clear hf2 hc2 H2' H3
  rw [rounds_succ]
  go_wp2_with (go_at_call 22; refine H3'.out.mono ?_; rintro e w3 ⟨rfl, hc3, hf3⟩)
  have HF3 := Lib.hid (HF2.out.trans hf3 (fun _ _ => trivial))
  have H4' := Lib.hid (H4.out w3 hc3)
  clear hf3 hc3 H3' H4
  go_wp2_with (go_at_call 23; refine H4'.out.mono ?_; rintro e w4 ⟨rfl, hc4, hf4⟩)
  have HF4 := Lib.hid (HF3.out.trans hf4 (fun _ _ => trivial))
  have HC4 := Lib.hid hc4
  clear hf4 hc4 H4'
  go_ret
  exact ⟨c4, b, rfl, HC4.out, HG.out, HF4.out, HE.out⟩
theorem format_any (B p : Nat) (w : World) (h : ChipR B w p Chip.new) :
    Calls Tryz.prog 10 #[.pointer (some ⟨p, 0, none⟩)] w fun e w' => ∃ c b, e = .returned .nilIface ∧ ChipR B w' p c ∧ Good 0 0 c ⟨manL 1 b, 0, [], []⟩ ∧ Fr B (· = p) w w' :=
  (format_more B p w h).mono fun e w' ⟨c, b, h1, h2, h3, h4, _⟩ => ⟨c, b, h1, h2, h3, h4⟩
theorem rows_none : rowsOf [] [] = [] := List.eq_nil_of_length_eq_zero (by decide +kernel)
/-- A store that has done so many acts lies in these blocks. -/
structure StS (B : Nat) (W : World) (q p k j : Nat) (c : Chip) (s : SM) (F : List Nat) : Prop where
  st : StoreR B W q p s F
  ch : ChipR B W p c
  ok : Good k j c s
end Go.Proofs.YtaepdbkfaoiimabGreatDoor
/- The contracts of do, filled, rows, works, LightActs, Weak. Conditions: none but those that each names. -/
set_option linter.unusedVariables false
set_option linter.unusedSimpArgs false
namespace Go.Proofs.YtaepdbkfaoiimabGreatDoor
open Go.RowKit
attribute [local go_sem ↓] eql_err eql_nilerr neq_err neq_nilerr guard_err guard_nilerr guardn_err guardn_nilerr
theorem StS.post {B q p k j k' j' : Nat} {w w' : World} {c c' : Chip} {s s' : SM} {F : List Nat} {n : Nat} {e : Ending} (h : SPost B q p F w (c', s', n) e w') (hg : Good k' j' c' s') :
    ∃ F', StS B w' q p k' j' c' s' F' ∧ (∀ b ∈ F', b ∈ F ∨ w.heap.size ≤ b) ∧ Fr B (· ∈ q :: p :: F) w w' := by
  obtain ⟨_, hc, ⟨F', hs, hF⟩, hf⟩ := h
  exact ⟨F', ⟨hs, hc, hg⟩, hF, hf⟩
/-- The same of a world where the store's blocks are as they were. -/
theorem StS.below {B q p k j : Nat} {w w' : World} {c : Chip} {s : SM} {F : List Nat} (h : StS B w q p k j c s F) (hb : Below w.heap.size w w') : StS B w' q p k j c s F := ⟨h.st.below hb, h.ch.below hb, h.ok⟩
/-- What an act tells. -/
def doN (r : List Ent) (a : Act) : Nat := if a.kind.toList = kWrite then checkR r a.l else 0
/-- What an act leaves. -/
def DoP (B q p k j : Nat) (F : List Nat) (w : World) (r : List Ent) (n : Nat) (e : Ending) (w' : World) : Prop :=
  ∃ c' s' F', e = .returned (errV n) ∧ StS B w' q p k j c' s' F' ∧ s'.rows = r ∧ (∀ b ∈ F', b ∈ F ∨ w.heap.size ≤ b) ∧ Fr B (· ∈ q :: p :: F) w w'
theorem kind_eq {a : ByteArray} {k : List UInt8} (h : a.toList = k) : (a.toList == k) = true := by rw [beq_iff_eq]; exact h
theorem kind_ne {a : ByteArray} {k : List UInt8} (h : ¬ a.toList = k) : (a.toList == k) = false := by rw [beq_eq_false_iff_ne]; exact h
end Go.Proofs.YtaepdbkfaoiimabGreatDoor
/- The contracts of filled and works. Conditions: none. -/
set_option linter.unusedVariables false
set_option linter.unusedSimpArgs false
namespace Go.Proofs.YtaepdbkfaoiimabGreatDoor
open Go.RowKit
attribute [local go_sem ↓] eql_err eql_nilerr neq_err neq_nilerr guard_err guard_nilerr guardn_err guardn_nilerr
theorem FrQ.below {B q p : Nat} {F : List Nat} {w0 w w' : World} (hb : Below B w0 w) (hB : B ≤ w0.heap.size) (hf : Fr B (· ∈ q :: p :: F) w w') : Below B w0 w' := hb.trans (hf.below (Nat.le_trans hB hb.size))
/-- What a key is told, by the rows. -/
def toldR (r : List Ent) (key : ByteArray) : Value := .tuple #[.string ((getE r key).getD Ent.zero).v, .bool (getE r key).isSome, .nilIface]
theorem told_rows {c : Chip} {s : SM} (hi : Inv c s) (key : ByteArray) : toldV (s.get key) = toldR s.rows key := by
  unfold toldR
  rw [SM.get_rows hi]
  cases hg : s.get key with
  | none => rfl
  | some e =>
    cases heg : e.g
    · have e1 : (some e : Option Ent).filter (fun e => !e.g) = some e := by simp [heg]
      rw [e1]
      show Value.tuple #[.string e.v, .bool (true && !e.g), .nilIface] = .tuple #[.string e.v, .bool true, .nilIface]
      rw [heg]; rfl
    · have e1 : (some e : Option Ent).filter (fun e => !e.g) = none := by simp [heg]
      rw [e1]
      have hf : faultE e = 0 := by
        unfold SM.get at hg
        cases hm : getE s.mem key with
        | some x =>
          rw [hm] at hg
          cases hg
          obtain ⟨es, hlog⟩ := hi.body.log
          exact hlog.fault e (getE_mem hm).1
        | none =>
          rw [hm] at hg
          have hg : firstE s.tabs key = some e := hg
          unfold firstE at hg
          obtain ⟨l, hl, he⟩ := List.exists_of_findSome?_eq_some hg
          exact chkT_all (tabF_parts (tabsAt_ok hi.body.tabs l hl)).2.2 e (getE_mem he).1
      have hv : e.v = ByteArray.empty := by
        have h1 := (faultE_zero hf).2.1 heg
        rw [← toList_inj, h1]
        exact ((toList_nil ByteArray.empty).2 rfl).symm
      show Value.tuple #[.string e.v, .bool (true && !e.g), .nilIface] = .tuple #[.string ByteArray.empty, .bool false, .nilIface]
      rw [heg, hv]; rfl
end Go.Proofs.YtaepdbkfaoiimabGreatDoor
/- What the statements about a filled store share. Conditions: none but those that each names. -/
set_option linter.unusedVariables false
set_option linter.unusedSimpArgs false
namespace Go.Proofs.YtaepdbkfaoiimabGreatDoor
open Go.RowKit
theorem rows_alive (s : SM) : ∀ e ∈ s.rows, e.g = false := by
  intro e he
  have := (List.mem_filter.1 (show e ∈ (mergeAll (s.mem :: s.tabs)).filter (fun e => !e.g) from he)).2
  simpa using this
theorem getE_alive {l : List Ent} (h : ∀ e ∈ l, e.g = false) (key : ByteArray) : (getE l key).filter (fun e => !e.g) = getE l key := by
  cases hg : getE l key with
  | none => rfl
  | some e => simp [h e (getE_mem hg).1]
theorem get_rowsW {r l : List Ent} (hr : Rises r) (ha : ∀ e ∈ r, e.g = false) (h0 : checkR r l = 0) (key : ByteArray) : getE (rowsW r l) key = ((lastE l key).or (getE r key)).filter (fun e => !e.g) := by
  rw [rowsW, if_pos h0, get_live (rises_puts l hr), get_puts l hr]
theorem get_others {r l : List Ent} (hr : Rises r) (ha : ∀ e ∈ r, e.g = false) {key : ByteArray} (hk : ∀ e ∈ l, e.k ≠ key) : getE (rowsW r l) key = getE r key := by
  by_cases h0 : checkR r l = 0
  · rw [get_rowsW hr ha h0]
    have : lastE l key = none := by
      unfold lastE getE
      rw [List.find?_eq_none]
      intro e he
      have := hk e (List.mem_reverse.1 he)
      simpa using this
    rw [this, Option.none_or, getE_alive ha]
  · rw [rowsW, if_neg h0]
theorem ents_up {B B' : Nat} {w : World} {v : Value} {l : List Ent} (h : Ents B w v l) (hB : B ≤ B') : Ents B' w v l := ⟨Rd.mono h.1 hB, h.2⟩
section
variable {B q p k j : Nat} {c : Chip} {s : SM} {F : List Nat} {w : World}
theorem get_st (h : StS B w q p k j c s F) (key : ByteArray) (hk : key.size ≤ 9223372036854775807) : Calls Tryz.prog 61 #[.pointer (some ⟨q, 0, none⟩), .string key] w fun e w' =>
    e = .returned (.tuple #[.string ((getE s.rows key).getD Ent.zero).v, .bool (getE s.rows key).isSome, .nilIface]) ∧ StS B w' q p k j c s F ∧ Below w.heap.size w w' := by
  have := sget_any B q p c s F key w h.st h.ch h.ok.inv hk
  rw [told_rows h.ok.inv] at this
  exact this.mono fun e w' ⟨h1, h2⟩ => ⟨h1, h.below h2, h2⟩
theorem write_st (h : StS B w q p k j c s F) (hk : k ≤ 1000) {v : Value} {l : List Ent} (hl : Ents B w v l) : Calls Tryz.prog 56 #[.pointer (some ⟨q, 0, none⟩), v] w (DoP B q p (k + 1) j F w (rowsW s.rows l) (checkR s.rows l)) := by
  obtain ⟨c1, s1, e1, g1, r1⟩ := write_good h.ok hk l
  have hw := write_any B q p c s F v l w h.st h.ch h.ok.inv hl (by have := h.ok.ep; omega)
  rw [e1] at hw
  refine hw.mono ?_
  intro e w' hp
  obtain ⟨F', hs, hF, hf⟩ := StS.post (k := k) (j := j) (c := c) (s := s) hp g1
  exact ⟨c1, s1, F', hp.1, hs, r1, hF, hf⟩
theorem DoP.st {k' j' n : Nat} {r : List Ent} {w0 w' : World} {e : Ending} (hb : Below B w0 w) (hB : B ≤ w0.heap.size) (h : DoP B q p k' j' F w r n e w') : ∃ c' s' F', e = .returned (errV n) ∧ StS B w' q p k' j' c' s' F' ∧ s'.rows = r ∧ Below B w0 w' := by
  obtain ⟨c', s', F', h1, h2, h3, h4, h5⟩ := h
  exact ⟨c', s', F', h1, h2, h3, FrQ.below hb hB h5⟩
theorem StS.rise (h : StS B w q p k j c s F) : Rises s.rows := rows_rise h.ok.inv
end
end Go.Proofs.YtaepdbkfaoiimabGreatDoor
/- The contract of store.Manifest. Conditions: none but those that it names. -/
set_option linter.unusedVariables false
set_option linter.unusedSimpArgs false
namespace Go.Proofs.YtaepdbkfaoiimabGreatDoor
open Go.RowKit
section
variable {B g k i j : Nat} {w : World} {cs : Array Value} {a0 a1 a2 a3 b0 b1 b2 b3 x y : Value}
theorem man_two (hz : Blk w k 74 #[a0, a1, a2, a3]) (hne : k ≠ g) : Blk ((((((w.setCell ⟨g, i, none⟩ x).setCell ⟨g, j, none⟩ y).setCell ⟨k, 0, none⟩ b0).setCell ⟨k, 1, none⟩ b1).setCell ⟨k, 2, none⟩ b2).setCell ⟨k, 3, none⟩ b3) k 74 #[b0, b1, b2, b3] :=
  store4 ((hz.far (p := ⟨g, i, none⟩) hne x).far (p := ⟨g, j, none⟩) hne y) b0 b1 b2 b3
theorem ints_two {v : Value} {l : List Int} (h : Ints B w v l) (hz : Blk w k 74 #[a0, a1, a2, a3]) (hg : Blk w g 74 cs) (hne : k ≠ g) (hBg : B ≤ g) (hBk : B ≤ k) : Ints B ((((((w.setCell ⟨g, i, none⟩ x).setCell ⟨g, j, none⟩ y).setCell ⟨k, 0, none⟩ b0).setCell ⟨k, 1, none⟩ b1).setCell ⟨k, 2, none⟩ b2).setCell ⟨k, 3, none⟩ b3) v l := by
  have h1 := Rd.far' (o := i) h hg hBg (by decide) x
  have h2 := Rd.far' (o := j) h1 (hg.set_ i x) hBg (by decide) y
  have hz2 := (hz.far (p := ⟨g, i, none⟩) hne x).far (p := ⟨g, j, none⟩) hne y
  exact Rd.far' (Rd.far' (Rd.far' (Rd.far' h2 hz2 hBk (by decide) _) (hz2.set_ 0 _) hBk (by decide) _) ((hz2.set_ 0 _).set_ 1 _) hBk (by decide) _) (((hz2.set_ 0 _).set_ 1 _).set_ 2 _) hBk (by decide) _
theorem below_two {n : Nat} {w0 : World} (h : Below n w0 w) (hg : n ≤ g) (hk : n ≤ k) : Below n w0 ((((((w.setCell ⟨g, i, none⟩ x).setCell ⟨g, j, none⟩ y).setCell ⟨k, 0, none⟩ b0).setCell ⟨k, 1, none⟩ b1).setCell ⟨k, 2, none⟩ b2).setCell ⟨k, 3, none⟩ b3) :=
  below4 ((h.setCell (p := ⟨g, i, none⟩) hg x).setCell (p := ⟨g, j, none⟩) hg y) hk b0 b1 b2 b3
end
set_option maxRecDepth 20000 in
set_option maxHeartbeats 4000000 in
theorem sman_any (B : Nat) (q p : Nat) (s : SM) (F : List Nat) (w : World) (h : StoreR B w q p s F) (h1 : s.m.nw.length ≤ 1000) (h2 : s.m.od.length ≤ 1000) :
    Calls Tryz.prog 134 #[.pointer (some ⟨q, 0, none⟩)] w fun e w' => ∃ A3 c3 A4 c4, e = .returned (.agg #[.int .i64 s.m.ep, .int .i64 s.m.log, .slice A3 s.m.nw.length c3, .slice A4 s.m.od.length c4]) ∧ Ints B w' (.slice A3 s.m.nw.length c3) s.m.nw ∧ Ints B w' (.slice A4 s.m.od.length c4) s.m.od ∧ Below w.heap.size w w' := by
  have fin : ∀ (wr : World) (tmps : Array Value) (A3 A4 : Option Addr) (c3 c4 : Nat), Blk wr w.heap.size 74 #[.int .i64 s.m.ep, .int .i64 s.m.log, .slice A3 s.m.nw.length c3, .slice A4 s.m.od.length c4] → Ints B wr (.slice A3 s.m.nw.length c3) s.m.nw → Ints B wr (.slice A4 s.m.od.length c4) s.m.od → Below w.heap.size w wr → tmps[2]? = some (.pointer (some ⟨w.heap.size, 0, none⟩)) →
      bodyPost Tryz.prog Tryz.f134 (fun e w' => ∃ A3 c3 A4 c4, e = .returned (.agg #[.int .i64 s.m.ep, .int .i64 s.m.log, .slice A3 s.m.nw.length c3, .slice A4 s.m.od.length c4]) ∧ Ints B w' (.slice A3 s.m.nw.length c3) s.m.nw ∧ Ints B w' (.slice A4 s.m.od.length c4) s.m.od ∧ Below w.heap.size w w') .ret { tmps := tmps, defers := [] } wr := by
    intro wr tmps A3 A4 c3 c4 hk h3 h4 hb t2
    have y0 := hk.cell 0
    have y1 := hk.cell 1
    have y2 := hk.cell 2
    have y3 := hk.cell 3
    simp at y0 y1 y2 y3
    exact bodyPost_ret (v := .agg #[.int .i64 s.m.ep, .int .i64 s.m.log, .slice A3 s.m.nw.length c3, .slice A4 s.m.od.length c4]) (by simp [results, Tryz.results134, go_sem, t2, y0, y1, y2, y3]) rfl ⟨A3, c3, A4, c4, rfl, h3, h4, hb⟩
  have FIN := Lib.hid fin
  clear fin
  have hlt := h.lt
  obtain ⟨A1, c1, A2, c2, t, n, hk, hn, ho, _, hB, _⟩ := h
  have x1 := hk.cell 1
  have x2 := hk.cell 2
  have x3 := hk.cell 3
  have x4 := hk.cell 4
  simp at x1 x2 x3 x4
  have hb2 : Below w.heap.size w ((w.alloc (.cells #[.int .i64 0, .int .i64 0, .slice none 0 0, .slice none 0 0] 74)).alloc (.cells #[.int .i64 s.m.ep, .int .i64 s.m.log, .slice A1 s.m.nw.length c1, .slice A2 s.m.od.length c2] 74)) := ((Below.refl _ _).alloc (Nat.le_refl _) _).alloc (by simp) _
  have hg : Blk ((w.alloc (.cells #[.int .i64 0, .int .i64 0, .slice none 0 0, .slice none 0 0] 74)).alloc (.cells #[.int .i64 s.m.ep, .int .i64 s.m.log, .slice A1 s.m.nw.length c1, .slice A2 s.m.od.length c2] 74)) (w.heap.size + 1) 74 #[.int .i64 s.m.ep, .int .i64 s.m.log, .slice A1 s.m.nw.length c1, .slice A2 s.m.od.length c2] := by
    have := Blk.new (w.alloc (.cells #[.int .i64 0, .int .i64 0, .slice none 0 0, .slice none 0 0] 74)) 74 #[.int .i64 s.m.ep, .int .i64 s.m.log, .slice A1 s.m.nw.length c1, .slice A2 s.m.od.length c2]
    rw [World.size_alloc] at this
    exact this
  have hz : Blk ((w.alloc (.cells #[.int .i64 0, .int .i64 0, .slice none 0 0, .slice none 0 0] 74)).alloc (.cells #[.int .i64 s.m.ep, .int .i64 s.m.log, .slice A1 s.m.nw.length c1, .slice A2 s.m.od.length c2] 74)) w.heap.size 74 #[.int .i64 0, .int .i64 0, .slice none 0 0, .slice none 0 0] := (Blk.new w _ _).alloc _
  have HN := Lib.hid (fun W (hW : Below w.heap.size w W) => hn.below hW)
  have HO := Lib.hid (fun W (hW : Below w.heap.size w W) => ho.below hW)
  have HB2 := Lib.hid hb2
  have HG := Lib.hid hg
  have HZ := Lib.hid hz
  clear hk hn ho hb2 hg hz
  go_enter Tryz.func134, Tryz.ntmps134
  go_wp2_with fail
  generalize hW : ((w.alloc (.cells #[.int .i64 0, .int .i64 0, .slice none 0 0, .slice none 0 0] 74)).alloc (.cells #[.int .i64 s.m.ep, .int .i64 s.m.log, .slice A1 s.m.nw.length c1, .slice A2 s.m.od.length c2] 74)) = W at *
  have HBW := Lib.hid (fun W' (h : Below W.heap.size W W') => HB2.out.trans (h.mono HB2.out.size))
  have hgl := HG.out.lt
  have g0 := HG.out.cell 0
  have g1 := HG.out.cell 1
  have g2 := HG.out.cell 2
  have g3 := HG.out.cell 3
  have f2 := HG.out.frozen 2
  have f3 := HG.out.frozen 3
  simp at g0 g1 g2 g3
  have HC1 := Lib.hid (clone_any B _ s.m.nw W.drew (HN.out _ HB2.out.drew) (by omega))
  clear x1 x2 x3 x4 hW
  go_region_with (first
    | (go_at_call 161; refine (clone_any B _ s.m.od w4 (HO.out _ hb4) (by omega)).mono ?_; rintro e w5 ⟨v5, rfl, hv5, hb5⟩; obtain ⟨A4, c4, rfl, _, _, _⟩ := hv5.form; have hb45 := hb4.trans (hb5.mono hb4.size); have hg5 := hg4.below hb5 hg4.lt; have hl5 := hg5.lt; have p2 := hg5.cell 2; have p3 := hg5.cell 3; have r2 := hg5.frozen 2; have r3 := hg5.frozen 3; simp at p2 p3)
    | (go_at_call 161; refine HC1.out.mono ?_; rintro e w4 ⟨v4, rfl, hv4, hb4'⟩; obtain ⟨A3, c3, rfl, _, _, _⟩ := hv4.form; have hb4 := HB2.out.drew.trans (hb4'.mono HB2.out.size); have hg4 := (HG.out.drewN 1).below hb4' hgl; have hl4 := hg4.lt; have o2 := hg4.cell 2; have o3 := hg4.cell 3; have q2 := hg4.frozen 2; have q3 := hg4.frozen 3; simp at o2 o3))
  all_goals
    have hz5 := ((HZ.out.drewN 1).below hb4' (show w.heap.size < W.heap.size by have := HZ.out.lt; exact this)).below hb5 (Nat.lt_of_lt_of_le HZ.out.lt hb4'.size)
    have z0 := hz5.cell 0
    have z1 := hz5.cell 1
    have z2 := hz5.cell 2
    have z3 := hz5.cell 3
    have z4 := hz5.frozen 0
    have z5 := hz5.frozen 1
    have z6 := hz5.frozen 2
    have z7 := hz5.frozen 3
    simp at z0 z1 z2 z3
    have p0 := hg5.cell 0
    have p1 := hg5.cell 1
    simp at p0 p1
    have H5 := Lib.hid (And.intro hz5 (And.intro hg5 (And.intro (hv4.below hb5) (And.intro hv5 hb45))))
    have HBW0 : Hid (B ≤ w.heap.size) := by have := hB; have := hlt; exact Nat.le_trans hB (Nat.le_of_lt hlt)
    have HGB : Hid (B ≤ w.heap.size + 1) := Nat.le_trans HBW0.out (Nat.le_succ _)
    clear hz5 hg5 hv4 hv5 hb45 hb5 hb4 hb4' hg4 o2 o3 q2 q3
    go_wp2_with fail
    exact FIN.out _ _ A3 A4 c3 c4 (man_two H5.out.1 (by omega)) (ints_two H5.out.2.2.1 H5.out.1 H5.out.2.1 (by omega) HGB.out HBW0.out) (ints_two H5.out.2.2.2.1 H5.out.1 H5.out.2.1 (by omega) HGB.out HBW0.out) (below_two H5.out.2.2.2.2 (by omega) (Nat.le_refl _)) rfl
end Go.Proofs.YtaepdbkfaoiimabGreatDoor
/- The contracts of Flush, Compact, Open and Manifest of a store that has done so many acts. Conditions: none but those that each names. -/
set_option linter.unusedVariables false
set_option linter.unusedSimpArgs false
namespace Go.Proofs.YtaepdbkfaoiimabGreatDoor
open Go.RowKit
abbrev eKX : Ent := ⟨⟨#[107]⟩, ⟨#[120]⟩, false⟩
theorem kx_check : checkR [] [eKX] = 0 := by decide +kernel
theorem kx_rows : rowsW [] [eKX] = [eKX] := by decide +kernel
theorem kx_ents (B : Nat) (w : World) : Ents B (w.alloc (.cells #[.string ⟨#[107]⟩, .string ⟨#[120]⟩, .bool false] 56)) (.slice (some ⟨w.heap.size, 0, none⟩) 1 1) [eKX] :=
  ⟨rd_lit3 _ w _ rfl ⟨#[107]⟩ ⟨#[120]⟩ false, by intro e he; simp at he; subst he; exact ⟨by decide, by decide⟩⟩
section
variable {B q p k j : Nat} {c : Chip} {s : SM} {F : List Nat} {w : World}
theorem StS.drawN (h : StS B w q p k j c s F) (n : Nat) : StS B (w.drewN n) q p k j c s F := ⟨h.st.drewN n, h.ch.drewN n, h.ok⟩
theorem StS.mono {k' j' : Nat} (h : StS B w q p k j c s F) (hk : k ≤ k') (hj : j ≤ j') : StS B w q p k' j' c s F := ⟨h.st, h.ch, h.ok.mono hk hj⟩
theorem flush_st (h : StS B w q p k j c s F) (hk : k ≤ 1000) : Calls Tryz.prog 59 #[.pointer (some ⟨q, 0, none⟩)] w fun e w' => ∃ c' s' F', e = .returned .nilIface ∧ StS B w' q p (k + 1) j c' s' F' ∧ s'.rows = s.rows ∧ (∀ b ∈ F', b ∈ F ∨ w.heap.size ≤ b) ∧ Fr B (· ∈ q :: p :: F) w w' ∧
    s'.mem = [] ∧ (∃ g : Nat, s'.m.log = g ∧ (c'.b g).l = [] ∧ (c.b g).bad = false) ∧ (∀ b ∈ s'.m.nw, b ∈ s.m.nw ∨ (c.b b.toNat).bad = false) := by
  obtain ⟨c1, s1, e1, g1, r1, m1, ⟨g, q1, q2, q3, q4⟩, v1⟩ := flush_good h.ok hk
  have hw := flush_any B q p c s F w h.st h.ch h.ok.inv (by have := h.ok.ep; omega)
  rw [e1] at hw
  refine hw.mono ?_
  intro e w' hp
  obtain ⟨F', hs, hF, hf⟩ := StS.post (k := k) (j := j) (c := c) (s := s) hp g1
  exact ⟨c1, s1, F', hp.1, hs, r1, hF, hf, m1, ⟨g, q1, q2, q4⟩, v1⟩
theorem comp_st (h : StS B w q p k j c s F) (hk : k ≤ 1000) : Calls Tryz.prog 60 #[.pointer (some ⟨q, 0, none⟩)] w fun e w' => ∃ c' s' F', e = .returned .nilIface ∧ StS B w' q p (k + 1) j c' s' F' ∧ s'.rows = s.rows ∧ (∀ b ∈ F', b ∈ F ∨ w.heap.size ≤ b) ∧ Fr B (· ∈ q :: p :: F) w w' ∧
    s'.mem = s.mem ∧ s'.m.nw = [] ∧ s'.tabs = parts 14 (liveE (mergeAll s.tabs)) := by
  obtain ⟨c1, s1, e1, g1, r1, m1, n1, l1, t1⟩ := comp_good h.ok hk
  have hw := compact_any B q p c s F w h.st h.ch h.ok.inv
  rw [e1] at hw
  refine hw.mono ?_
  intro e w' hp
  obtain ⟨F', hs, hF, hf⟩ := StS.post (k := k) (j := j) (c := c) (s := s) hp g1
  exact ⟨c1, s1, F', hp.1, hs, r1, hF, hf, m1, n1, t1⟩
theorem weaken_st (h : StS B w q p k j c s F) (hj : j ≤ 5) (b : Int) : Calls Tryz.prog 62 #[.pointer (some ⟨p, 0, none⟩), .int .i64 b] w fun e w' => e = .returned (errV (c.weaken b).2) ∧ StS B w' q p (k + 1) (j + 1) (c.weaken b).1 s F ∧ Fr B (· ∈ q :: p :: F) w w' :=
  (weaken_any B p c b w h.ch).mono fun e w' ⟨h1, h2, h3⟩ => ⟨h1, ⟨h.st.chip h.ch h3, h2, h.ok.weaken hj b⟩, h3.mono (fun b _ e => by subst e; simp)⟩
theorem open_st (h : StS B w q p k j c s F) : Calls Tryz.prog 24 #[.pointer (some ⟨p, 0, none⟩)] w fun e w' => ∃ q2 F2, e = .returned (.tuple #[.pointer (some ⟨q2, 0, none⟩), .nilIface]) ∧ StS B w' q2 p k j c s F2 ∧ Below w.heap.size w w' ∧ w.heap.size ≤ q2 ∧ ∀ b ∈ F2, w.heap.size ≤ b :=
  (open_any B p c s w h.ch h.ok.inv).mono fun e w' ⟨q2, F2, h1, h2, h3, h4, h5⟩ => ⟨q2, F2, h1, ⟨h2, h.ch.below h3, h.ok⟩, h3, h4, h5⟩
theorem sman_st (h : StS B w q p k j c s F) : Calls Tryz.prog 134 #[.pointer (some ⟨q, 0, none⟩)] w fun e w' => ∃ A3 c3 A4 c4, e = .returned (.agg #[.int .i64 s.m.ep, .int .i64 s.m.log, .slice A3 s.m.nw.length c3, .slice A4 s.m.od.length c4]) ∧ Ints B w' (.slice A3 s.m.nw.length c3) s.m.nw ∧ Ints B w' (.slice A4 s.m.od.length c4) s.m.od ∧ StS B w' q p k j c s F ∧ Below w.heap.size w w' :=
  (sman_any B q p s F w h.st (by have := h.ok.inv.body.nwl; omega) (by have := h.ok.inv.body.odl; omega)).mono fun e w' ⟨A3, c3, A4, c4, h1, h2, h3, h4⟩ => ⟨A3, c3, A4, c4, h1, h2, h3, h.below h4, h4⟩
end
end Go.Proofs.YtaepdbkfaoiimabGreatDoor
/- What blocks are used for: plain laws, and the contracts of survey.Of, Count and Spread. Conditions: none but those that each names. -/
set_option linter.unusedVariables false
set_option linter.unusedSimpArgs false
namespace Go.Proofs.YtaepdbkfaoiimabGreatDoor
open Go.RowKit
/-- What a block is used for. -/
def kindM (c : Chip) (m : Man) (b : Nat) : Int :=
  if b < 2 then 1 else if (b : Int) = m.log then 2 else if m.nw.contains (b : Int) = true then 3 else if m.od.contains (b : Int) = true then 4 else if (c.b b).bad = true then 5 else 0
theorem kindM_rng (c : Chip) (m : Man) (b : Nat) : 0 ≤ kindM c m b ∧ kindM c m b < 6 := by unfold kindM; repeat' split <;> omega
/-- The same in the law's order. -/
theorem kindM_law {c : Chip} {m : Man} (hf : m.fault = 0) (b : Nat) :
    kindM c m b = if m.od.contains (b : Int) = true then 4 else if m.nw.contains (b : Int) = true then 3 else if b < 2 then 1 else if (b : Int) = m.log then 2 else if (c.b b).bad = true then 5 else 0 := by
  obtain ⟨_, _, hr, hn⟩ := fault_zero.1 hf
  rw [Man.all, List.nodup_cons, List.nodup_append] at hn
  obtain ⟨n1, n2, n3, n4⟩ := hn
  have r1 : m.od.contains (b : Int) = true → 2 ≤ b := fun h => by have := hr b (by simp [Man.all, List.contains_iff_mem.1 h]); omega
  have r2 : m.nw.contains (b : Int) = true → 2 ≤ b := fun h => by have := hr b (by simp [Man.all, List.contains_iff_mem.1 h]); omega
  have l1 : m.od.contains (b : Int) = true → (b : Int) ≠ m.log := fun h e => n1 (by rw [← e]; simp [List.contains_iff_mem.1 h])
  have l2 : m.nw.contains (b : Int) = true → (b : Int) ≠ m.log := fun h e => n1 (by rw [← e]; simp [List.contains_iff_mem.1 h])
  have l3 : m.nw.contains (b : Int) = true → m.od.contains (b : Int) = true → False := fun h1 h2 => n4 _ (List.contains_iff_mem.1 h1) _ (List.contains_iff_mem.1 h2) rfl
  unfold kindM
  by_cases h1 : m.od.contains (b : Int) = true
  · have g1 : ¬ b < 2 := by have := r1 h1; omega
    have g2 : ¬ m.nw.contains (b : Int) = true := fun h => l3 h h1
    rw [if_pos h1, if_neg g1, if_neg (l1 h1), if_neg g2, if_pos h1]
  · rw [if_neg h1, if_neg h1]
    by_cases h2 : m.nw.contains (b : Int) = true
    · rw [if_pos h2, if_neg (by have := r2 h2; omega), if_neg (l2 h2), if_pos h2]
    · rw [if_neg h2, if_neg h2]
def arr24 (f : Nat → Int) : Array Value := ((List.range 24).map fun b => Value.int .i64 (f b)).toArray
theorem arr24_size (f : Nat → Int) : (arr24 f).size = 24 := by simp [arr24]
theorem arr24_get (f : Nat → Int) {n : Nat} (h : n < 24) : (arr24 f)[n]? = some (.int .i64 (f n)) := by simp [arr24, h]
theorem arr24_set (f : Nat → Int) (n : Nat) (x : Int) : (arr24 f).setIfInBounds n (.int .i64 x) = arr24 (fun i => if i = n then x else f i) := by
  apply Array.ext_getElem?
  intro i
  rw [Array.getElem?_setIfInBounds]
  by_cases h : n = i
  · subst h
    by_cases hn : n < 24
    · rw [if_pos rfl, if_pos (by rw [arr24_size]; exact hn), arr24_get _ hn, if_pos rfl]
    · rw [if_pos rfl, if_neg (by rw [arr24_size]; exact hn)]
      simp [arr24, hn]
  · rw [if_neg h]
    by_cases hi : i < 24
    · rw [arr24_get _ hi, arr24_get _ hi, if_neg (Ne.symm h)]
    · simp [arr24, hi]
theorem arr24_one (f : Nat → Int) : (arr24 f).all (·.oneCell') = true := by simp [arr24, Value.oneCell']
theorem arr24_congr {f g : Nat → Int} (h : ∀ n, n < 24 → f n = g n) : arr24 f = arr24 g := by
  unfold arr24
  congr 1
  refine List.map_congr_left fun n hn => ?_
  rw [h n (List.mem_range.1 hn)]
/-- How many blocks are of a kind. -/
def countK (f : Nat → Int) (x : Int) (n : Nat) : Nat := (List.range n).countP (fun b => f b == x)
theorem countK_succ (f : Nat → Int) (x : Int) (n : Nat) : countK f x (n + 1) = countK f x n + if (f n == x) = true then 1 else 0 := by
  unfold countK
  rw [List.range_succ, List.countP_append, List.countP_singleton]
theorem countK_le (f : Nat → Int) (x : Int) (n : Nat) : countK f x n ≤ n := by
  unfold countK
  have := List.countP_le_length (p := fun b => f b == x) (l := List.range n)
  simpa using this
/-- The least and the most wear so far. -/
def spreadM (c : Chip) : Nat → Int × Int
  | 0 => (-1, 0)
  | n + 1 => if (c.b (n + 2)).bad = true then spreadM c n else (if (spreadM c n).1 < 0 ∨ (c.b (n + 2)).wear < (spreadM c n).1 then (c.b (n + 2)).wear else (spreadM c n).1, max (spreadM c n).2 (c.b (n + 2)).wear)
/-- The same as the law reckons it. -/
def lawL (c : Chip) : Nat → Int × Int
  | 0 => (1073741824, 0)
  | n + 1 => if 1 < n ∧ (c.b n).bad = false then (min (lawL c n).1 (c.b n).wear, max (lawL c n).2 (c.b n).wear) else lawL c n
theorem spread_law {c : Chip} {X : Int} (hX : X ≤ 1000000) (hw : ∀ i, 2 ≤ i → 0 ≤ (c.b i).wear ∧ (c.b i).wear ≤ X) : ∀ n, (lawL c (n + 2)).2 = (spreadM c n).2 ∧ 0 ≤ (spreadM c n).2 ∧
    (((spreadM c n).1 = -1 ∧ (lawL c (n + 2)).1 = 1073741824 ∧ ∀ i, i < n → (c.b (i + 2)).bad = true) ∨ (0 ≤ (spreadM c n).1 ∧ (lawL c (n + 2)).1 = (spreadM c n).1 ∧ (spreadM c n).1 ≤ 1000000 ∧ (spreadM c n).1 ≤ (spreadM c n).2))
  | 0 => by
    have e : lawL c 2 = (1073741824, 0) := rfl
    rw [show 0 + 2 = 2 from rfl, e]
    exact ⟨rfl, Int.le_refl _, .inl ⟨rfl, rfl, fun i hi => by omega⟩⟩
  | n + 1 => by
    obtain ⟨h1, h0, h2⟩ := spread_law hX hw n
    have hwn := hw (n + 2) (by omega)
    have e1 : lawL c (n + 1 + 2) = if 1 < n + 2 ∧ (c.b (n + 2)).bad = false then (min (lawL c (n + 2)).1 (c.b (n + 2)).wear, max (lawL c (n + 2)).2 (c.b (n + 2)).wear) else lawL c (n + 2) := rfl
    have e2 : spreadM c (n + 1) = if (c.b (n + 2)).bad = true then spreadM c n else (if (spreadM c n).1 < 0 ∨ (c.b (n + 2)).wear < (spreadM c n).1 then (c.b (n + 2)).wear else (spreadM c n).1, max (spreadM c n).2 (c.b (n + 2)).wear) := rfl
    rw [e1, e2]
    cases hb : (c.b (n + 2)).bad
    · rw [if_pos ⟨by omega, rfl⟩, if_neg (by simp)]
      refine ⟨by simp only [h1], by simp only; omega, .inr ?_⟩
      simp only
      rcases h2 with ⟨g1, g2, _⟩ | ⟨g1, g2, g3, g4⟩
      · rw [if_pos (by omega), g2]; omega
      · rw [g2]
        split <;> omega
    · rw [if_neg (by simp), if_pos rfl]
      refine ⟨h1, h0, ?_⟩
      rcases h2 with ⟨g1, g2, g3⟩ | h
      · refine .inl ⟨g1, g2, fun i hi => ?_⟩
        by_cases e : i = n
        · subst e; exact hb
        · exact g3 i (by omega)
      · exact .inr h
theorem spread_end {c : Chip} {X : Int} (hX : X ≤ 1000000) (hw : ∀ i, 2 ≤ i → 0 ≤ (c.b i).wear ∧ (c.b i).wear ≤ X) (hb : ∃ i, i < 22 ∧ (c.b (i + 2)).bad = false) :
    max (spreadM c 22).1 0 = (lawL c 24).1 ∧ (spreadM c 22).2 = (lawL c 24).2 ∧ 0 ≤ max (spreadM c 22).1 0 ∧ max (spreadM c 22).1 0 ≤ (spreadM c 22).2 := by
  obtain ⟨h1, h0, h2⟩ := spread_law hX hw 22
  rw [show 22 + 2 = 24 from rfl] at h1 h2
  rcases h2 with ⟨_, _, g⟩ | ⟨g1, g2, _, g3⟩
  · obtain ⟨i, hi, h⟩ := hb
    rw [g i hi] at h; cases h
  · rw [g2]; omega
theorem countP_mem_one (x : Nat) : ∀ n, (List.range n).countP (fun b => decide (b = x)) = if x < n then 1 else 0
  | 0 => by simp
  | n + 1 => by
    rw [List.range_succ, List.countP_append, countP_mem_one x n, List.countP_singleton]
    by_cases h : n = x
    · subst h; simp
    · have hd : decide (n = x) = false := by simpa using h
      rw [hd]
      simp only [Bool.false_eq_true, if_false, Nat.add_zero]
      by_cases h2 : x < n
      · rw [if_pos h2, if_pos (by omega)]
      · rw [if_neg h2, if_neg (by omega)]
theorem countP_mem : ∀ {l : List Int} {n : Nat}, l.Nodup → (∀ x ∈ l, 0 ≤ x ∧ x < n) → (List.range n).countP (fun b : Nat => l.contains (b : Int)) = l.length
  | [], n, _, _ => by simp
  | x :: l, n, hn, hr => by
    obtain ⟨h1, h2⟩ := List.nodup_cons.1 hn
    have ih := countP_mem (n := n) h2 fun y hy => hr y (by simp [hy])
    obtain ⟨k, rfl⟩ := Int.eq_ofNat_of_zero_le (hr x (by simp)).1
    have hk := (hr (k : Int) (by simp)).2
    have e := countP_mem_one k n
    rw [if_pos (by omega)] at e
    have hs : (List.range n).countP (fun b : Nat => ((k : Int) :: l).contains (b : Int)) = (List.range n).countP (fun b => decide (b = k)) + (List.range n).countP (fun b : Nat => l.contains (b : Int)) := by
      have : ∀ L : List Nat, L.countP (fun b : Nat => ((k : Int) :: l).contains (b : Int)) = L.countP (fun b => decide (b = k)) + L.countP (fun b : Nat => l.contains (b : Int)) := by
        intro L
        induction L with
        | nil => rfl
        | cons b L ihL =>
          rw [List.countP_cons, List.countP_cons, List.countP_cons, ihL]
          by_cases hb : b = k
          · have e1 : ((k : Int) :: l).contains (b : Int) = true := by subst hb; simp
            have e2 : decide (b = k) = true := by simpa using hb
            have e3 : l.contains (b : Int) = false := by
              cases h : l.contains (b : Int)
              · rfl
              · exact absurd (by rw [← hb]; exact List.contains_iff_mem.1 h) h1
            rw [e1, e2, e3]
            simp only [if_true, Bool.false_eq_true, if_false]
            omega
          · have e0 : ((b : Int) == (k : Int)) = false := by rw [beq_eq_false_iff_ne]; omega
            have e1 : ((k : Int) :: l).contains (b : Int) = l.contains (b : Int) := by rw [List.contains_cons, e0, Bool.false_or]
            have e2 : decide (b = k) = false := by simpa using hb
            rw [e1, e2]
            simp only [Bool.false_eq_true, if_false]
            omega
      exact this _
    rw [hs, e, ih, List.length_cons, Nat.add_comm]
theorem range24_two : List.range 24 = 0 :: 1 :: List.range' 2 22 := by decide
theorem countK_sum (f : Nat → Int) (h : ∀ b, 0 ≤ f b ∧ f b < 6) : ∀ n, countK f 0 n + countK f 1 n + countK f 2 n + countK f 3 n + countK f 4 n + countK f 5 n = n
  | 0 => rfl
  | n + 1 => by
    have ih := countK_sum f h n
    have := h n
    simp only [countK_succ]
    rcases (show f n = 0 ∨ f n = 1 ∨ f n = 2 ∨ f n = 3 ∨ f n = 4 ∨ f n = 5 by omega) with e | e | e | e | e | e <;> rw [e] <;> simp <;> omega
theorem countK_congr {f : Nat → Int} {x : Int} {p : Nat → Bool} {n : Nat} (h : ∀ b, b < n → ((f b == x) = p b)) : countK f x n = (List.range n).countP p := by
  unfold countK
  refine List.countP_congr fun b hb => ?_
  rw [h b (List.mem_range.1 hb)]
/-- How many blocks there are of each kind. -/
theorem kind_counts {c : Chip} {m : Man} (hf : m.fault = 0) : countK (kindM c m) 1 24 = 2 ∧ countK (kindM c m) 2 24 = 1 ∧ countK (kindM c m) 3 24 = m.nw.length ∧ countK (kindM c m) 4 24 = m.od.length ∧ countK (kindM c m) 5 24 ≤ (List.range 24).countP (fun i => (c.b i).bad) := by
  obtain ⟨_, _, hr, hn⟩ := fault_zero.1 hf
  have hl := hr m.log (by simp [Man.all])
  obtain ⟨L, hL⟩ := Int.eq_ofNat_of_zero_le (show 0 ≤ m.log by omega)
  rw [Man.all, List.nodup_cons, List.nodup_append] at hn
  obtain ⟨n1, n2, n3, n4⟩ := hn
  have hk := kindM_law (c := c) hf
  refine ⟨?_, ?_, ?_, ?_, ?_⟩
  · have : countK (kindM c m) 1 24 = (List.range 24).countP (fun b => decide (b < 2)) := by
      refine countK_congr fun b hb => ?_
      unfold kindM
      by_cases h : b < 2
      · rw [if_pos h]; simp [h]
      · rw [if_neg h]
        repeat' split
        all_goals simp [h]
    rw [this]; rfl
  · have : countK (kindM c m) 2 24 = (List.range 24).countP (fun b => decide (b = L)) := by
      refine countK_congr fun b hb => ?_
      unfold kindM
      by_cases h : b = L
      · rw [if_neg (by omega), if_pos (by omega)]; simp [h]
      · by_cases h2 : b < 2
        · rw [if_pos h2]; simp [h]
        · rw [if_neg h2, if_neg (by omega)]
          repeat' split
          all_goals simp [h]
    rw [this, countP_mem_one, if_pos (by omega)]
  · rw [← countP_mem (n := 24) n2 fun x hx => by have := hr x (by simp [Man.all, hx]); omega]
    refine countK_congr fun b hb => ?_
    rw [hk b]
    by_cases h : m.nw.contains (b : Int) = true
    · have : ¬ m.od.contains (b : Int) = true := fun h2 => n4 _ (List.contains_iff_mem.1 h) _ (List.contains_iff_mem.1 h2) rfl
      rw [if_neg this, if_pos h, h]; rfl
    · rw [if_neg h, Bool.not_eq_true] at *
      rw [h]
      repeat' split
      all_goals rfl
  · rw [← countP_mem (n := 24) n3 fun x hx => by have := hr x (by simp [Man.all, hx]); omega]
    refine countK_congr fun b hb => ?_
    rw [hk b]
    by_cases h : m.od.contains (b : Int) = true
    · rw [if_pos h, h]; rfl
    · rw [if_neg h]
      rw [Bool.not_eq_true] at h
      rw [h]
      repeat' split
      all_goals rfl
  · unfold countK
    refine List.countP_mono_left fun b hb h => ?_
    unfold kindM at h
    cases hb : (c.b b).bad
    · rw [hb] at h
      repeat' split at h
      all_goals first | (simp at h; done) | (rename_i h'; cases h')
    · rfl
theorem run_index24 {cs : Array Value} {n : Nat} {v : Value} (hn : n < 24) (h : cs[n]? = some v) (w : World) : (Instr.index 145 (.agg cs) (.int .i64 (n : Int))).run Tryz.prog w = .ok v w := by
  have h2 : (n : Int) < 24 := by omega
  obtain ⟨i0, hi, hz0, hz1, hz2⟩ := info_parts info_int
  simp [Instr.index, run_underlying Tryz.underlying145, run_underlying Tryz.underlying3, asIntOf, hn, part, isAgg, sizeOf, typeInfo, hi, hz0, hz1, hz2, h, go_sem]
set_option maxRecDepth 20000 in
set_option maxHeartbeats 4000000 in
theorem count_any (f : Nat → Int) (x : Int) (w : World) :
    Calls Tryz.prog 99 #[.agg (arr24 f), .int .i64 x] w fun e w' => e = .returned (.int .i64 (countK f x 24 : Nat)) ∧ Below w.heap.size w w' := by
  have hb0 : Below w.heap.size w (w.alloc (.cells (arr24 f) 145)) := (Below.refl _ _).alloc (Nat.le_refl _) _
  have HB0 := Lib.hid hb0
  have hsz := arr24_size f
  have HG : Hid (∀ n, n < 24 → (arr24 f)[n]? = some (.int .i64 (f n))) := fun n h => arr24_get f h
  have hg0 := Blk.new w 145 (arr24 f)
  clear hb0
  generalize arr24 f = cs at *
  go_enter Tryz.func99, Tryz.ntmps99
  go_wp2_with (refine wpList_load_row rfl 145 _ rfl w.heap.size rfl 145 cs (0, 0) _ hg0 Tryz.underlying145 rfl (by rw [hsz]; kernel_rfl) ?_)
  go_loop [5, 9] (fun a i => ∃ n : Nat, n ≤ 24 ∧ i = .int .i64 (n : Int) ∧ a = .int .i64 (countK f x n : Nat)) (fun _ i => (24 - intOf i).toNat)
  case atStart => exact ⟨0, by omega, rfl, rfl⟩
  case round =>
    obtain ⟨n, hn, rfl, rfl⟩ := hrel
    have hcl := countK_le f x n
    by_cases hlt : n < 24
    · have g1 : (n : Int) < 24 := by omega
      have g0 : (0 : Int) ≤ (n : Int) := by omega
      have hix := fun W => run_index24 hlt (HG.out n hlt) W
      have hs := countK_succ f x n
      by_cases he : f n = x
      · have t14 : (f n == x) = true := beq_iff_eq.2 he
        rw [if_pos t14] at hs
        have HS := Lib.hid hs
        clear hs he
        go_wp2_with fail
        go_round
        case rel => exact ⟨n + 1, by omega, by go_num, by rw [HS.out]; go_num⟩
        case measure => simp [intOf] <;> omega
      · have t14 : (f n == x) = false := beq_eq_false_iff_ne.2 he
        rw [if_neg (by rw [t14]; simp)] at hs
        have HS := Lib.hid hs
        clear hs he
        go_wp2_with fail
        go_round
        case rel => exact ⟨n + 1, by omega, by go_num, by rw [HS.out]; go_num⟩
        case measure => simp [intOf] <;> omega
    · obtain rfl : n = 24 := by omega
      go_wp2_with fail
      go_ret
      exact ⟨rfl, HB0.out⟩
set_option maxRecDepth 20000 in
set_option maxHeartbeats 4000000 in
theorem spread_any (B p : Nat) (c : Chip) (w : World) (h : ChipR B w p c) (hwr : ∀ i, 2 ≤ i → 0 ≤ (c.b i).wear) :
    Calls Tryz.prog 100 #[.pointer (some ⟨p, 0, none⟩)] w fun e w' => e = .returned (.tuple #[.int .i64 (max (spreadM c 22).1 0), .int .i64 (spreadM c 22).2]) ∧ w = w' := by
  have HBA := Lib.hid (fun (n : Nat) (hn : n < 22) => bad_any B p c ((n : Int) + 2) w h (by omega) (by omega))
  have HWE := Lib.hid (fun (n : Nat) (hn : n < 22) => wear_any B p c ((n : Int) + 2) w h (by omega) (by omega))
  have HWR := Lib.hid hwr
  clear h hwr
  go_enter Tryz.func100, Tryz.ntmps100
  go_wp2_with fail
  go_loop [2, 3, 4] (fun a b i => ∃ n : Nat, n ≤ 22 ∧ i = .int .i64 ((n : Int) + 2) ∧ a = .int .i64 (spreadM c n).1 ∧ b = .int .i64 (spreadM c n).2) (fun _ _ i => (24 - intOf i).toNat)
  case atStart => exact ⟨0, by omega, rfl, rfl, rfl⟩
  case round =>
    obtain ⟨n, hn, rfl, rfl, rfl⟩ := hrel
    by_cases hlt : n < 22
    · have g1 : (n : Int) + 2 < 24 := by omega
      have HB1 := Lib.hid (HBA.out n hlt)
      have HW1 := Lib.hid (HWE.out n hlt)
      have hs : spreadM c (n + 1) = if (c.b (n + 2)).bad = true then spreadM c n else (if (spreadM c n).1 < 0 ∨ (c.b (n + 2)).wear < (spreadM c n).1 then (c.b (n + 2)).wear else (spreadM c n).1, max (spreadM c n).2 (c.b (n + 2)).wear) := rfl
      have hnn : ((n : Int) + 2).toNat = n + 2 := by omega
      rw [hnn] at HB1 HW1
      have h0 := HWR.out (n + 2) (by omega)
      cases hbd : (c.b (n + 2)).bad
      · rw [hbd] at HB1
        rw [hbd, if_neg (by simp)] at hs
        generalize (c.b (n + 2)).wear = wr at *
        have HS := Lib.hid hs
        generalize hS : spreadM c n = S at *
        clear hs hS hnn h0 hbd
        obtain ⟨a, b⟩ := S
        by_cases ha : a < 0 ∨ wr < a
        · have HS2 : Hid (spreadM c (n + 1) = (wr, max b wr)) := by rw [Hid, HS.out]; simp only; rw [if_pos ha]
          rcases ha with ha | ha
          · have t17 : decide (a < 0) = true := decide_eq_true ha
            clear ha HS
            go_wp2_with (first
              | (go_at_call 76; refine HB1.out.mono ?_; rintro e w1 ⟨rfl, rfl⟩)
              | (go_at_call 78; refine HW1.out.mono ?_; rintro e w1 ⟨rfl, rfl⟩))
            all_goals
              go_round
              case rel => exact ⟨n + 1, by omega, by go_num, by rw [HS2.out], by rw [HS2.out]⟩
              case measure => simp [intOf] <;> omega
          · by_cases ha2 : a < 0
            · have t17 : decide (a < 0) = true := decide_eq_true ha2
              clear ha ha2 HS
              go_wp2_with (first
                | (go_at_call 76; refine HB1.out.mono ?_; rintro e w1 ⟨rfl, rfl⟩)
                | (go_at_call 78; refine HW1.out.mono ?_; rintro e w1 ⟨rfl, rfl⟩))
              all_goals
                go_round
                case rel => exact ⟨n + 1, by omega, by go_num, by rw [HS2.out], by rw [HS2.out]⟩
                case measure => simp [intOf] <;> omega
            have t17 : decide (a < 0) = false := decide_eq_false (by omega)
            have t21 : decide (wr < a) = true := decide_eq_true ha
            clear ha ha2 HS
            go_wp2_with (first
              | (go_at_call 76; refine HB1.out.mono ?_; rintro e w1 ⟨rfl, rfl⟩)
              | (go_at_call 78; refine HW1.out.mono ?_; rintro e w1 ⟨rfl, rfl⟩))
            all_goals
              go_round
              case rel => exact ⟨n + 1, by omega, by go_num, by rw [HS2.out], by rw [HS2.out]⟩
              case measure => simp [intOf] <;> omega
        · have HS2 : Hid (spreadM c (n + 1) = (a, max b wr)) := by rw [Hid, HS.out]; simp only; rw [if_neg ha]
          have t17 : decide (a < 0) = false := decide_eq_false (by omega)
          have t21 : decide (wr < a) = false := decide_eq_false (by omega)
          clear ha HS
          go_wp2_with (first
            | (go_at_call 76; refine HB1.out.mono ?_; rintro e w1 ⟨rfl, rfl⟩)
            | (go_at_call 78; refine HW1.out.mono ?_; rintro e w1 ⟨rfl, rfl⟩))
          all_goals
            go_round
            case rel => exact ⟨n + 1, by omega, by go_num, by rw [HS2.out], by rw [HS2.out]⟩
            case measure => simp [intOf] <;> omega
      · rw [hbd] at HB1
        rw [hbd, if_pos rfl] at hs
        have HS := Lib.hid hs
        clear hs hnn h0
        go_wp2_with (go_at_call 76; refine HB1.out.mono ?_; rintro e w1 ⟨rfl, rfl⟩)
        go_round
        case rel => exact ⟨n + 1, by omega, by go_num, by rw [HS.out], by rw [HS.out]⟩
        case measure => simp [intOf] <;> omega
    · obtain rfl : n = 22 := by omega
      go_wp2_with fail
      exact bodyPost_ret (v := .tuple #[.int .i64 (max (spreadM c 22).1 0), .int .i64 (spreadM c 22).2]) (by simp [results, Tryz.results100, go_sem] <;> rfl) rfl ⟨rfl, rfl⟩
theorem arr24_zero : arr24 (fun _ => 0) = #[.int .i64 0, .int .i64 0, .int .i64 0, .int .i64 0, .int .i64 0, .int .i64 0, .int .i64 0, .int .i64 0, .int .i64 0, .int .i64 0, .int .i64 0, .int .i64 0, .int .i64 0, .int .i64 0, .int .i64 0, .int .i64 0, .int .i64 0, .int .i64 0, .int .i64 0, .int .i64 0, .int .i64 0, .int .i64 0, .int .i64 0, .int .i64 0] := rfl
/-- What lies in memory while the kinds are reckoned. -/
structure OfR (B g gm : Nat) (w : World) (c : Chip) (m : Man) (v3 v4 : Value) (n : Nat) (wr : World) : Prop where
  bel : Below g w wr
  z : Blk wr g 145 (arr24 fun _ => 0)
  a : Blk wr (g + 1) 145 (arr24 fun b => if b < n then kindM c m b else 0)
  mb : Blk wr gm 74 #[.int .i64 m.ep, .int .i64 m.log, v3, v4]
  nw : Ints B wr v3 m.nw
  od : Ints B wr v4 m.od
theorem OfR.skip {B g gm : Nat} {w : World} {c : Chip} {m : Man} {v3 v4 : Value} {n : Nat} {wr : World} (h : OfR B g gm w c m v3 v4 n wr) (hk : kindM c m n = 0) : OfR B g gm w c m v3 v4 (n + 1) wr := by
  refine ⟨h.bel, h.z, ?_, h.mb, h.nw, h.od⟩
  rw [arr24_congr (g := fun b => if b < n then kindM c m b else 0)]
  · exact h.a
  · intro b hb
    by_cases e : b = n
    · subst e; rw [if_pos (by omega), if_neg (by omega), hk]
    · by_cases e2 : b < n
      · rw [if_pos (by omega), if_pos e2]
      · rw [if_neg (by omega), if_neg e2]
theorem OfR.store {B g gm : Nat} {w : World} {c : Chip} {m : Man} {v3 v4 : Value} {n : Nat} {wr : World} (h : OfR B g gm w c m v3 v4 n wr) (hB : B ≤ g) (hgm : g + 1 < gm) {x : Int} (hk : kindM c m n = x) : OfR B g gm w c m v3 v4 (n + 1) (wr.setCell ⟨g + 1, n, none⟩ (.int .i64 x)) := by
  refine ⟨h.bel.setCell (by show g ≤ g + 1; omega) _, h.z.far (p := ⟨g + 1, n, none⟩) (by show g ≠ g + 1; omega) _, ?_, h.mb.far (p := ⟨g + 1, n, none⟩) (by show gm ≠ g + 1; omega) _, Rd.far' h.nw h.a (by omega) (by decide) _, Rd.far' h.od h.a (by omega) (by decide) _⟩
  have := h.a.set_ n (.int .i64 x)
  rw [arr24_set] at this
  rw [arr24_congr (g := fun i => if i = n then x else if i < n then kindM c m i else 0)]
  · exact this
  · intro b hb
    by_cases e : b = n
    · subst e; rw [if_pos (by omega), if_pos rfl, hk]
    · by_cases e2 : b < n
      · rw [if_pos (by omega), if_neg e, if_pos e2]
      · rw [if_neg (by omega), if_neg e, if_neg e2]
theorem OfR.end_ {B g gm : Nat} {w : World} {c : Chip} {m : Man} {v3 v4 : Value} {wr : World} (h : OfR B g gm w c m v3 v4 24 wr) : Blk wr (g + 1) 145 (arr24 (kindM c m)) := by
  have := h.a
  rw [arr24_congr (g := kindM c m) (fun b hb => by rw [if_pos hb])] at this
  exact this
section
variable {B q p k j : Nat} {c : Chip} {s : SM} {F : List Nat} {w : World}
set_option maxRecDepth 20000 in
set_option maxHeartbeats 4000000 in
theorem sof_any (h : StS B w q p k j c s F) : Calls Tryz.prog 98 #[.pointer (some ⟨p, 0, none⟩), .pointer (some ⟨q, 0, none⟩)] w fun e w' => e = .returned (.agg (arr24 (kindM c s.m))) ∧ Below w.heap.size w w' := by
  have hb2 : Below w.heap.size w ((w.alloc (.cells (arr24 fun _ => 0) 145)).alloc (.cells (arr24 fun _ => 0) 145)) := ((Below.refl _ _).alloc (Nat.le_refl _) _).alloc (by simp) _
  have HZ : Hid (Blk ((w.alloc (.cells (arr24 fun _ => 0) 145)).alloc (.cells (arr24 fun _ => 0) 145)) w.heap.size 145 (arr24 fun _ => 0)) := (Blk.new w _ _).alloc _
  have HA : Hid (Blk ((w.alloc (.cells (arr24 fun _ => 0) 145)).alloc (.cells (arr24 fun _ => 0) 145)) (w.heap.size + 1) 145 (arr24 fun _ => 0)) := by
    have := Blk.new (w.alloc (.cells (arr24 fun _ => 0) 145)) 145 (arr24 fun _ => 0)
    rw [World.size_alloc] at this
    exact this
  have HSZ : Hid (w.heap.size + 2 = ((w.alloc (.cells (arr24 fun _ => 0) 145)).alloc (.cells (arr24 fun _ => 0) 145)).heap.size) := by simp [Hid]
  have HM := Lib.hid (sman_st (h.below hb2))
  have HB2 := Lib.hid hb2
  have HCH := Lib.hid (fun W (hW : Below w.heap.size w W) => h.ch.below hW)
  have HBB : Hid (B ≤ w.heap.size) := Nat.le_of_lt (Nat.lt_of_le_of_lt h.st.base h.st.lt)
  rw [arr24_zero] at HM HB2 HZ HA HSZ
  clear hb2 h
  go_enter Tryz.func98, Tryz.ntmps98
  go_wp2_with fail
  generalize ((w.alloc (.cells _ 145)).alloc (.cells _ 145)) = w2 at *
  rw [← arr24_zero] at HZ HA
  refine HM.out.mono ?_
  rintro e w3 ⟨A3, c3, A4, c4, rfl, hn3, ho3, _, hb3⟩
  have HR3 : Hid (OfR B w.heap.size w3.heap.size w c s.m (.slice A3 s.m.nw.length c3) (.slice A4 s.m.od.length c4) 0 (w3.alloc (.cells #[.int .i64 s.m.ep, .int .i64 s.m.log, .slice A3 s.m.nw.length c3, .slice A4 s.m.od.length c4] 74))) := by
    have hb34 : Below w3.heap.size w3 (w3.alloc (.cells #[.int .i64 s.m.ep, .int .i64 s.m.log, .slice A3 s.m.nw.length c3, .slice A4 s.m.od.length c4] 74)) := (Below.refl _ _).alloc (Nat.le_refl _) _
    have hb03 := HB2.out.trans (hb3.mono HB2.out.size)
    refine ⟨hb03.trans (hb34.mono hb03.size), (HZ.out.below hb3 (by have := HSZ.out; omega)).alloc _, ?_, Blk.new _ _ _, hn3.below hb34, ho3.below hb34⟩
    have := (HA.out.below hb3 (by have := HSZ.out; omega)).alloc (.cells #[.int .i64 s.m.ep, .int .i64 s.m.log, .slice A3 s.m.nw.length c3, .slice A4 s.m.od.length c4] 74)
    rw [arr24_congr (g := fun _ => 0) (fun b _ => by rw [if_neg (by omega)])]
    exact this
  have HGM : Hid (w.heap.size + 1 < w3.heap.size) := by have := HSZ.out; have := hb3.size; rw [Hid]; omega
  clear hn3 ho3 hb3 HM HZ HA HSZ HB2
  go_wp2_with fail
  generalize (w3.alloc _) = W at *
  generalize w3.heap.size = gm at *
  generalize hg : w.heap.size = g at *
  have HGE := Lib.hid hg
  clear hg
  go_loopw [10] (fun i wr => ∃ n : Nat, n ≤ 24 ∧ i = .int .i64 (n : Int) ∧ Hid (OfR B g gm w c s.m (.slice A3 s.m.nw.length c3) (.slice A4 s.m.od.length c4) n wr)) (fun i _ => (24 - intOf i).toNat)
  case atStart => exact ⟨0, by omega, rfl, HR3.out⟩
  case round =>
    clear HR3
    obtain ⟨n, hn, rfl, hr⟩ := hrel
    by_cases hlt : n < 24
    · have g1 : (n : Int) < 24 := by omega
      have g0 : (0 : Int) ≤ (n : Int) := by omega
      have y0 := (hr.out.a.cell n).trans (arr24_get _ hlt)
      have f0 := hr.out.a.frozen n
      have m1 := hr.out.mb.cell 1
      have m2 := hr.out.mb.cell 2
      have m3 := hr.out.mb.cell 3
      simp at m1 m2 m3
      have HC1 := Lib.hid (contains_any B _ s.m.nw (n : Int) wr hr.out.nw)
      have HC2 := Lib.hid (contains_any B _ s.m.od (n : Int) wr hr.out.od)
      have HBD := Lib.hid (bad_any B p c (n : Int) wr (HCH.out wr hr.out.bel) (by omega) (by omega))
      rw [Int.toNat_natCast] at HBD
      have HST : Hid (∀ x, kindM c s.m n = x → OfR B g gm w c s.m (.slice A3 s.m.nw.length c3) (.slice A4 s.m.od.length c4) (n + 1) (wr.setCell ⟨g + 1, n, none⟩ (.int .i64 x))) := fun x hx => hr.out.store HBB.out HGM.out hx
      have HNO : Hid (kindM c s.m n = 0 → OfR B g gm w c s.m (.slice A3 s.m.nw.length c3) (.slice A4 s.m.od.length c4) (n + 1) wr) := fun hx => hr.out.skip hx
      have hK : kindM c s.m n = if n < 2 then 1 else if (n : Int) = s.m.log then 2 else if inL s.m.nw n = true then 3 else if inL s.m.od n = true then 4 else if (c.b n).bad = true then 5 else 0 := rfl
      generalize kindM c s.m n = K at *
      clear hr
      by_cases h1 : n < 2
      · rw [if_pos h1] at hK
        have HX := Lib.hid (HST.out 1 hK)
        have t15 : decide ((n : Int) < 2) = true := decide_eq_true (by omega)
        clear hK h1 HST HNO
        go_wp2_with fail
        go_roundw
        case rel => exact ⟨n + 1, by omega, by go_num, HX.out⟩
        case measure => simp [intOf] <;> omega
      have t15 : decide ((n : Int) < 2) = false := decide_eq_false (by omega)
      rw [if_neg h1] at hK
      by_cases h2 : (n : Int) = s.m.log
      · rw [if_pos h2] at hK
        have HX := Lib.hid (HST.out 2 hK)
        have t22 : ((n : Int) == s.m.log) = true := beq_iff_eq.2 h2
        clear hK h1 h2 HST HNO
        go_wp2_with fail
        go_roundw
        case rel => exact ⟨n + 1, by omega, by go_num, HX.out⟩
        case measure => simp [intOf] <;> omega
      have t22 : ((n : Int) == s.m.log) = false := beq_eq_false_iff_ne.2 h2
      rw [if_neg h2] at hK
      clear h1 h2
      cases h3 : inL s.m.nw n
      case true =>
        rw [if_pos h3] at hK
        rw [h3] at HC1
        have HX := Lib.hid (HST.out 3 hK)
        clear hK HST HNO
        go_wp2_with (go_at_call 77; refine HC1.out.mono ?_; rintro e w1 ⟨rfl, rfl⟩)
        go_roundw
        case rel => exact ⟨n + 1, by omega, by go_num, HX.out⟩
        case measure => simp [intOf] <;> omega
      rw [if_neg (by rw [h3]; simp)] at hK
      rw [h3] at HC1
      cases h4 : inL s.m.od n
      case true =>
        rw [if_pos h4] at hK
        rw [h4] at HC2
        have HX := Lib.hid (HST.out 4 hK)
        clear hK HST HNO
        go_wp2_with (first
          | (go_at_call 77; refine HC1.out.mono ?_; rintro e w1 ⟨rfl, rfl⟩)
          | (go_at_call 77; refine HC2.out.mono ?_; rintro e w1 ⟨rfl, rfl⟩))
        go_roundw
        case rel => exact ⟨n + 1, by omega, by go_num, HX.out⟩
        case measure => simp [intOf] <;> omega
      rw [if_neg (by rw [h4]; simp)] at hK
      rw [h4] at HC2
      cases h5 : (c.b n).bad
      case true =>
        rw [if_pos h5] at hK
        rw [h5] at HBD
        have HX := Lib.hid (HST.out 5 hK)
        clear hK HST HNO
        go_wp2_with (first
          | (go_at_call 77; refine HC1.out.mono ?_; rintro e w1 ⟨rfl, rfl⟩)
          | (go_at_call 77; refine HC2.out.mono ?_; rintro e w1 ⟨rfl, rfl⟩)
          | (go_at_call 76; refine HBD.out.mono ?_; rintro e w1 ⟨rfl, rfl⟩))
        go_roundw
        case rel => exact ⟨n + 1, by omega, by go_num, HX.out⟩
        case measure => simp [intOf] <;> omega
      rw [if_neg (by rw [h5]; simp)] at hK
      rw [h5] at HBD
      have HX := Lib.hid (HNO.out hK)
      clear hK HST HNO
      go_wp2_with (first
        | (go_at_call 77; refine HC1.out.mono ?_; rintro e w1 ⟨rfl, rfl⟩)
        | (go_at_call 77; refine HC2.out.mono ?_; rintro e w1 ⟨rfl, rfl⟩)
        | (go_at_call 76; refine HBD.out.mono ?_; rintro e w1 ⟨rfl, rfl⟩))
      go_roundw
      case rel => exact ⟨n + 1, by omega, by go_num, HX.out⟩
      case measure => simp [intOf] <;> omega
    · obtain rfl : n = 24 := by omega
      have HE := Lib.hid hr.out.end_
      have HZ := Lib.hid hr.out.z
      have HB := Lib.hid hr.out.bel
      clear hr
      have hsz := arr24_size (kindM c s.m)
      have hsz0 := arr24_size (fun _ => 0)
      have ho := arr24_one (kindM c s.m)
      have hge := HE.out
      have hz := HZ.out
      generalize hcs : arr24 (kindM c s.m) = cs at *
      generalize (arr24 fun _ => 0) = zs at *
      go_wp2_with (first
        | (refine wpList_load_row rfl 145 _ rfl (g + 1) rfl 145 cs (0, 0) _ hge Tryz.underlying145 rfl (by rw [hsz]; kernel_rfl) ?_)
        | (refine wpList_store_row rfl 145 _ _ rfl g cs rfl rfl 145 zs hz (by rw [hsz]; kernel_rfl) (by rw [hsz, hsz0]) ho ?_))
      refine bodyPost_ret (v := .agg cs) (results_cell_row rfl _ _ g 145 cs (0, 0) _ rfl (setRow_heap _ _ _ _ _ _ hz) Tryz.underlying145 rfl (by rw [hsz]; kernel_rfl)) rfl ⟨by rw [hcs], ?_⟩
      exact ⟨HB.out.os, HB.out.tape, HB.out.output, by rw [setRow_size]; exact HB.out.size, fun k hk => (setRow_other _ _ _ _ (by have := HGE.out; omega)).trans (HB.out.block k (by rw [← HGE.out]; exact hk))⟩
end
end Go.Proofs.YtaepdbkfaoiimabGreatDoor
/- Rows, some at a time: plain laws. Conditions: none but those that each names. -/
set_option linter.unusedVariables false
set_option linter.unusedSimpArgs false
namespace Go.Proofs.YtaepdbkfaoiimabGreatDoor
open Go.RowKit
/-- The rows behind a key, so many of them. -/
def pageM (r : List Ent) (after : ByteArray) (many : Nat) : List Ent := (r.filter (fun e => ltB after e.k)).take many
theorem filter_behind {r : List Ent} (hr : Rises r) {j : Nat} {x : Ent} (hx : r[j]? = some x) : r.filter (fun e => ltB x.k e.k) = r.drop (j + 1) := by
  induction r generalizing j with
  | nil => simp at hx
  | cons y ys ih =>
    obtain ⟨h1, h2⟩ := rises_cons.1 hr
    cases j with
    | zero =>
      simp at hx
      subst hx
      rw [List.filter_cons_of_neg (by rw [ltB_irrefl]; simp), List.drop_succ_cons, List.drop_zero, List.filter_eq_self]
      exact h1
    | succ j =>
      simp at hx
      have hm := List.mem_of_getElem? hx
      rw [List.filter_cons_of_neg (by rw [ltB_asymm (h1 x hm)]; simp), List.drop_succ_cons]
      exact ih h2 hx
theorem pageM_snoc (l : List Ent) (x : Ent) (a : ByteArray) (m : Nat) : pageM (l ++ [x]) a m = if ltB a x.k = true ∧ (pageM l a m).length < m then pageM l a m ++ [x] else pageM l a m := by
  unfold pageM
  rw [List.filter_append]
  cases hb : ltB a x.k
  · rw [if_neg (by simp), List.filter_cons_of_neg (by simp [hb])]; simp
  · rw [List.filter_cons_of_pos (by simp [hb]), List.filter_nil]
    by_cases hm : (l.filter (fun e => ltB a e.k)).length < m
    · rw [if_pos ⟨rfl, by rw [List.length_take]; omega⟩, List.take_of_length_le (by simp; omega), List.take_of_length_le (by omega)]
    · rw [if_neg (by rw [List.length_take]; omega), List.take_append_of_le_length (by omega)]
theorem own_base {w : World} {b b' : Nat} {e : TypeId} {size n : Nat} {v : Value} {xs : List Value} (h : w.ownsRow b e size v n xs) (hb : b' ≤ b) : w.ownsRow b' e size v n xs := by
  obtain ⟨h1, h2⟩ := h
  refine ⟨h1, h2.imp id ?_⟩
  rintro ⟨g, cap, cur, h3, h4, h5⟩
  exact ⟨g, cap, cur, h3, Nat.le_trans hb h4, h5⟩
set_option maxRecDepth 20000 in
set_option maxHeartbeats 4000000 in
theorem spage_own (B q p k j : Nat) (c : Chip) (s : SM) (F : List Nat) (after : ByteArray) (many : Int) (w : World) (h : StS B w q p k j c s F) :
    Calls Tryz.prog 68 #[.pointer (some ⟨q, 0, none⟩), .string after, .int .i64 many] w fun e w' => ∃ v, e = .returned (.tuple #[v, .nilIface]) ∧ Ents B w' v (pageM s.rows after many.toNat) ∧ Below w.heap.size w w' ∧ w'.ownsRow w.heap.size 56 3 v (pageM s.rows after many.toNat).length ((pageM s.rows after many.toNat).flatMap Ent.cells) := by
  have HRO := Lib.hid (srows_any B q p c s F w h.st h.ch h.ok.inv)
  have hr40 : s.rows.length ≤ 40 := h.ok.inv.body.rows
  clear h
  generalize s.rows = l at *
  have fin : ∀ (wr : World) (tmps : Array Value) (v : Value), Ents B wr v (pageM l after many.toNat) → Below w.heap.size w wr → wr.ownsRow w.heap.size 56 3 v (pageM l after many.toNat).length ((pageM l after many.toNat).flatMap Ent.cells) → tmps[6]? = some v → tmps[7]? = some .nilIface →
      bodyPost Tryz.prog Tryz.f68 (fun e w' => ∃ v, e = .returned (.tuple #[v, .nilIface]) ∧ Ents B w' v (pageM l after many.toNat) ∧ Below w.heap.size w w' ∧ w'.ownsRow w.heap.size 56 3 v (pageM l after many.toNat).length ((pageM l after many.toNat).flatMap Ent.cells)) .ret { tmps := tmps, defers := [] } wr := by
    intro wr tmps v hv hb ho t6 t7
    exact bodyPost_ret (v := .tuple #[v, .nilIface]) (by simp [results, Tryz.results68, go_sem, t6, t7]) rfl ⟨v, rfl, hv, hb, ho⟩
  have FIN := Lib.hid fin
  clear fin
  go_enter Tryz.func68, Tryz.ntmps68
  go_wp2_with fail
  refine HRO.out.mono ?_
  rintro e w1 ⟨v1, rfl, hv1, hb1⟩
  obtain ⟨A, cp, rfl, hc, hc2, hcell⟩ := hv1.form
  have HC := Lib.hid hcell
  have HO := Lib.hid hv1.2
  have HB1 := Lib.hid hb1
  clear hcell hv1 hb1 HRO
  go_wp2_with fail
  go_loopw [10, 23] (fun u i wr => ∃ n : Nat, n ≤ l.length ∧ i = .int .i64 n ∧ ∃ zs : List Ent, Hid (zs = pageM (l.take n) after many.toNat) ∧ zs.length ≤ n ∧ Hid (wr.ownsRow w1.heap.size 56 3 u zs.length (zs.flatMap Ent.cells)) ∧ Below w1.heap.size w1 wr) (fun _ i _ => l.length - (intOf i).toNat)
  case atStart => exact ⟨0, Nat.zero_le _, rfl, [], by simp [Hid, pageM], Nat.le_refl _, World.ownsRow_nil _ _ _ _, Below.refl _ _⟩
  case round =>
    obtain ⟨n, hn, rfl, zs, hz, hzl, hown, hbl⟩ := hrel
    obtain ⟨A', c', rfl⟩ := rd_form' (Rd.of_own (B := 0) hown.out)
    by_cases hlt : n < l.length
    · obtain ⟨x, hx, htk, _⟩ := getElem?_of_lt hlt
      obtain ⟨b, o, rfl, hb, c1, c2, c3⟩ := HC.out n x hx
      have d1 := (hbl.cell (p := ⟨b, o + n * 3, none⟩) hb).trans c1
      have d2 := (hbl.cell (p := ⟨b, o + n * 3 + 1, none⟩) hb).trans c2
      have d3 := (hbl.cell (p := ⟨b, o + n * 3 + 2, none⟩) hb).trans c3
      have hsn := pageM_snoc (l.take n) x after many.toNat
      rw [← htk, ← hz.out] at hsn
      have HSN := Lib.hid hsn
      have g1 : (0 : Int) ≤ (n : Int) := by omega
      have g2 : (n : Int) < (l.length : Int) := by omega
      have hbs := hbl.size
      clear htk hx c1 c2 c3 hsn
      by_cases hbe : ltB after x.k = true
      · have t30 : Op.bytesLess x.k.toList after.toList = false := ltB_asymm hbe
        have t31 : (x.k.toList == after.toList) = false := by rw [ba_beq]; simp [(ltB_ne hbe).symm]
        have t32 : ¬ x.k.toList = after.toList := by simpa using t31
        by_cases hm : zs.length < many.toNat
        · have t35 : decide ((zs.length : Int) < many) = true := decide_eq_true (by omega)
          obtain ⟨i0, hi, hz0, hz1, hz2⟩ := info_parts info_entry
          have HNX : Hid (zs ++ [x] = pageM (l.take (n + 1)) after many.toNat) := by rw [Hid, HSN.out, if_pos ⟨hbe, hm⟩]
          have hown' := Lib.hid (own_alloc (own_alloc hown.out (.cells #[.string x.k, .string x.v, .bool x.g] 56)) (.cells #[.string x.k, .string x.v, .bool x.g] 56))
          have HL := Lib.hid (rd_lit3 B (wr.alloc (.cells #[.string x.k, .string x.v, .bool x.g] 56)) (wr.heap.size + 1) (by simp) x.k x.v x.g)
          have HB0 := Lib.hid ((hbl.alloc hbs (.cells #[.string x.k, .string x.v, .bool x.g] 56)).alloc (by simp; omega) (.cells #[.string x.k, .string x.v, .bool x.g] 56))
          clear hbe
          go_wp2_with (at_builtin; go_loud (refine wpList_append_rd _ rfl (.tmp 37) (.tmp 39) 31 rfl w1.heap.size 56 i0 _ 3 40 Tryz.underlying31 hi hz0 hz1 hz2 rfl (by decide) _ _ _ rfl hown'.out B 56 _ 1 _ rfl HL.out (ent_one3 _ _ _) (by unfold maxLen; omega) (by omega) (by simp; omega) ?_); intro v5 w5 hown5 hg5 hat5)
          have hb5 := below_own HB0.out (Nat.le_refl _) hown'.out hg5
          have hown2 : Hid (w5.ownsRow w1.heap.size 56 3 v5 (zs ++ [x]).length ((zs ++ [x]).flatMap Ent.cells)) := by
            rw [Hid]; simpa [Ent.cells] using hown5
          clear hi hz0 hz1 hz2 hg5 hat5 hown5
          go_roundw
          case rel => exact ⟨n + 1, by omega, by go_num, zs ++ [x], HNX.out, by simp; omega, hown2, hb5⟩
          case measure => simp [intOf] <;> omega
        · have t35 : decide ((zs.length : Int) < many) = false := decide_eq_false (by omega)
          have HNX : Hid (zs = pageM (l.take (n + 1)) after many.toNat) := by rw [Hid, HSN.out, if_neg (fun h => hm h.2)]
          clear hbe
          go_wp2_with fail
          go_roundw
          case rel => exact ⟨n + 1, by omega, by go_num, zs, HNX.out, by omega, own_alloc hown.out _, hbl.alloc hbs _⟩
          case measure => simp [intOf] <;> omega
      · have t30 : ¬(Op.bytesLess x.k.toList after.toList = false ∧ ¬x.k.toList = after.toList) := fun h => by
          cases hx : ltB x.k after
          · have := ltB_tri (a := after) (b := x.k) (by simpa using hbe) hx
            exact h.2 (by rw [this])
          · rw [show Op.bytesLess x.k.toList after.toList = true from hx] at h; exact absurd h.1 (by simp)
        have HNX : Hid (zs = pageM (l.take (n + 1)) after many.toNat) := by rw [Hid, HSN.out, if_neg (fun h => hbe h.1)]
        clear hbe
        go_wp2_with fail
        go_roundw
        case rel => exact ⟨n + 1, by omega, by go_num, zs, HNX.out, by omega, own_alloc hown.out _, hbl.alloc hbs _⟩
        case measure => simp [intOf] <;> omega
    · have t24 : decide ((n : Int) < (l.length : Int)) = false := decide_eq_false (by omega)
      have e : l.take n = l := List.take_of_length_le (by omega)
      rw [e] at hz
      go_wp2_with fail
      have hob := own_base hown.out HB1.out.size
      rw [hz.out] at hob
      refine FIN.out _ _ _ ?_ (HB1.out.trans (hbl.mono HB1.out.size)) (by rw [← hz.out] at hob ⊢; exact hob) rfl rfl
      rw [← hz.out]
      refine ⟨Rd.of_own hown.out, fun e he => HO.out e ?_⟩
      rw [hz.out] at he
      exact (List.mem_filter.1 (List.mem_of_mem_take he)).1
theorem spage_any (B q p k j : Nat) (c : Chip) (s : SM) (F : List Nat) (after : ByteArray) (many : Int) (w : World) (h : StS B w q p k j c s F) :
    Calls Tryz.prog 68 #[.pointer (some ⟨q, 0, none⟩), .string after, .int .i64 many] w fun e w' => ∃ v, e = .returned (.tuple #[v, .nilIface]) ∧ Ents B w' v (pageM s.rows after many.toNat) ∧ Below w.heap.size w w' :=
  (spage_own B q p k j c s F after many w h).mono fun e w' ⟨v, h1, h2, h3, _⟩ => ⟨v, h1, h2, h3⟩
end Go.Proofs.YtaepdbkfaoiimabGreatDoor
/- The contracts of scan.Between and of the reference's Paged and Between. Conditions: none but those that each names. -/
set_option linter.unusedVariables false
set_option linter.unusedSimpArgs false
namespace Go.Proofs.YtaepdbkfaoiimabGreatDoor
open Go.RowKit
/-- Does an entry lie between two keys? -/
def betP (lo hi : ByteArray) (e : Ent) : Bool := (!ltB e.k lo) && ((hi.toList == []) || ltB e.k hi)
/-- The rows between two keys, backwards. -/
def betM (r : List Ent) (lo hi : ByteArray) : List Ent := r.reverse.filter (betP lo hi)
theorem filter_snoc {α : Type} {f : α → Bool} {l : List α} {k : Nat} {x : α} (h : l.take (k + 1) = l.take k ++ [x]) : (l.take (k + 1)).filter f = if f x then (l.take k).filter f ++ [x] else (l.take k).filter f := by
  rw [h, List.filter_append]
  by_cases hf : f x = true
  · rw [if_pos hf, List.filter_cons_of_pos hf, List.filter_nil]
  · rw [if_neg hf, List.filter_cons_of_neg hf, List.filter_nil, List.append_nil]
theorem page_full {l : List Ent} {k m : Nat} {a : ByteArray} (h : m ≤ (pageM (l.take k) a m).length) : pageM l a m = pageM (l.take k) a m := by
  unfold pageM at h ⊢
  rw [List.length_take] at h
  conv => lhs; rw [← List.take_append_drop k l, List.filter_append]
  rw [List.take_append_of_le_length (by omega)]
set_option maxRecDepth 20000 in
set_option maxHeartbeats 4000000 in
theorem rpaged_any (B : Nat) (v : Value) (l : List Ent) (after : ByteArray) (many : Int) (w : World) (h : Ents B w v l) (hn : l.length ≤ 1000000) :
    Calls Tryz.prog 20 #[v, .string after, .int .i64 many] w fun e w' => ∃ u, e = .returned u ∧ Ents B w' u (pageM l after many.toNat) ∧ Below w.heap.size w w' := by
  obtain ⟨A, cp, rfl, hc, hc2, hcell⟩ := h.form
  have HC := Lib.hid hcell
  have HO := Lib.hid h.2
  clear hcell h
  go_enter Tryz.func20, Tryz.ntmps20
  go_wp2_with fail
  go_loopw [7, 8] (fun u i wr => ∃ n : Nat, n ≤ l.length ∧ i = .int .i64 n ∧ ∃ zs : List Ent, Hid (zs = pageM (l.take n) after many.toNat) ∧ zs.length ≤ n ∧ Hid (wr.ownsRow w.heap.size 56 3 u zs.length (zs.flatMap Ent.cells)) ∧ Below w.heap.size w wr) (fun _ i _ => l.length - (intOf i).toNat)
  case atStart => exact ⟨0, Nat.zero_le _, rfl, [], by simp [Hid, pageM], Nat.le_refl _, World.ownsRow_nil _ _ _ _, Below.refl _ _⟩
  case round =>
    obtain ⟨n, hn, rfl, zs, hz, hzl, hown, hbl⟩ := hrel
    obtain ⟨A', c', rfl⟩ := rd_form' (Rd.of_own (B := 0) hown.out)
    by_cases hlt : n < l.length ∧ (zs.length : Int) < many
    · obtain ⟨hlt, hm⟩ := hlt
      obtain ⟨x, hx, htk, _⟩ := getElem?_of_lt hlt
      obtain ⟨b, o, rfl, hb, c1, c2, c3⟩ := HC.out n x hx
      have d1 := (hbl.cell (p := ⟨b, o + n * 3, none⟩) hb).trans c1
      have d2 := (hbl.cell (p := ⟨b, o + n * 3 + 1, none⟩) hb).trans c2
      have d3 := (hbl.cell (p := ⟨b, o + n * 3 + 2, none⟩) hb).trans c3
      have hsn := pageM_snoc (l.take n) x after many.toNat
      rw [← htk, ← hz.out] at hsn
      have HSN := Lib.hid hsn
      have g1 : (0 : Int) ≤ (n : Int) := by omega
      have g2 : (n : Int) < (l.length : Int) := by omega
      have t17 : decide ((zs.length : Int) < many) = true := decide_eq_true hm
      have hbs := hbl.size
      clear htk hx c1 c2 c3 hsn
      by_cases hbe : ltB after x.k = true
      · have t30 : Op.bytesLess x.k.toList after.toList = false := ltB_asymm hbe
        have t31 : (x.k.toList == after.toList) = false := by rw [ba_beq]; simp [(ltB_ne hbe).symm]
        have t32 : ¬ x.k.toList = after.toList := by simpa using t31
        obtain ⟨i0, hi, hz0, hz1, hz2⟩ := info_parts info_entry
        have HNX : Hid (zs ++ [x] = pageM (l.take (n + 1)) after many.toNat) := by rw [Hid, HSN.out, if_pos ⟨hbe, by omega⟩]
        have hown' := Lib.hid (own_alloc hown.out (.cells #[.string x.k, .string x.v, .bool x.g] 56))
        have HL := Lib.hid (rd_lit3 B wr wr.heap.size rfl x.k x.v x.g)
        have HB0 := Lib.hid (hbl.alloc hbs (.cells #[.string x.k, .string x.v, .bool x.g] 56))
        clear hbe
        go_wp2_with (at_builtin; go_loud (refine wpList_append_rd _ rfl (.tmp 28) (.tmp 33) 31 rfl w.heap.size 56 i0 _ 3 40 Tryz.underlying31 hi hz0 hz1 hz2 rfl (by decide) _ _ _ rfl hown'.out B 56 _ 1 _ rfl HL.out (ent_one3 _ _ _) (by unfold maxLen; omega) (by omega) (by simp; omega) ?_); intro v5 w5 hown5 hg5 hat5)
        have hb5 := below_own HB0.out (Nat.le_refl _) hown'.out hg5
        have hown2 : Hid (w5.ownsRow w.heap.size 56 3 v5 (zs ++ [x]).length ((zs ++ [x]).flatMap Ent.cells)) := by
          rw [Hid]; simpa [Ent.cells] using hown5
        clear hi hz0 hz1 hz2 hg5 hat5 hown5
        go_roundw
        case rel => exact ⟨n + 1, by omega, by go_num, zs ++ [x], HNX.out, by simp; omega, hown2, hb5⟩
        case measure => simp [intOf] <;> omega
      · have hcmp : Op.bytesLess x.k.toList after.toList = true ∨ (Op.bytesLess x.k.toList after.toList = false ∧ (x.k.toList == after.toList) = true ∧ x.k.toList = after.toList) := by
          cases hx : ltB x.k after
          · have := ltB_tri (a := after) (b := x.k) (by simpa using hbe) hx
            exact .inr ⟨hx, by rw [this]; simp, by rw [this]⟩
          · exact .inl hx
        have HNX : Hid (zs = pageM (l.take (n + 1)) after many.toNat) := by rw [Hid, HSN.out, if_neg (fun h => hbe h.1)]
        clear hbe
        rcases hcmp with t30 | ⟨t30, t31, t32⟩
        all_goals
          go_wp2_with fail
          go_roundw
          case rel => exact ⟨n + 1, by omega, by go_num, zs, HNX.out, by omega, hown, hbl⟩
          case measure => simp [intOf] <;> omega
    · have HFI : Hid (zs = pageM l after many.toNat) := by
        by_cases hge : l.length ≤ n
        · have := hz.out
          rw [List.take_of_length_le hge] at this
          exact this
        · have := hz.out
          rw [this]
          rw [Hid]
          symm
          refine page_full ?_
          rw [← this]
          omega
      have hex : (n : Int) < (l.length : Int) → decide ((zs.length : Int) < many) = false := fun h => decide_eq_false (by omega)
      have FI2 : Hid (Ents B wr (.slice A' zs.length c') (pageM l after many.toNat)) := by
        rw [Hid, ← HFI.out]
        refine ⟨Rd.of_own hown.out, fun e he => HO.out e ?_⟩
        rw [HFI.out] at he
        exact (List.mem_filter.1 (List.mem_of_mem_take he)).1
      by_cases hg : (n : Int) < (l.length : Int)
      · have t17 := hex hg
        clear hex hlt
        go_wp2_with fail
        go_ret
        exact ⟨_, rfl, FI2.out, hbl⟩
      · have t12 : decide ((n : Int) < (l.length : Int)) = false := decide_eq_false hg
        clear hex hlt
        go_wp2_with fail
        go_ret
        exact ⟨_, rfl, FI2.out, hbl⟩
end Go.Proofs.YtaepdbkfaoiimabGreatDoor
