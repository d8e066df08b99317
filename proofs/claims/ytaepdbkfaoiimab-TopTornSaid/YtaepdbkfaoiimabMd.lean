/- Several texts of this proof, one behind the other: walks and plain laws that the statements rest on. Conditions: none but those that each lemma names. -/
import Derived.Test.YtaepdbkfaoiimabMc
import Derived.Test.YtaepdbkfaoiimabRows
import Derived.ProofKit
import Derived.JoinedOf
import Derived.JoinedAt
import Derived.Below
import Derived.Carry
import Derived.SliceStrings
import Derived.OpenShut
import Derived.Deep.Slices
import Derived.Lib.SmallJoins
import Derived.Deep.LoopGhost
/- Plain: what table.Write leaves. Conditions: none. -/
set_option linter.unusedVariables false
namespace Go.Proofs.Ytaepdbkfaoiimab
open Go.RowKit

/-- From c to c' nothing has turned but block b's pages, and the fuse. -/
structure SameBut (b : Nat) (c c' : Chip) : Prop where
  other : ∀ i, i ≠ b → c'.b i = c.b i
  weak : (c'.b b).weak = (c.b b).weak
  bad : (c'.b b).bad = (c.b b).bad
theorem SameBut.refl (b : Nat) (c : Chip) : SameBut b c c := ⟨fun _ _ => rfl, rfl, rfl⟩
theorem SameBut.trans {b : Nat} {c c' c2 : Chip} (h : SameBut b c c') (k : SameBut b c' c2) : SameBut b c c2 := ⟨fun i hi => (k.other i hi).trans (h.other i hi), k.weak.trans h.weak, k.bad.trans h.bad⟩
theorem write_calm {c : Chip} {b : Nat} {d : ByteArray} (hb : b < 24) (hd : c.down = false) (hbad : (c.b b).bad = false) (hwk : (c.b b).weak = false) (hs : d.size ≤ 64) (hl : (c.b b).l.length < 8) :
    ∃ c' n, c.write b d = (c', n) ∧ SameBut b c c' ∧ (c.fuse < 0 → n = 0 ∧ c'.fuse < 0) ∧
      ((n = 0 ∧ c'.down = false ∧ c'.pend = c.pend ∧ (c'.b b).l = (c.b b).l ++ [⟨pad d, false⟩] ∧ (c'.b b).wear = (c.b b).wear) ∨ (n = 9 ∧ c'.down = true ∧ c'.pend = some (.wr b (pad d)) ∧ c'.b = c.b)) := by
  have hr : c.ready b = 0 := by unfold Chip.ready; rw [hd, if_neg (by simp), if_neg (by omega), Int.toNat_natCast, hbad]; simp
  unfold Chip.write
  rw [if_neg (by simp [hr]), if_neg (by omega), Int.toNat_natCast, if_neg (by omega), hwk, if_neg (by simp)]
  unfold Chip.step
  by_cases hf : c.fuse = 0
  · rw [if_pos hf]
    exact ⟨_, _, rfl, ⟨fun _ _ => rfl, rfl, rfl⟩, fun h => by omega, .inr ⟨rfl, rfl, rfl, rfl⟩⟩
  · rw [if_neg hf]
    refine ⟨_, _, rfl, ⟨fun i hi => ?_, ?_, ?_⟩, fun h => ⟨rfl, ?_⟩, .inl ⟨rfl, hd, rfl, ?_, ?_⟩⟩
    · simp [doP, Chip.set, hi]
    · simp [doP, Chip.set]
    · simp [doP, Chip.set]
    · show (if 0 < c.fuse then c.fuse - 1 else c.fuse) < 0
      rw [if_neg (by omega)]; exact h
    · simp [doP, Chip.set]
    · simp [doP, Chip.set]
theorem erase_calm {c : Chip} {b : Nat} (hb : b < 24) (hd : c.down = false) (hbad : (c.b b).bad = false) (hwk : (c.b b).weak = false) :
    ∃ c' n, c.erase b = (c', n) ∧ SameBut b c c' ∧ (c.fuse < 0 → n = 0 ∧ c'.fuse < 0) ∧
      ((n = 0 ∧ c'.down = false ∧ c'.pend = c.pend ∧ (c'.b b).l = [] ∧ (c'.b b).wear = wrap64 ((c.b b).wear + 1)) ∨ (n = 9 ∧ c'.down = true ∧ c'.pend = some (.er b) ∧ c'.b = c.b)) := by
  have hr : c.ready b = 0 := by unfold Chip.ready; rw [hd, if_neg (by simp), if_neg (by omega), Int.toNat_natCast, hbad]; simp
  unfold Chip.erase
  rw [if_neg (by simp [hr]), Int.toNat_natCast, hwk, if_neg (by simp)]
  unfold Chip.step
  by_cases hf : c.fuse = 0
  · rw [if_pos hf]
    exact ⟨_, _, rfl, ⟨fun _ _ => rfl, rfl, rfl⟩, fun h => by omega, .inr ⟨rfl, rfl, rfl, rfl⟩⟩
  · rw [if_neg hf]
    refine ⟨_, _, rfl, ⟨fun i hi => ?_, ?_, ?_⟩, fun h => ⟨rfl, ?_⟩, .inl ⟨rfl, hd, rfl, ?_, ?_⟩⟩
    · simp [doP, Chip.set, hi]
    · simp [doP, Chip.set]
    · simp [doP, Chip.set]
    · show (if 0 < c.fuse then c.fuse - 1 else c.fuse) < 0
      rw [if_neg (by omega)]; exact h
    · simp [doP, Chip.set]
    · simp [doP, Chip.set]
theorem fold_stuck {b : Int} {ds : List ByteArray} {st : Chip × Nat} (h : st.2 ≠ 0) : ds.foldl (pStepW b) st = st := by
  induction ds with
  | nil => rfl
  | cons d ds ih => rw [List.foldl_cons, show pStepW b st d = st from if_neg h]; exact ih
theorem fold_calm {b : Nat} (hb : b < 24) : ∀ (ds : List ByteArray) (c : Chip), c.down = false → (c.b b).bad = false → (c.b b).weak = false → (∀ d ∈ ds, d.size ≤ 64) → (c.b b).l.length + ds.length ≤ 8 →
    ∃ c' n, ds.foldl (pStepW b) (c, 0) = (c', n) ∧ SameBut b c c' ∧ (c.fuse < 0 → n = 0 ∧ c'.fuse < 0) ∧ (c'.b b).wear = (c.b b).wear ∧
      ((n = 0 ∧ c'.down = false ∧ c'.pend = c.pend ∧ (c'.b b).l = (c.b b).l ++ ds.map (fun d => ⟨pad d, false⟩)) ∨ (n = 9 ∧ c'.down = true ∧ ∃ d, c'.pend = some (.wr b d)))
  | [], c, hd, _, _, _, _ => ⟨c, 0, rfl, .refl _ _, fun h => ⟨rfl, h⟩, rfl, .inl ⟨rfl, hd, rfl, by simp⟩⟩
  | d :: ds, c, hd, hbad, hwk, hs, hl => by
    rw [List.length_cons] at hl
    obtain ⟨c1, n1, e1, s1, f1, h1⟩ := write_calm hb hd hbad hwk (hs d List.mem_cons_self) (by omega)
    have e2 : pStepW b (c, 0) d = (c1, n1) := by rw [pStepW, if_pos rfl]; exact e1
    rw [List.foldl_cons, e2]
    rcases h1 with ⟨rfl, d1, p1, l1, w1⟩ | ⟨rfl, d1, p1, b1⟩
    · obtain ⟨c2, n2, e3, s2, f2, w2, h2⟩ := fold_calm hb ds c1 d1 (s1.bad.trans hbad) (s1.weak.trans hwk) (fun x hx => hs x (List.mem_cons_of_mem _ hx)) (by rw [l1, List.length_append, List.length_singleton]; omega)
      refine ⟨c2, n2, e3, s1.trans s2, fun h => f2 (f1 h).2, w2.trans w1, ?_⟩
      rcases h2 with ⟨rfl, d2, p2, l2⟩ | h2
      · exact .inl ⟨rfl, d2, p2.trans p1, by rw [l2, l1]; simp⟩
      · exact .inr h2
    · rw [fold_stuck (by simp)]
      exact ⟨c1, 9, rfl, s1, fun h => absurd (f1 h).1 (by omega), by rw [b1], .inr ⟨rfl, d1, _, p1⟩⟩
theorem rawPages_size {l : List Ent} (h : tabF l = 0) : ∀ d ∈ rawPages l, d.size ≤ 64 := by
  intro d hd
  rcases List.mem_cons.1 hd with rfl | hd
  · rw [bitsB_size]; omega
  · obtain ⟨q, hq, rfl⟩ := List.mem_map.1 hd
    have hm := chunks2_mem hq
    have hall := chkT_all (tabF_parts h).2.2
    have := bytesL_size q.length q (fun e he => hall e (hm.2 e he))
    omega
/-- **What table.Write leaves**: the table; or the machine has fallen within that block. -/
theorem tabWrite_calm {c : Chip} {b : Nat} {l : List Ent} (hb : b < 24) (hd : c.down = false) (hbad : (c.b b).bad = false) (hwk : (c.b b).weak = false) (ht : tabF l = 0) :
    ∃ c' n, tabWrite c b l = (c', n) ∧ SameBut b c c' ∧ (c.fuse < 0 → n = 0 ∧ c'.fuse < 0) ∧
      ((n = 0 ∧ c'.down = false ∧ c'.pend = c.pend ∧ TabAt c' b l ∧ (c'.b b).wear = wrap64 ((c.b b).wear + 1)) ∨ (n = 9 ∧ c'.down = true ∧ ∃ p, c'.pend = some p ∧ p.blk = b)) := by
  obtain ⟨c1, n1, e1, s1, f1, h1⟩ := erase_calm hb hd hbad hwk
  unfold tabWrite
  rw [e1]
  rcases h1 with ⟨rfl, d1, p1, l1, w1⟩ | ⟨rfl, d1, p1, b1⟩
  · have hlen : (rawPages l).length ≤ 8 := by
      have := tabF_parts ht
      have := chunks2_len l
      simp [rawPages]
      omega
    obtain ⟨c2, n2, e3, s2, f2, w2, h2⟩ := fold_calm hb (rawPages l) c1 d1 (s1.bad.trans hbad) (s1.weak.trans hwk) (rawPages_size ht) (by rw [l1]; simpa using hlen)
    refine ⟨c2, n2, e3, s1.trans s2, fun h => f2 (f1 h).2, ?_⟩
    rcases h2 with ⟨rfl, d2, p2, l2⟩ | ⟨rfl, d2, x, p2⟩
    · exact .inl ⟨rfl, d2, p2.trans p1, ⟨by rw [l2, l1]; rfl, ht⟩, w2.trans w1⟩
    · exact .inr ⟨rfl, d2, _, p2, rfl⟩
  · rw [fold_stuck (by simp)]
    exact ⟨c1, 9, rfl, s1, fun h => absurd (f1 h).1 (by omega), .inr ⟨rfl, d1, _, p1, rfl⟩⟩
end Go.Proofs.Ytaepdbkfaoiimab
/- Plain: the newest manifest of the two first blocks, and what noting one leaves, behind a fall, too. Conditions: none but those that each names. -/
set_option linter.unusedVariables false
set_option linter.unusedSimpArgs false
namespace Go.Proofs.Ytaepdbkfaoiimab
open Go.RowKit

/-- The manifest of a sheet. -/
def manS (s : Sheet) : Option Man := if s.t then none else manOf s.d
theorem fStep_eq (b : Int) (st : Man × Int) (s : Sheet) : fStep b st s = match manS s with | none => st | some m => if st.1.ep < m.ep then (m, b) else st := by
  unfold fStep manS
  cases s.t <;> rfl
theorem scan_le (b : Int) : ∀ (l : List Sheet) (st : Man × Int), st.1.ep ≤ (l.foldl (fStep b) st).1.ep ∧ ∀ s ∈ l, ∀ m, manS s = some m → m.ep ≤ (l.foldl (fStep b) st).1.ep
  | [], st => ⟨Int.le_refl _, fun s hs => by cases hs⟩
  | s :: l, st => by
    obtain ⟨h1, h2⟩ := scan_le b l (fStep b st s)
    have h3 : st.1.ep ≤ (fStep b st s).1.ep ∧ ∀ m, manS s = some m → m.ep ≤ (fStep b st s).1.ep := by
      rw [fStep_eq]
      cases hm : manS s with
      | none => exact ⟨Int.le_refl _, fun m h => by cases h⟩
      | some m =>
        have h : st.1.ep ≤ (if st.1.ep < m.ep then (m, b) else st).1.ep ∧ m.ep ≤ (if st.1.ep < m.ep then (m, b) else st).1.ep := by
          split
          · rename_i h; exact ⟨by show st.1.ep ≤ m.ep; omega, Int.le_refl _⟩
          · rename_i h; exact ⟨Int.le_refl _, by omega⟩
        exact ⟨h.1, fun x hx => by cases hx; exact h.2⟩
    refine ⟨Int.le_trans h3.1 h1, fun x hx m hm => ?_⟩
    rcases List.mem_cons.1 hx with rfl | hx
    · exact Int.le_trans (h3.2 m hm) h1
    · exact h2 x hx m hm
theorem scan_stay (b : Int) : ∀ (l : List Sheet) (st : Man × Int), (∀ s ∈ l, ∀ m, manS s = some m → m.ep ≤ st.1.ep) → l.foldl (fStep b) st = st
  | [], st, _ => rfl
  | s :: l, st, h => by
    have h1 : fStep b st s = st := by
      rw [fStep_eq]
      cases hm : manS s with
      | none => rfl
      | some m =>
        have := h s (by simp) m hm
        show (if st.1.ep < m.ep then (m, b) else st) = st
        rw [if_neg (by omega)]
    rw [List.foldl_cons, h1]
    exact scan_stay b l st fun x hx => h x (by simp [hx])
theorem scan_tag (b : Int) : ∀ (l : List Sheet) (st : Man × Int), l.foldl (fStep b) st = st ∨ (l.foldl (fStep b) st).2 = b
  | [], st => .inl rfl
  | s :: l, st => by
    rw [List.foldl_cons]
    rcases scan_tag b l (fStep b st s) with h | h
    · rw [h, fStep_eq]
      cases hm : manS s with
      | none => exact .inl rfl
      | some m =>
        show (if st.1.ep < m.ep then (m, b) else st) = st ∨ (if st.1.ep < m.ep then (m, b) else st).2 = b
        split
        · exact .inr rfl
        · exact .inl rfl
    · exact .inr h
/-- Where the scan has moved, a lower start moves to the same. -/
theorem scan_low (b : Int) : ∀ (l : List Sheet) (st st0 : Man × Int), st.2 ≠ b → (l.foldl (fStep b) st).2 = b → st0.1.ep ≤ st.1.ep → l.foldl (fStep b) st0 = l.foldl (fStep b) st
  | [], st, st0, h1, h2, _ => absurd h2 h1
  | s :: l, st, st0, h1, h2, h3 => by
    rw [List.foldl_cons] at h2
    rw [List.foldl_cons, List.foldl_cons]
    rw [fStep_eq] at h2
    rw [fStep_eq, fStep_eq]
    cases hm : manS s with
    | none => rw [hm] at h2; exact scan_low b l st st0 h1 h2 h3
    | some m =>
      rw [hm] at h2
      simp only at h2 ⊢
      by_cases hlt : st.1.ep < m.ep
      · rw [if_pos hlt, if_pos (by omega)]
      · rw [if_neg hlt] at h2 ⊢
        by_cases hlt0 : st0.1.ep < m.ep
        · rw [if_pos hlt0]
          exact scan_low b l st (m, b) h1 h2 (by show m.ep ≤ st.1.ep; omega)
        · rw [if_neg hlt0]
          exact scan_low b l st st0 h1 h2 h3

/-- The newest manifest of a chip, and in which of the two first blocks. -/
structure Head (c : Chip) (m : Man) (a : Int) : Prop where
  find : findM c = (m, a)
  at_ : a = 0 ∨ a = 1
theorem Head.le {c : Chip} {m : Man} {a : Int} (h : Head c m a) : (∀ s ∈ (c.b 0).l, ∀ x, manS s = some x → x.ep ≤ m.ep) ∧ ∀ s ∈ (c.b 1).l, ∀ x, manS s = some x → x.ep ≤ m.ep := by
  have h1 := scan_le 0 (c.b 0).l (Man.zero, -1)
  have h2 := scan_le 1 (c.b 1).l ((c.b 0).l.foldl (fStep 0) (Man.zero, -1))
  have e : (c.b 1).l.foldl (fStep 1) ((c.b 0).l.foldl (fStep 0) (Man.zero, -1)) = (m, a) := h.find
  rw [e] at h2
  exact ⟨fun s hs x hx => Int.le_trans (h1.2 s hs x hx) h2.1, h2.2⟩
theorem Head.same {c c' : Chip} {m : Man} {a : Int} (h : Head c m a) (h0 : (c'.b 0).l = (c.b 0).l) (h1 : (c'.b 1).l = (c.b 1).l) : Head c' m a :=
  ⟨by have := h.find; unfold findM at this ⊢; rw [h0, h1]; exact this, h.at_⟩
theorem Head.ep {c : Chip} {m : Man} {a : Int} (h : Head c m a) : 0 ≤ m.ep := by
  have h1 := scan_le 0 (c.b 0).l (Man.zero, -1)
  have h2 := scan_le 1 (c.b 1).l ((c.b 0).l.foldl (fStep 0) (Man.zero, -1))
  have e : (c.b 1).l.foldl (fStep 1) ((c.b 0).l.foldl (fStep 0) (Man.zero, -1)) = (m, a) := h.find
  rw [e] at h2
  exact Int.le_trans h1.1 h2.1
/-- A page without a manifest is laid behind those of the block. -/
theorem Head.idle {c c' : Chip} {m : Man} {a : Int} (h : Head c m a) {x : Sheet} (hx : manS x = none) (h1 : (c'.b a.toNat).l = (c.b a.toNat).l ++ [x]) (h2 : (c'.b (1 - a).toNat).l = (c.b (1 - a).toNat).l) : Head c' m a := by
  have e := h.find
  refine ⟨?_, h.at_⟩
  unfold findM at e ⊢
  rcases h.at_ with rfl | rfl
  · have h1 : (c'.b 0).l = (c.b 0).l ++ [x] := h1
    have h2 : (c'.b 1).l = (c.b 1).l := h2
    rw [h1, h2, List.foldl_append, List.foldl_cons, List.foldl_nil, fStep_eq, hx]
    exact e
  · have h1 : (c'.b 1).l = (c.b 1).l ++ [x] := h1
    have h2 : (c'.b 0).l = (c.b 0).l := h2
    rw [h1, h2, List.foldl_append, List.foldl_cons, List.foldl_nil, fStep_eq, hx]
    exact e
/-- A newer manifest is laid behind those of the block. -/
theorem Head.next {c c' : Chip} {m n : Man} {a : Int} (h : Head c m a) {x : Sheet} (hx : manS x = some n) (hn : m.ep < n.ep) (h1 : (c'.b a.toNat).l = (c.b a.toNat).l ++ [x]) (h2 : (c'.b (1 - a).toNat).l = (c.b (1 - a).toNat).l) : Head c' n a := by
  have e := h.find
  have hle := h.le
  refine ⟨?_, h.at_⟩
  unfold findM at e ⊢
  rcases h.at_ with rfl | rfl
  · have h1 : (c'.b 0).l = (c.b 0).l ++ [x] := h1
    have h2 : (c'.b 1).l = (c.b 1).l := h2
    have h3 := scan_le 1 (c.b 1).l ((c.b 0).l.foldl (fStep 0) (Man.zero, -1))
    rw [e] at h3
    rw [h1, h2, List.foldl_append, List.foldl_cons, List.foldl_nil, fStep_eq, hx]
    show (c.b 1).l.foldl (fStep 1) (if _ < n.ep then (n, 0) else _) = _
    rw [if_pos (Int.lt_of_le_of_lt h3.1 hn)]
    exact scan_stay 1 _ _ fun s hs y hy => by have := hle.2 s hs y hy; show y.ep ≤ n.ep; omega
  · have h1 : (c'.b 1).l = (c.b 1).l ++ [x] := h1
    have h2 : (c'.b 0).l = (c.b 0).l := h2
    rw [h1, h2, List.foldl_append, List.foldl_cons, List.foldl_nil, fStep_eq, hx, e]
    show (if m.ep < n.ep then (n, (1 : Int)) else (m, 1)) = _
    rw [if_pos hn]
/-- The other block has pages without manifests alone. -/
theorem Head.other {c c' : Chip} {m : Man} {a : Int} (h : Head c m a) (h1 : (c'.b a.toNat).l = (c.b a.toNat).l) (h2 : ∀ s ∈ (c'.b (1 - a).toNat).l, manS s = none) : Head c' m a := by
  have e := h.find
  have hle := h.le
  refine ⟨?_, h.at_⟩
  unfold findM at e ⊢
  rcases h.at_ with rfl | rfl
  · have h1 : (c'.b 0).l = (c.b 0).l := h1
    have h2 : ∀ s ∈ (c'.b 1).l, manS s = none := h2
    rw [h1, scan_stay 1 _ _ (fun s hs y hy => by rw [h2 s hs] at hy; cases hy)]
    rcases scan_tag 1 (c.b 1).l ((c.b 0).l.foldl (fStep 0) (Man.zero, -1)) with h3 | h3
    · rw [← h3]; exact e
    · rw [e] at h3; cases h3
  · have h1 : (c'.b 1).l = (c.b 1).l := h1
    have h2 : ∀ s ∈ (c'.b 0).l, manS s = none := h2
    rw [h1, scan_stay 0 _ _ (fun s hs y hy => by rw [h2 s hs] at hy; cases hy)]
    have h3 := scan_low 1 (c.b 1).l ((c.b 0).l.foldl (fStep 0) (Man.zero, -1)) (Man.zero, -1) ?_ (by rw [e]) ?_
    · rw [h3]; exact e
    · rcases scan_tag 0 (c.b 0).l (Man.zero, -1) with h4 | h4
      · rw [h4]; decide
      · rw [h4]; decide
    · exact (scan_le 0 (c.b 0).l (Man.zero, -1)).1
/-- The other block has a newer manifest alone. -/
theorem Head.turn {c c' : Chip} {m n : Man} {a : Int} (h : Head c m a) {x : Sheet} (hx : manS x = some n) (hn : m.ep < n.ep) (h1 : (c'.b a.toNat).l = (c.b a.toNat).l) (h2 : (c'.b (1 - a).toNat).l = [x]) : Head c' n (1 - a) := by
  have e := h.find
  have hle := h.le
  have hep := h.ep
  refine ⟨?_, by have := h.at_; omega⟩
  unfold findM at e ⊢
  rcases h.at_ with rfl | rfl
  · have h1 : (c'.b 0).l = (c.b 0).l := h1
    have h2 : (c'.b 1).l = [x] := h2
    rw [h1, h2, List.foldl_cons, List.foldl_nil, fStep_eq, hx]
    have h3 := scan_le 1 (c.b 1).l ((c.b 0).l.foldl (fStep 0) (Man.zero, -1))
    rw [e] at h3
    show (if _ < n.ep then (n, (1 : Int)) else _) = _
    rw [if_pos (Int.lt_of_le_of_lt h3.1 hn)]
    rfl
  · have h1 : (c'.b 1).l = (c.b 1).l := h1
    have h2 : (c'.b 0).l = [x] := h2
    rw [h1, h2, List.foldl_cons, List.foldl_nil, fStep_eq, hx]
    show (c.b 1).l.foldl (fStep 1) (if (0 : Int) < n.ep then (n, 0) else _) = _
    rw [if_pos (by omega)]
    exact scan_stay 1 _ _ fun s hs y hy => by have := hle.2 s hs y hy; show y.ep ≤ n.ep; omega

theorem man_sheet {m : Man} (hf : m.fault = 0) : manS ⟨pad m.bytes, false⟩ = some m := man_bytes hf (k := 64 - m.bytes.size) pad_data
theorem torn_sheet : manS torn = none := rfl
theorem mansize {m : Man} (hf : m.fault = 0) : m.bytes.size ≤ 64 := by
  have hal := all_len hf
  unfold Man.bytes
  rw [strOfNums_size]
  simp [Man.all] at hal ⊢
  omega
theorem undone_cases {c : Chip} {p : Pend} (h : c.pend = some p) (how : Int) : c.undone how = c ∨ c.undone how = halfP c p ∨ c.undone how = doP c p := by
  unfold Chip.undone
  rw [h]
  simp only
  split
  · exact .inr (.inl rfl)
  · split
    · exact .inr (.inr rfl)
    · exact .inl rfl
/-- Behind a fall of the machine the blocks but the one of the step are as they were. -/
theorem restart_far {c : Chip} {p : Pend} (h : c.pend = some p) (how : Int) {i : Nat} (hi : i ≠ p.blk) : (c.restart how).b i = c.b i := by
  show (c.undone how).b i = c.b i
  rcases undone_cases h how with e | e | e <;> rw [e]
  · exact halfP_far c p hi
  · exact doP_far c p hi
theorem restart_b (c : Chip) (how : Int) : (c.restart how).b = (c.undone how).b := rfl
theorem restart_flags (c : Chip) (how : Int) (i : Nat) : ((c.restart how).b i).weak = (c.b i).weak ∧ ((c.restart how).b i).bad = (c.b i).bad := by
  show ((c.undone how).b i).weak = _ ∧ ((c.undone how).b i).bad = _
  unfold Chip.undone
  split
  · exact ⟨rfl, rfl⟩
  · split
    · exact halfP_flags c _ i
    · split
      · exact doP_flags c _ i
      · exact ⟨rfl, rfl⟩
theorem restart_calm {c : Chip} (h : c.pend = none) (how : Int) : (c.restart how).b = c.b := by
  show (c.undone how).b = c.b
  unfold Chip.undone
  rw [h]
/-- What noting a manifest leaves. -/
theorem note_calm {c : Chip} {m n : Man} {a : Int} (hc : CWf c) (hd : c.down = false) (h : Head c m a) (hf : n.fault = 0) (hn : m.ep < n.ep) :
    ∃ c' a' k, noteR c a n = (c', a', k) ∧ CWf c' ∧ (∀ i, 2 ≤ i → c'.b i = c.b i) ∧ (∀ i, (c'.b i).weak = (c.b i).weak ∧ (c'.b i).bad = (c.b i).bad) ∧ (c.fuse < 0 → k = 0 ∧ c'.fuse < 0) ∧
      ((k = 0 ∧ c'.down = false ∧ Head c' n a') ∨ (k = 9 ∧ c'.down = true ∧ ∀ how, (∀ i, 2 ≤ i → (c'.restart how).b i = c.b i) ∧ (Head (c'.restart how) m a ∨ ∃ a2, Head (c'.restart how) n a2))) := by
  have hflag : ∀ i, i < 2 → (c.b i).weak = false ∧ (c.b i).bad = false := fun i hi => by
    have h1 : (c.b i).weak = false := by
      cases e : (c.b i).weak
      · rfl
      · have := hc.weak i e; omega
    refine ⟨h1, ?_⟩
    cases e : (c.b i).bad
    · rfl
    · have := hc.bad i e; rw [h1] at this; cases this
  have hsz := mansize hf
  have hsh := man_sheet hf
  obtain ⟨q, rfl⟩ : ∃ q : Nat, a = q := ⟨a.toNat, by have := h.at_; omega⟩
  have hq : q < 2 := by have := h.at_; omega
  have hat : ((q : Nat) : Int).toNat = q := Int.toNat_natCast q
  have ho : ((1 : Int) - q).toNat = 1 - q := by omega
  have hoi : ((1 - q : Nat) : Int) = 1 - (q : Int) := by omega
  unfold noteR
  rw [if_neg (by simpa using hf), hat]
  have hlen := hc.len q (by omega)
  by_cases h8 : (c.b q).l.length = 8
  · rw [if_pos h8, ← hoi]
    obtain ⟨c1, n1, e1, s1, f1, g1⟩ := erase_calm (c := c) (b := 1 - q) (by omega) hd (hflag _ (by omega)).2 (hflag _ (by omega)).1
    have w1 : CWf c1 := by have := hc.erase_ ((1 - q : Nat) : Int); rw [e1] at this; exact this
    rw [e1]
    simp only
    rcases g1 with ⟨rfl, d1, p1, l1, x1⟩ | ⟨rfl, d1, p1, b1⟩
    · rw [if_neg (by simp)]
      obtain ⟨c2, n2, e2, s2, f2, g2⟩ := write_calm (c := c1) (b := 1 - q) (d := n.bytes) (by omega) d1 (s1.bad.trans (hflag _ (by omega)).2) (s1.weak.trans (hflag _ (by omega)).1) hsz (by rw [l1]; simp)
      have w2 : CWf c2 := by have := w1.write_ ((1 - q : Nat) : Int) n.bytes; rw [e2] at this; exact this
      rw [e2]
      simp only
      have hb2 : ∀ i, i ≠ 1 - q → c2.b i = c.b i := fun i hi => (s2.other i hi).trans (s1.other i hi)
      have hfl : ∀ i, (c2.b i).weak = (c.b i).weak ∧ (c2.b i).bad = (c.b i).bad := fun i => by
        by_cases hi : i = 1 - q
        · subst hi; exact ⟨s2.weak.trans s1.weak, s2.bad.trans s1.bad⟩
        · rw [hb2 i hi]; exact ⟨rfl, rfl⟩
      rcases g2 with ⟨rfl, d2, p2, l2, x2⟩ | ⟨rfl, d2, p2, b2⟩
      · rw [if_neg (by simp)]
        refine ⟨_, _, _, rfl, w2, fun i hi => hb2 i (by omega), hfl, fun hfu => f2 (f1 hfu).2, .inl ⟨rfl, d2, ?_⟩⟩
        rw [hoi]
        refine h.turn (x := ⟨pad n.bytes, false⟩) hsh hn ?_ ?_
        · rw [hat, hb2 q (by omega)]
        · rw [ho, l2, l1]; rfl
      · rw [if_pos (by simp)]
        refine ⟨_, _, _, rfl, w2, fun i hi => hb2 i (by omega), hfl, fun hfu => absurd (f2 (f1 hfu).2).1 (by omega), .inr ⟨rfl, d2, fun how => ⟨fun i hi => ?_, ?_⟩⟩⟩
        · rw [restart_far p2 how (show i ≠ 1 - q by omega)]; exact hb2 i (by omega)
        · have hq2 : (c2.restart how).b q = c.b q := by rw [restart_far p2 how (show q ≠ 1 - q by omega)]; exact hb2 q (by omega)
          have hl2 : (c2.b (1 - q)).l = [] := by rw [b2]; exact l1
          rcases undone_cases p2 how with e | e | e
          · refine .inl (h.other (by rw [hat, hq2]) ?_)
            rw [ho, restart_b, e, hl2]; simp
          · refine .inl (h.other (by rw [hat, hq2]) ?_)
            rw [ho, restart_b, e]
            simp only [halfP, Chip.set_same, hl2, List.nil_append]
            intro s hs
            simp at hs; subst hs; exact torn_sheet
          · refine .inr ⟨1 - (q : Int), h.turn (x := ⟨pad n.bytes, false⟩) hsh hn (by rw [hat, hq2]) ?_⟩
            rw [ho, restart_b, e]
            simp only [doP, Chip.set_same, hl2, List.nil_append]
    · rw [if_pos (by simp)]
      have hfl : ∀ i, (c1.b i).weak = (c.b i).weak ∧ (c1.b i).bad = (c.b i).bad := fun i => by rw [b1]; exact ⟨rfl, rfl⟩
      refine ⟨_, _, _, rfl, w1, fun i hi => by rw [b1], hfl, fun hfu => absurd (f1 hfu).1 (by omega), .inr ⟨rfl, d1, fun how => ⟨fun i hi => ?_, ?_⟩⟩⟩
      · rw [restart_far p1 how (show i ≠ 1 - q by omega), b1]
      · have hq2 : (c1.restart how).b q = c.b q := by rw [restart_far p1 how (show q ≠ 1 - q by omega), b1]
        rcases undone_cases p1 how with e | e | e
        · refine .inl (h.same ?_ ?_) <;> rw [restart_b, e, b1]
        · refine .inl (h.other (by rw [hat, hq2]) ?_)
          rw [ho, restart_b, e]
          simp only [halfP, Chip.set_same]
          intro s hs
          have := List.eq_of_mem_replicate hs; subst this; exact torn_sheet
        · refine .inl (h.other (by rw [hat, hq2]) ?_)
          rw [ho, restart_b, e]
          simp [doP, Chip.set_same]
  · rw [if_neg h8]
    obtain ⟨c2, n2, e2, s2, f2, g2⟩ := write_calm (c := c) (b := q) (d := n.bytes) (by omega) hd (hflag _ hq).2 (hflag _ hq).1 hsz (by omega)
    have w2 : CWf c2 := by have := hc.write_ (q : Int) n.bytes; rw [e2] at this; exact this
    rw [e2]
    simp only
    have hfl : ∀ i, (c2.b i).weak = (c.b i).weak ∧ (c2.b i).bad = (c.b i).bad := fun i => by
      by_cases hi : i = q
      · subst hi; exact ⟨s2.weak, s2.bad⟩
      · rw [s2.other i hi]; exact ⟨rfl, rfl⟩
    rcases g2 with ⟨rfl, d2, p2, l2, x2⟩ | ⟨rfl, d2, p2, b2⟩
    · rw [if_neg (by simp)]
      refine ⟨_, _, _, rfl, w2, fun i hi => s2.other i (by omega), hfl, fun hfu => f2 hfu, .inl ⟨rfl, d2, ?_⟩⟩
      refine h.next (x := ⟨pad n.bytes, false⟩) hsh hn ?_ ?_
      · rw [hat, l2]
      · rw [ho, s2.other _ (by omega)]
    · rw [if_pos (by simp)]
      refine ⟨_, _, _, rfl, w2, fun i hi => s2.other i (by omega), hfl, fun hfu => absurd (f2 hfu).1 (by omega), .inr ⟨rfl, d2, fun how => ⟨fun i hi => ?_, ?_⟩⟩⟩
      · rw [restart_far p2 how (show i ≠ q by omega), b2]
      · have ho2 : (c2.restart how).b (1 - q) = c.b (1 - q) := by rw [restart_far p2 how (show 1 - q ≠ q by omega), b2]
        rcases undone_cases p2 how with e | e | e
        · refine .inl (h.same ?_ ?_) <;> rw [restart_b, e, b2]
        · refine .inl (h.idle torn_sheet ?_ (by rw [ho, ho2]))
          rw [hat, restart_b, e]
          simp only [halfP, Chip.set_same, b2]
        · refine .inr ⟨q, h.next (x := ⟨pad n.bytes, false⟩) hsh hn ?_ (by rw [ho, ho2])⟩
          rw [hat, restart_b, e]
          simp only [doP, Chip.set_same, b2]
end Go.Proofs.Ytaepdbkfaoiimab
/- Plain: a free block is sought and erased, or written as a table; tables one behind the other. Conditions: none but those that each names. -/
set_option linter.unusedVariables false
set_option linter.unusedSimpArgs false
namespace Go.Proofs.Ytaepdbkfaoiimab
open Go.RowKit

/-- A block is looked at: the free one that was erased least often yet. -/
def freeS (c : Chip) (used : List Int) (best : Int) (b : Nat) : Int :=
  if (c.b b).bad = false ∧ used.contains (b : Int) = false ∧ (best < 0 ∨ (c.b b).wear < (c.b best.toNat).wear) then b else best
def freeTo (c : Chip) (used : List Int) : Nat → Int
  | 0 => -1
  | k + 1 => freeS c used (freeTo c used k) (k + 2)
def freeM (c : Chip) (used : List Int) : Int := freeTo c used 22
theorem freeTo_spec (c : Chip) (used : List Int) : ∀ k, (freeTo c used k = -1 ∧ ∀ i, 2 ≤ i → i < k + 2 → (c.b i).bad = true ∨ (i : Int) ∈ used) ∨ ∃ b : Nat, freeTo c used k = b ∧ 2 ≤ b ∧ b < k + 2 ∧ (c.b b).bad = false ∧ (b : Int) ∉ used
  | 0 => .inl ⟨rfl, fun i h1 h2 => by omega⟩
  | k + 1 => by
    rw [freeTo]
    unfold freeS
    by_cases hb : (c.b (k + 2)).bad = false ∧ used.contains ((k + 2 : Nat) : Int) = false ∧ (freeTo c used k < 0 ∨ (c.b (k + 2)).wear < (c.b (freeTo c used k).toNat).wear)
    · rw [if_pos hb]
      exact .inr ⟨k + 2, rfl, by omega, by omega, hb.1, by have := hb.2.1; simpa using this⟩
    · rw [if_neg hb]
      rcases freeTo_spec c used k with ⟨h1, h2⟩ | ⟨b, h1, h2, h3, h4⟩
      · refine .inl ⟨h1, fun i hi hi2 => ?_⟩
        rcases Nat.lt_or_ge i (k + 2) with h | h
        · exact h2 i hi h
        · have : i = k + 2 := by omega
          subst this
          cases hbad : (c.b (k + 2)).bad
          · right
            cases hc : used.contains ((k + 2 : Nat) : Int)
            · exact absurd ⟨hbad, hc, .inl (by rw [h1]; decide)⟩ hb
            · simpa using hc
          · exact .inl rfl
      · exact .inr ⟨b, h1, h2, by omega, h4⟩
theorem freeM_spec (c : Chip) (used : List Int) : (freeM c used = -1 ∧ ∀ i, 2 ≤ i → i < 24 → (c.b i).bad = true ∨ (i : Int) ∈ used) ∨ ∃ b : Nat, freeM c used = b ∧ 2 ≤ b ∧ b < 24 ∧ (c.b b).bad = false ∧ (b : Int) ∉ used :=
  freeTo_spec c used 22

/-- A step is done on free blocks, till one goes well, or otherwise wrong. -/
def seek (f : Chip → Int → Chip × Nat) (used : List Int) : Nat → Chip → Chip × Int × Nat
  | 0, c => (c, 0, 8)
  | k + 1, c =>
    if freeM c used < 0 then (c, 0, 8)
    else if (f c (freeM c used)).2 = 7 then seek f used k (f c (freeM c used)).1
    else if (f c (freeM c used)).2 = 0 then ((f c (freeM c used)).1, freeM c used, 0)
    else ((f c (freeM c used)).1, 0, (f c (freeM c used)).2)
/-- Such a step: on a weak block it goes bad; else it is done, or the machine falls in it. -/
structure Lays (f : Chip → Int → Chip × Nat) (G : Chip → Nat → Prop) : Prop where
  weak : ∀ c b, CWf c → c.down = false → b < 24 → (c.b b).bad = false → (c.b b).weak = true → f c (b : Nat) = (c.spoil b, 7)
  calm : ∀ c b, CWf c → c.down = false → b < 24 → (c.b b).bad = false → (c.b b).weak = false → ∃ c' n, f c (b : Nat) = (c', n) ∧ CWf c' ∧ SameBut b c c' ∧ (c.fuse < 0 → n = 0 ∧ c'.fuse < 0) ∧
    ((n = 0 ∧ c'.down = false ∧ c'.pend = c.pend ∧ G c' b ∧ (c'.b b).wear = wrap64 ((c.b b).wear + 1)) ∨ (n = 9 ∧ c'.down = true ∧ ∃ p, c'.pend = some p ∧ p.blk = b))
theorem lays_erase : Lays (fun c b => c.erase b) (fun c b => (c.b b).l = []) := by
  refine ⟨fun c b hc hd hb hbad hw => ?_, fun c b hc hd hb hbad hw => ?_⟩
  · have hr : c.ready b = 0 := by unfold Chip.ready; rw [hd, if_neg (by simp), if_neg (by omega), Int.toNat_natCast, hbad]; simp
    show c.erase b = _
    unfold Chip.erase
    rw [if_neg (by simp [hr]), Int.toNat_natCast, hw, if_pos rfl]
  · obtain ⟨c', n, e, s, f, g⟩ := erase_calm hb hd hbad hw
    refine ⟨c', n, e, by have := hc.erase_ b; rw [e] at this; exact this, s, f, ?_⟩
    rcases g with ⟨h1, h2, h3, h4, h5⟩ | ⟨h1, h2, h3, h4⟩
    · exact .inl ⟨h1, h2, h3, h4, h5⟩
    · exact .inr ⟨h1, h2, _, h3, rfl⟩
theorem tabWrite_wf {c : Chip} (h : CWf c) (b : Int) (l : List Ent) : CWf (tabWrite c b l).1 := by
  unfold tabWrite
  have h0 := h.erase_ b
  generalize c.erase b = st at h0
  generalize rawPages l = ds
  induction ds generalizing st with
  | nil => exact h0
  | cons d ds ih =>
    rw [List.foldl_cons]
    refine ih _ ?_
    unfold pStepW
    split
    · exact h0.write_ b d
    · exact h0
theorem lays_table {l : List Ent} (ht : tabF l = 0) : Lays (fun c b => tabWrite c b l) (fun c b => TabAt c b l) := by
  refine ⟨fun c b hc hd hb hbad hw => ?_, fun c b hc hd hb hbad hw => ?_⟩
  · have := lays_erase.weak c b hc hd hb hbad hw
    show tabWrite c b l = _
    unfold tabWrite
    rw [show c.erase b = _ from this, fold_stuck (by simp)]
  · obtain ⟨c', n, e, s, f, g⟩ := tabWrite_calm hb hd hbad hw ht
    exact ⟨c', n, e, by have := tabWrite_wf hc b l; rw [e] at this; exact this, s, f, g⟩

/-- From c to c' blocks that are free have turned alone: none of those that are used, nor of the two first ones. -/
structure Ext (used : List Int) (c c' : Chip) : Prop where
  keep : ∀ i : Nat, (i : Int) ∈ used ∨ i < 2 → c'.b i = c.b i
  weak : ∀ i, (c'.b i).weak = (c.b i).weak
  bad : ∀ i, (c.b i).bad = true → (c'.b i).bad = true
theorem Ext.refl (used : List Int) (c : Chip) : Ext used c c := ⟨fun _ _ => rfl, fun _ => rfl, fun _ h => h⟩
theorem Ext.trans {used used' : List Int} {c c' c2 : Chip} (h : Ext used c c') (k : Ext used' c' c2) (hu : ∀ i ∈ used, i ∈ used') : Ext used c c2 :=
  ⟨fun i hi => (k.keep i (hi.imp (hu _) id)).trans (h.keep i hi), fun i => (k.weak i).trans (h.weak i), fun i hi => k.bad i (h.bad i hi)⟩
theorem spoil_far (c : Chip) (b : Nat) {i : Nat} (h : i ≠ b) : (c.spoil b).b i = c.b i := by
  unfold Chip.spoil
  split
  · exact Chip.set_far c _ h
  · rfl
theorem spoil_same {c : Chip} {b : Nat} (h : (c.b b).weak = true) : ((c.spoil b).b b) = { c.b b with bad := true } := by
  unfold Chip.spoil
  rw [if_pos h, Chip.set_same]
theorem spoil_flags (c : Chip) (b i : Nat) : ((c.spoil b).b i).weak = (c.b i).weak ∧ ((c.spoil b).b i).wear = (c.b i).wear ∧ ((c.b i).bad = true → ((c.spoil b).b i).bad = true) ∧ ((c.spoil b).b i).l = (c.b i).l := by
  by_cases h : i = b
  · subst h
    unfold Chip.spoil
    split
    · rw [Chip.set_same]; exact ⟨rfl, rfl, fun _ => rfl, rfl⟩
    · exact ⟨rfl, rfl, id, rfl⟩
  · rw [spoil_far c b h]; exact ⟨rfl, rfl, id, rfl⟩
theorem spoil_rest (c : Chip) (b : Nat) : (c.spoil b).down = c.down ∧ (c.spoil b).pend = c.pend ∧ (c.spoil b).fuse = c.fuse := by
  unfold Chip.spoil; split <;> exact ⟨rfl, rfl, rfl⟩
/-- How many blocks are not bad. -/
def goods (c : Chip) : Nat := (List.range 24).countP (fun i => !(c.b i).bad)
theorem countP_lt {α : Type} (p q : α → Bool) : ∀ (l : List α) (a : α), a ∈ l → p a = true → q a = false → (∀ x ∈ l, q x = true → p x = true) → l.countP q < l.countP p
  | [], a, h, _, _, _ => by cases h
  | x :: l, a, h, h1, h2, h3 => by
    have hle : l.countP q ≤ l.countP p := List.countP_mono_left fun y hy hq => h3 y (by simp [hy]) hq
    rw [List.countP_cons, List.countP_cons]
    rcases List.mem_cons.1 h with rfl | h
    · rw [if_neg (by simp [h2]), if_pos h1]; omega
    · have := countP_lt p q l a h h1 h2 fun y hy => h3 y (by simp [hy])
      by_cases hq : q x = true
      · rw [if_pos hq, if_pos (h3 x (by simp) hq)]; omega
      · rw [if_neg hq]; split <;> omega
theorem goods_spoil {c : Chip} {b : Nat} (hb : b < 24) (h : (c.b b).bad = false) (hw : (c.b b).weak = true) : goods (c.spoil b) < goods c := by
  refine countP_lt _ _ _ b (by simpa using hb) (by simp [h]) (by rw [spoil_same hw]; rfl) fun i hi hq => ?_
  have := (spoil_flags c b i).2.2.1
  cases hx : (c.b i).bad
  · rfl
  · rw [this hx] at hq; simp at hq
theorem goods_le (c : Chip) : goods c ≤ 24 := by
  have := List.countP_le_length (p := fun i => !(c.b i).bad) (l := List.range 24)
  simpa [goods] using this
/-- What seeking leaves, where a block is left that is neither used nor weak. -/
theorem seek_calm {f : Chip → Int → Chip × Nat} {G : Chip → Nat → Prop} (hf : Lays f G) (used : List Int) : ∀ (k : Nat) (c : Chip), goods c < k → CWf c → c.down = false → (∃ i : Nat, 2 ≤ i ∧ i < 24 ∧ (c.b i).weak = false ∧ (i : Int) ∉ used) →
    ∃ c' b n, seek f used k c = (c', b, n) ∧ CWf c' ∧ Ext used c c' ∧ (c.fuse < 0 → n = 0 ∧ c'.fuse < 0) ∧
      ((n = 0 ∧ c'.down = false ∧ c'.pend = c.pend ∧ ∃ q : Nat, b = q ∧ 2 ≤ q ∧ q < 24 ∧ (q : Int) ∉ used ∧ G c' q ∧ (c.b q).bad = false ∧ (c'.b q).weak = false ∧ ∀ i, (c'.b i).wear = if i = q then wrap64 ((c.b i).wear + 1) else (c.b i).wear) ∨
       (n = 9 ∧ c'.down = true ∧ ∃ p, c'.pend = some p ∧ (p.blk : Int) ∉ used ∧ 2 ≤ p.blk))
  | 0, c, h, _, _, _ => by omega
  | k + 1, c, hk, hc, hd, hg => by
    obtain ⟨g, g1, g2, g3, g4⟩ := hg
    rcases freeM_spec c used with ⟨_, h⟩ | ⟨b, e, b1, b2, b3, b4⟩
    · rcases h g g1 g2 with h | h
      · have := hc.bad g h; rw [g3] at this; cases this
      · exact absurd h g4
    · rw [seek, e, if_neg (by omega)]
      cases hw : (c.b b).weak
      · obtain ⟨c', n, e1, w1, s1, f1, h1⟩ := hf.calm c b hc hd b2 b3 hw
        rw [e1]
        have hext : Ext used c c' := by
          refine ⟨fun i hi => s1.other i ?_, fun i => ?_, fun i h => ?_⟩
          · rintro rfl; rcases hi with hi | hi
            · exact b4 hi
            · omega
          · by_cases hi : i = b
            · subst hi; exact s1.weak
            · rw [s1.other i hi]
          · by_cases hi : i = b
            · subst hi; rw [s1.bad]; exact h
            · rw [s1.other i hi]; exact h
        rcases h1 with ⟨rfl, d1, p1, q1, x1⟩ | ⟨rfl, d1, p, p1, p2⟩
        · rw [if_neg (by simp), if_pos rfl]
          refine ⟨_, _, _, rfl, w1, hext, f1, .inl ⟨rfl, d1, p1, b, rfl, b1, b2, b4, q1, b3, by rw [s1.weak]; exact hw, fun i => ?_⟩⟩
          by_cases hi : i = b
          · subst hi; rw [if_pos rfl]; exact x1
          · rw [if_neg hi, s1.other i hi]
        · rw [if_neg (by simp), if_neg (by simp)]
          exact ⟨_, _, _, rfl, w1, hext, f1, .inr ⟨rfl, d1, p, p1, by rw [p2]; exact b4, by omega⟩⟩
      · rw [hf.weak c b hc hd b2 b3 hw, if_pos rfl]
        obtain ⟨r1, r2, r3⟩ := spoil_rest c b
        obtain ⟨c', b', n, e1, w1, x1, f1, h1⟩ := seek_calm hf used k (c.spoil b) (by have := goods_spoil b2 b3 hw; omega) (hc.spoil_ b hd) (by rw [r1]; exact hd) ⟨g, g1, g2, by rw [(spoil_flags c b g).1]; exact g3, g4⟩
        have hx : Ext used c c' := by
          refine ⟨fun i hi => ?_, fun i => ?_, fun i h => ?_⟩
          · rw [x1.keep i hi]
            exact spoil_far c b (by rintro rfl; exact hi.elim b4 (fun h => by omega))
          · rw [x1.weak, (spoil_flags c b i).1]
          · exact x1.bad i ((spoil_flags c b i).2.2.1 h)
        refine ⟨c', b', n, e1, w1, hx, by rw [r3] at f1; exact f1, ?_⟩
        rcases h1 with ⟨h1, h2, h3, q, h4, h5, h6, h7, h8, h9, h10, h11⟩ | h1
        · refine .inl ⟨h1, h2, by rw [h3, r2], q, h4, h5, h6, h7, h8, ?_, h10, fun i => by rw [h11 i, (spoil_flags c b i).2.1]⟩
          cases hb : (c.b q).bad
          · rfl
          · rw [(spoil_flags c b q).2.2.1 hb] at h9; cases h9
        · exact .inr h1
end Go.Proofs.Ytaepdbkfaoiimab
/- Rows: what is at hand and tables, put together; the plain laws, with no program in sight. Conditions: none but those that each law names. -/
set_option linter.unusedVariables false
set_option linter.unusedSimpArgs false
namespace Go.Proofs.Ytaepdbkfaoiimab
open Go.RowKit

/-- All rows: what is at hand over the tables, the newest first. -/
def rowsOf (mem : List Ent) (tabs : List (List Ent)) : List Ent := liveE (mergeAll (mem :: tabs))
/-- What a list has of a key last. -/
def lastE (l : List Ent) (k : ByteArray) : Option Ent := getE l.reverse k

theorem getE_append (a b : List Ent) (k : ByteArray) : getE (a ++ b) k = (getE a k).or (getE b k) := by
  unfold getE; rw [List.find?_append]
theorem get_mergeAll_cons {l : List Ent} {ls : List (List Ent)} (hl : Rises l) (h : ∀ l ∈ ls, Rises l) (k : ByteArray) : getE (mergeAll (l :: ls)) k = (getE l k).or (getE (mergeAll ls) k) :=
  get_merge2 hl (rises_mergeAll h) k
theorem rises_append {a b : List Ent} : Rises (a ++ b) ↔ Rises a ∧ Rises b ∧ ∀ x ∈ a, ∀ y ∈ b, ltB x.k y.k = true := List.pairwise_append
theorem rises_flat {ps : List (List Ent)} (h : Rises ps.flatten) : ∀ p ∈ ps, Rises p := by
  induction ps with
  | nil => simp
  | cons q ps ih =>
    rw [List.flatten_cons, rises_append] at h
    intro p hp
    rcases List.mem_cons.1 hp with rfl | hp
    · exact h.1
    · exact ih h.2.1 p hp
theorem get_chunks {ps ts : List (List Ent)} (h : Rises ps.flatten) (ht : ∀ l ∈ ts, Rises l) (k : ByteArray) : getE (mergeAll (ps ++ ts)) k = (getE ps.flatten k).or (getE (mergeAll ts) k) := by
  induction ps with
  | nil => rfl
  | cons p ps ih =>
    have hp := rises_flat h
    rw [List.flatten_cons, rises_append] at h
    rw [List.cons_append, get_mergeAll_cons h.1 (fun l hl => (List.mem_append.1 hl).elim (fun hl => hp l (List.mem_cons_of_mem _ hl)) (ht l)), ih h.2.1, List.flatten_cons, getE_append, Option.or_assoc]
theorem rises_all {mem : List Ent} {ts : List (List Ent)} (hm : Rises mem) (ht : ∀ l ∈ ts, Rises l) : ∀ l ∈ mem :: ts, Rises l := fun l hl => by
  rcases List.mem_cons.1 hl with rfl | hl
  · exact hm
  · exact ht l hl
theorem rises_chunks {ps ts : List (List Ent)} (h : Rises ps.flatten) (ht : ∀ l ∈ ts, Rises l) : ∀ l ∈ ps ++ ts, Rises l := fun l hl => by
  rcases List.mem_append.1 hl with hl | hl
  · exact rises_flat h l hl
  · exact ht l hl
theorem rises_nil : Rises [] := List.Pairwise.nil
theorem rises_rows {mem : List Ent} {ts : List (List Ent)} (hm : Rises mem) (ht : ∀ l ∈ ts, Rises l) : Rises (rowsOf mem ts) := rises_live (rises_mergeAll (rises_all hm ht))
/-- What is at hand is laid. -/
theorem rows_flush {mem : List Ent} {ps ts : List (List Ent)} (hm : Rises mem) (ht : ∀ l ∈ ts, Rises l) (hp : ps.flatten = mem) : mergeAll (ps ++ ts) = mergeAll (mem :: ts) := by
  subst hp
  refine rises_ext (rises_mergeAll (rises_chunks hm ht)) (rises_mergeAll (rises_all hm ht)) fun k => ?_
  rw [get_chunks hm ht, get_mergeAll_cons hm ht]
theorem rows_flush' {mem : List Ent} {ps ts : List (List Ent)} (hm : Rises mem) (ht : ∀ l ∈ ts, Rises l) (hp : ps.flatten = mem) : rowsOf [] (ps ++ ts) = rowsOf mem ts := by
  show liveE (merge2 [] (mergeAll (ps ++ ts))) = _
  rw [rows_flush hm ht hp, merge2]
  rfl
/-- Tables are put together. -/
theorem mergeAll_chunks {ps : List (List Ent)} (h : Rises ps.flatten) : mergeAll ps = ps.flatten := by
  have := rows_flush (mem := ps.flatten) (ts := []) h (by simp) rfl
  rw [List.append_nil] at this
  rw [this]
  show merge2 ps.flatten [] = _
  cases ps.flatten <;> simp [merge2]
theorem filter_or {x : Option Ent} {y : Option Ent} : (x.or (y.filter (fun e => !e.g))).filter (fun e => !e.g) = (x.or y).filter (fun e => !e.g) := by
  cases x with
  | none => cases y with
    | none => rfl
    | some e => cases h : e.g <;> simp [Option.filter, h]
  | some e => rfl
theorem rows_compact {mem : List Ent} {ps ts : List (List Ent)} (hm : Rises mem) (ht : ∀ l ∈ ts, Rises l) (hp : ps.flatten = liveE (mergeAll ts)) : rowsOf mem ps = rowsOf mem ts := by
  have hr := rises_live (rises_mergeAll ht)
  have hps : Rises ps.flatten := by rw [hp]; exact hr
  refine rises_ext (rises_rows hm (rises_flat hps)) (rises_rows hm ht) fun k => ?_
  unfold rowsOf
  rw [get_live (rises_mergeAll (rises_all hm (rises_flat hps))), get_live (rises_mergeAll (rises_all hm ht)), get_mergeAll_cons hm (rises_flat hps), get_mergeAll_cons hm ht, mergeAll_chunks hps, hp, get_live (rises_mergeAll ht), filter_or]
theorem live_live (l : List Ent) : liveE (liveE l) = liveE l := by unfold liveE; rw [List.filter_filter]; simp
theorem live_mem {l : List Ent} {e : Ent} (h : e ∈ liveE l) : e ∈ l ∧ e.g = false := by
  unfold liveE at h; rw [List.mem_filter] at h; simpa using h
/-- Changes are put among others. -/
theorem rises_puts (l : List Ent) {acc : List Ent} (ha : Rises acc) : Rises (l.foldl putE acc) := by
  induction l generalizing acc with
  | nil => exact ha
  | cons x l ih => exact ih (rises_put ha x)
theorem get_puts (l : List Ent) {acc : List Ent} (ha : Rises acc) (k : ByteArray) : getE (l.foldl putE acc) k = (lastE l k).or (getE acc k) := by
  induction l generalizing acc with
  | nil => rfl
  | cons x l ih =>
    rw [List.foldl_cons, ih (rises_put ha x), get_put ha]
    unfold lastE
    rw [List.reverse_cons, getE_append, Option.or_assoc]
    congr 1
    rw [getE_cons]
    split <;> rfl
theorem rows_write {mem : List Ent} {ts : List (List Ent)} (l : List Ent) (hm : Rises mem) (ht : ∀ l ∈ ts, Rises l) : rowsOf (l.foldl putE mem) ts = liveE (l.foldl putE (rowsOf mem ts)) := by
  have hr := rises_rows hm ht
  refine rises_ext (rises_rows (rises_puts l hm) ht) (rises_live (rises_puts l hr)) fun k => ?_
  rw [get_live (rises_puts l hr), get_puts l hr]
  unfold rowsOf
  rw [get_live (rises_mergeAll (rises_all (rises_puts l hm) ht)), get_live (rises_mergeAll (rises_all hm ht)), get_mergeAll_cons (rises_puts l hm) ht, get_mergeAll_cons hm ht, get_puts l hm, filter_or, Option.or_assoc]
theorem puts_mem {l : List Ent} {acc : List Ent} (ha : Rises acc) {e : Ent} (h : e ∈ l.foldl putE acc) : e ∈ l ∨ e ∈ acc := by
  have hr := rises_puts l ha
  have h1 := getE_of_mem hr h
  rw [get_puts l ha] at h1
  cases h2 : lastE l e.k with
  | none => rw [h2, Option.none_or] at h1; exact .inr (getE_mem h1).1
  | some x => rw [h2, Option.some_or] at h1; have := Option.some.inj h1; subst this; have := (getE_mem h2).1; exact .inl (by simpa using this)
theorem puts_len (l acc : List Ent) : (l.foldl putE acc).length ≤ acc.length + l.length := by
  induction l generalizing acc with
  | nil => simp
  | cons x l ih =>
    have := ih (putE acc x)
    have := putE_len acc x
    simp only [List.foldl_cons, List.length_cons]
    omega
theorem merge_mem {ls : List (List Ent)} {e : Ent} (h : e ∈ mergeAll ls) : ∃ l ∈ ls, e ∈ l := by
  induction ls with
  | nil => cases h
  | cons l ls ih =>
    rcases mem_merge2 e _ l (mergeAll ls) (Nat.le_refl _) h with h | h
    · exact ⟨l, by simp, h⟩
    · obtain ⟨x, hx, he⟩ := ih h
      exact ⟨x, by simp [hx], he⟩
/-- Fewer keys, fewer rows. -/
theorem rises_nodup {l : List Ent} (h : Rises l) : (l.map Ent.k).Nodup := by
  unfold List.Nodup
  rw [List.pairwise_map]
  exact h.imp (fun h => ltB_ne h)
theorem rows_get {mem : List Ent} {ts : List (List Ent)} (hm : Rises mem) (ht : ∀ l ∈ ts, Rises l) (k : ByteArray) : getE (rowsOf mem ts) k = ((getE mem k).or (getE (mergeAll ts) k)).filter (fun e => !e.g) := by
  unfold rowsOf
  rw [get_live (rises_mergeAll (rises_all hm ht)), get_mergeAll_cons hm ht]
end Go.Proofs.Ytaepdbkfaoiimab
/- The plain model of a store: what each of its functions does to the chip and to what is at hand. Conditions: none. -/
set_option linter.unusedVariables false
set_option linter.unusedSimpArgs false
namespace Go.Proofs.Ytaepdbkfaoiimab
open Go.RowKit

/-- A store: its manifest, in which block that is, what is at hand, what the tables hold. -/
structure SM where
  m : Man
  at_ : Int
  mem : List Ent
  tabs : List (List Ent)
def SM.rows (s : SM) : List Ent := rowsOf s.mem s.tabs
/-- Parts of so many entries each. -/
def parts (n : Nat) (l : List Ent) : List (List Ent) := (List.range ((l.length + (n - 1)) / n)).map (fun k => (l.drop (n * k)).take n)
/-- Tables are written one behind the other. -/
def tablesM (used : List Int) : List (List Ent) → Chip → List Int → Chip × List Int × Nat
  | [], c, out => (c, out, 0)
  | p :: ps, c, out =>
    let r := seek (fun c b => tabWrite c b p) (used ++ out) 25 c
    if r.2.2 = 0 then tablesM used ps r.1 (out ++ [r.2.1]) else (r.1, [], r.2.2)
def blankM (used : List Int) (c : Chip) : Chip × Int × Nat := seek (fun c b => c.erase b) used 25 c
def noteM (c : Chip) (s : SM) (m : Man) : Chip × SM × Nat :=
  let r := noteR c s.at_ { m with ep := s.m.ep + 1 }
  if r.2.2 = 0 then (r.1, { s with m := { m with ep := s.m.ep + 1 }, at_ := r.2.1 }, 0) else (r.1, s, r.2.2)
/-- What is at hand is laid. -/
def layM (c : Chip) (s : SM) : Chip × SM × Nat :=
  let t := tablesM s.m.all (parts 14 s.mem) c []
  if t.2.2 ≠ 0 then (t.1, s, t.2.2) else
  let b := blankM (s.m.all ++ t.2.1) t.1
  if b.2.2 ≠ 0 then (b.1, s, b.2.2) else
  let r := noteM b.1 s ⟨0, b.2.1, t.2.1 ++ s.m.nw, s.m.od⟩
  if r.2.2 = 0 then (r.1, { r.2.1 with mem := [], tabs := parts 14 s.mem ++ s.tabs }, 0) else r
/-- Tables are put together. -/
def compM (c : Chip) (s : SM) : Chip × SM × Nat :=
  let t := tablesM s.m.all (parts 14 (liveE (mergeAll s.tabs))) c []
  if t.2.2 ≠ 0 then (t.1, s, t.2.2) else
  let r := noteM t.1 s ⟨0, s.m.log, [], t.2.1⟩
  if r.2.2 = 0 then (r.1, { r.2.1 with tabs := parts 14 (liveE (mergeAll s.tabs)) }, 0) else r
def fewM (c : Chip) (s : SM) : Chip × SM × Nat := if s.m.nw.length < 3 then (c, s, 0) else compM c s
def flushM (c : Chip) (s : SM) : Chip × SM × Nat :=
  let a := fewM c s
  if a.2.2 ≠ 0 then a else
  let b := layM a.1 a.2.1
  if b.2.2 ≠ 0 then b else fewM b.1 b.2.1
/-- What is wrong with a batch of changes. -/
def checkM (s : SM) (l : List Ent) : Nat :=
  if l.length = 0 ∨ 4 < l.length then 2
  else if bytesF l ≠ 0 then bytesF l
  else if 40 < (liveE (l.foldl putE s.rows)).length then 8 else 0
def roomM (c : Chip) (s : SM) : Chip × SM × Nat := if (c.b s.m.log.toNat).l.length < 8 then (c, s, 0) else flushM c s
/-- A page is noted in the log; where that is bad, it is done anew. -/
def logM (d : ByteArray) : Nat → Chip → SM → Chip × SM × Nat
  | 0, c, s => (c, s, 7)
  | k + 1, c, s =>
    let r := roomM c s
    if r.2.2 ≠ 0 then r else
    let e := r.1.write r.2.1.m.log d
    if e.2 ≠ 7 then (e.1, r.2.1, e.2) else
    let f := flushM e.1 r.2.1
    if f.2.2 ≠ 0 then f else logM d k f.1 f.2.1
def writeM (c : Chip) (s : SM) (l : List Ent) : Chip × SM × Nat :=
  if checkM s l ≠ 0 then (c, s, checkM s l) else
  let r := logM (bytesL l.length l) 2 c s
  if r.2.2 = 0 then (r.1, { r.2.1 with mem := l.foldl putE r.2.1.mem }, 0) else r

/-! ### what is so of a store -/
/-- What the pages of a log have. -/
def logE : List Sheet → Option (List Ent)
  | [] => some []
  | x :: l => if x.t then logE l else match parseR x.d, logE l with
    | some es, some fs => some (es ++ fs)
    | _, _ => none
/-- What is at hand stands in the log. -/
structure LogAt (c : Chip) (b : Nat) (mem : List Ent) (es : List Ent) : Prop where
  read : logE (c.b b).l = some es
  mem : mem = es.foldl putE []
  few : es.length ≤ 4 * (c.b b).l.length
  ok : ∀ e ∈ es, faultE e = 0
/-- In each of these blocks stands its table. -/
def TabsAt (c : Chip) : List Int → List (List Ent) → Prop
  | [], [] => True
  | b :: bs, l :: ls => TabAt c b.toNat l ∧ TabsAt c bs ls
  | _, _ => False
def weaks (c : Chip) : Nat := (List.range 24).countP (fun i => (c.b i).weak)
/-- What the blocks hold, but for the two first ones. -/
structure Body (c : Chip) (s : SM) : Prop where
  fault : s.m.fault = 0
  tabs : TabsAt c (s.m.nw ++ s.m.od) s.tabs
  log : ∃ es, LogAt c s.m.log.toNat s.mem es
  weak : weaks c ≤ 6
  nwl : s.m.nw.length ≤ 5
  odl : s.m.od.length ≤ 3
  old : Rises (s.tabs.drop s.m.nw.length).flatten ∧ ∀ e ∈ (s.tabs.drop s.m.nw.length).flatten, e.g = false
  rows : s.rows.length ≤ 40
  trows : (liveE (mergeAll s.tabs)).length ≤ 40
structure Inv (c : Chip) (s : SM) : Prop where
  wf : CWf c
  up : c.down = false
  head : Head c s.m s.at_
  body : Body c s
/-- The machine has fallen: whatever becomes of the step, there is a store that has the rows a or b. -/
structure Fallen (ep : Int) (a b : List Ent) (c : Chip) : Prop where
  wf : CWf c
  down : c.down = true
  back : ∀ how, ∃ s, Inv (c.restart how) s ∧ (s.rows = a ∨ s.rows = b) ∧ s.m.ep ≤ ep

section
variable {c c' : Chip}
theorem tabsAt_len : ∀ {bs : List Int} {ls : List (List Ent)}, TabsAt c bs ls → bs.length = ls.length
  | [], [], _ => rfl
  | b :: bs, l :: ls, h => by rw [List.length_cons, List.length_cons, tabsAt_len h.2]
  | [], _ :: _, h => h.elim
  | _ :: _, [], h => h.elim
theorem tabsAt_at : ∀ {bs : List Int} {ls : List (List Ent)}, TabsAt c bs ls → ∀ (i : Nat) (b : Int), bs[i]? = some b → ∃ l, ls[i]? = some l ∧ TabAt c b.toNat l
  | [], [], _, i, b, h => by simp at h
  | x :: bs, l :: ls, h, 0, b, hb => by simp at hb; subst hb; exact ⟨l, rfl, h.1⟩
  | x :: bs, l :: ls, h, i + 1, b, hb => tabsAt_at h.2 i b hb
  | [], _ :: _, h, _, _, _ => h.elim
  | _ :: _, [], h, _, _, _ => h.elim
theorem tabsAt_app : ∀ {bs bs' : List Int} {ls ls' : List (List Ent)}, TabsAt c bs ls → TabsAt c bs' ls' → TabsAt c (bs ++ bs') (ls ++ ls')
  | [], _, [], _, _, h => h
  | b :: bs, _, l :: ls, _, h, h' => ⟨h.1, tabsAt_app h.2 h'⟩
  | [], _, _ :: _, _, h, _ => h.elim
  | _ :: _, _, [], _, h, _ => h.elim
theorem tabsAt_keep : ∀ {bs : List Int} {ls : List (List Ent)}, TabsAt c bs ls → (∀ b ∈ bs, (c'.b b.toNat).l = (c.b b.toNat).l) → TabsAt c' bs ls
  | [], [], _, _ => trivial
  | b :: bs, l :: ls, h, hk => ⟨⟨(hk b (by simp)).trans h.1.pages, h.1.ok⟩, tabsAt_keep h.2 fun x hx => hk x (by simp [hx])⟩
  | [], _ :: _, h, _ => h.elim
  | _ :: _, [], h, _ => h.elim
theorem tabsAt_ok : ∀ {bs : List Int} {ls : List (List Ent)}, TabsAt c bs ls → ∀ l ∈ ls, tabF l = 0
  | [], [], _, l, h => by cases h
  | b :: bs, x :: ls, h, l, hl => by
    rcases List.mem_cons.1 hl with rfl | hl
    · exact h.1.ok
    · exact tabsAt_ok h.2 l hl
  | [], _ :: _, h, _, _ => h.elim
  | _ :: _, [], h, _, _ => h.elim
end
end Go.Proofs.Ytaepdbkfaoiimab
/- Plain: tables, laying, putting together, noting: what they leave. Conditions: none but those that each names. -/
set_option linter.unusedVariables false
set_option linter.unusedSimpArgs false
namespace Go.Proofs.Ytaepdbkfaoiimab
open Go.RowKit

/-! ### there is a block left -/
theorem cover_len {α : Type} (l : List α) (p : α → Bool) (q : α → Bool) (h : ∀ x ∈ l, p x = true ∨ q x = true) : l.length ≤ l.countP p + l.countP q := by
  induction l with
  | nil => simp
  | cons x l ih =>
    have := ih fun y hy => h y (by simp [hy])
    rw [List.countP_cons, List.countP_cons, List.length_cons]
    rcases h x (by simp) with h | h <;> simp [h] <;> omega
theorem count_le_len : ∀ (l : List Nat) (u : List Int), l.Nodup → l.countP (fun i : Nat => decide ((i : Int) ∈ u)) ≤ u.length
  | l, [], _ => by
    have : l.countP (fun i : Nat => decide ((i : Int) ∈ ([] : List Int))) = 0 := by rw [List.countP_eq_zero]; simp
    omega
  | l, b :: u, hn => by
    have h1 := count_le_len l u hn
    have h2 : l.countP (fun i : Nat => decide ((i : Int) ∈ b :: u)) ≤ l.countP (fun i : Nat => decide ((i : Int) = b)) + l.countP (fun i : Nat => decide ((i : Int) ∈ u)) := by
      clear h1 hn
      induction l with
      | nil => simp
      | cons x l ih =>
        rw [List.countP_cons, List.countP_cons, List.countP_cons]
        by_cases e1 : (x : Int) = b <;> by_cases e2 : (x : Int) ∈ u <;> simp [e1, e2] <;> (simp at ih; omega)
    have h3 : l.countP (fun i : Nat => decide ((i : Int) = b)) ≤ 1 := by
      clear h1 h2
      induction l with
      | nil => simp
      | cons x l ih =>
        have hn' := List.nodup_cons.1 hn
        rw [List.countP_cons]
        by_cases e : (x : Int) = b
        · have h0 : l.countP (fun i : Nat => decide ((i : Int) = b)) = 0 := by
            rw [List.countP_eq_zero]
            intro y hy
            simp only [decide_eq_true_eq]
            intro e2
            have : y = x := by omega
            subst this
            exact hn'.1 hy
          rw [h0]; split <;> omega
        · have := ih hn'.2
          simp [e]; exact this
    rw [List.length_cons]; omega
theorem block_left {c : Chip} (hc : CWf c) {u : List Int} (hw : weaks c ≤ 6) (hu : u.length < 16) : ∃ i : Nat, 2 ≤ i ∧ i < 24 ∧ (c.b i).weak = false ∧ (i : Int) ∉ u := by
  apply Classical.byContradiction
  intro hno
  have h1 : ∀ i ∈ List.range' 2 22, (c.b i).weak = true ∨ decide ((i : Int) ∈ u) = true := by
    intro i hi
    rw [List.mem_range'_1] at hi
    cases hx : (c.b i).weak
    · right
      rw [decide_eq_true_eq]
      apply Classical.byContradiction
      intro hm
      exact hno ⟨i, by omega, by omega, hx, hm⟩
    · exact .inl rfl
  have h2 := cover_len (List.range' 2 22) (fun i => (c.b i).weak) (fun i : Nat => decide ((i : Int) ∈ u)) h1
  have h3 := count_le_len (List.range' 2 22) u (List.nodup_range' (step := 1) (by omega))
  have h4 : (List.range' 2 22).countP (fun i => (c.b i).weak) ≤ weaks c := by
    unfold weaks
    rw [show List.range 24 = [0, 1] ++ List.range' 2 22 from by decide, List.countP_append]
    omega
  rw [List.length_range'] at h2
  omega

/-! ### tables -/
theorem ext_snoc {used : List Int} {c c' : Chip} {b : Int} (h : Ext (used ++ [b]) c c') : Ext used c c' := ⟨fun i hi => h.keep i (hi.imp (fun h => by simp [h]) id), h.weak, h.bad⟩
theorem weaks_ext {used : List Int} {c c' : Chip} (h : Ext used c c') : weaks c' = weaks c := by
  unfold weaks
  congr 1
  funext i
  rw [h.weak]
/-- By one at most. -/
def Wear1 (c c' : Chip) : Prop := ∀ i, (c'.b i).wear = (c.b i).wear ∨ (c'.b i).wear = wrap64 ((c.b i).wear + 1)
theorem tables_calm (used : List Int) : ∀ (ps : List (List Ent)) (c : Chip) (out : List Int), CWf c → c.down = false → weaks c ≤ 6 → used.length + out.length + ps.length ≤ 15 → (∀ p ∈ ps, tabF p = 0) →
    ∃ c' o n, tablesM used ps c out = (c', o, n) ∧ CWf c' ∧ Ext (used ++ out) c c' ∧ (c.fuse < 0 → n = 0 ∧ c'.fuse < 0) ∧
      ((n = 0 ∧ c'.down = false ∧ ∃ nw, o = out ++ nw ∧ TabsAt c' nw ps ∧ nw.Nodup ∧ (∀ b ∈ nw, b ∉ used ++ out ∧ 2 ≤ b ∧ b < 24 ∧ (c.b b.toNat).bad = false) ∧ (∀ i : Nat, (i : Int) ∉ nw → (c'.b i).wear = (c.b i).wear) ∧ Wear1 c c') ∨
       (n = 9 ∧ c'.down = true ∧ ∃ p, c'.pend = some p ∧ (p.blk : Int) ∉ used ∧ 2 ≤ p.blk))
  | [], c, out, hc, hd, _, _, _ => ⟨c, out, 0, rfl, hc, .refl _ _, fun h => ⟨rfl, h⟩, .inl ⟨rfl, hd, [], by simp, trivial, by simp, by simp, fun _ _ => rfl, fun _ => .inl rfl⟩⟩
  | p :: ps, c, out, hc, hd, hw, hl, ht => by
    rw [List.length_cons] at hl
    obtain ⟨c1, b, n1, e1, w1, x1, f1, g1⟩ := seek_calm (lays_table (ht p (by simp))) (used ++ out) 25 c (by have := goods_le c; omega) hc hd (block_left hc hw (by rw [List.length_append]; omega))
    rw [tablesM, e1]
    simp only
    rcases g1 with ⟨rfl, d1, p1, q, rfl, q1, q2, q3, q4, q5, q6, q7⟩ | ⟨rfl, d1, y, p1, p2, p3⟩
    · rw [if_pos rfl]
      obtain ⟨c2, o, n2, e2, w2, x2, f2, g2⟩ := tables_calm used ps c1 (out ++ [(q : Int)]) w1 d1 (by rw [weaks_ext x1]; exact hw) (by rw [List.length_append]; simp; omega) (fun y hy => ht y (by simp [hy]))
      refine ⟨c2, o, n2, e2, w2, x1.trans x2 (fun i hi => by rw [← List.append_assoc, List.mem_append]; exact .inl hi), fun h => f2 (f1 h).2, ?_⟩
      have hx1 : Wear1 c c1 := fun i => by
        rw [q7 i]; split
        · exact .inr rfl
        · exact .inl rfl
      rcases g2 with ⟨rfl, d2, nw, rfl, t2, n2, m2, v2, u2⟩ | g2
      · have hqn : (q : Int) ∉ nw := fun h => by have := (m2 _ h).1; simp at this
        refine .inl ⟨rfl, d2, (q : Int) :: nw, by simp, ⟨?_, t2⟩, List.nodup_cons.2 ⟨hqn, n2⟩, fun b hb => ?_, fun i hi => ?_, fun i => ?_⟩
        · have := x2.keep q (.inl (by simp))
          rw [Int.toNat_natCast]
          exact ⟨by rw [this]; exact q4.pages, q4.ok⟩
        · rcases List.mem_cons.1 hb with rfl | hb
          · exact ⟨q3, by omega, by omega, by rw [Int.toNat_natCast]; exact q5⟩
          · obtain ⟨m3, m4, m5, m6⟩ := m2 b hb
            refine ⟨fun h => m3 (by rw [← List.append_assoc]; simp at h ⊢; rcases h with h | h <;> simp [h]), m4, m5, ?_⟩
            cases hbd : (c.b b.toNat).bad
            · rfl
            · rw [x1.bad _ hbd] at m6; cases m6
        · rw [v2 i (fun h => hi (by simp [h])), q7 i, if_neg (fun h => hi (by simp [h]))]
        · by_cases hi : (i : Int) ∈ nw
          · have : i ≠ q := fun h => hqn (h ▸ hi)
            have h1 := u2 i
            rw [q7 i, if_neg this] at h1
            exact h1
          · rw [v2 i hi]; exact hx1 i
      · exact .inr g2
    · rw [if_neg (by simp)]
      exact ⟨c1, [], 9, rfl, w1, x1, fun h => absurd (f1 h).1 (by omega), .inr ⟨rfl, d1, y, p1, fun h => p2 (by simp [h]), p3⟩⟩

/-! ### parts -/
theorem parts_len (n : Nat) (l : List Ent) : (parts n l).length = (l.length + (n - 1)) / n := by simp [parts]
theorem parts_flat {n : Nat} (hn : 0 < n) (l : List Ent) : (parts n l).flatten = l := by
  have key : ∀ k, ((List.range k).map (fun k => (l.drop (n * k)).take n)).flatten = l.take (n * k) := by
    intro k
    induction k with
    | zero => simp
    | succ k ih =>
      rw [List.range_succ, List.map_append, List.flatten_append, ih, List.map_singleton, List.flatten_singleton, Nat.mul_succ, List.take_add]
  unfold parts
  rw [key, List.take_of_length_le]
  have := Nat.div_add_mod (l.length + (n - 1)) n
  have h2 := Nat.mod_lt (l.length + (n - 1)) hn
  omega
theorem parts_mem {n : Nat} (hn : 0 < n) {l p : List Ent} (h : p ∈ parts n l) : 0 < p.length ∧ p.length ≤ n ∧ ∃ k, p = (l.drop k).take n := by
  obtain ⟨k, hk, rfl⟩ := List.mem_map.1 h
  rw [List.mem_range] at hk
  refine ⟨?_, List.length_take_le _ _, _, rfl⟩
  rw [List.length_take, List.length_drop]
  have := Nat.div_mul_le_self (l.length + (n - 1)) n
  have h2 : n * (k + 1) ≤ (l.length + (n - 1)) / n * n := by rw [Nat.mul_comm]; exact Nat.mul_le_mul_right n hk
  rw [Nat.mul_succ] at h2
  omega
theorem chkT_cons (p : Option ByteArray) (e : Ent) (l : List Ent) (hf : faultE e = 0) (hp : ∀ k, p = some k → ltB k e.k = true) : chkT p (e :: l) = chkT (some e.k) l := by
  cases p with
  | none => rw [chkT]; simp [hf]
  | some k => have := hp k rfl; rw [chkT]; simp [hf, leB_eq, this]
theorem chkT_of : ∀ (l : List Ent) (p : Option ByteArray), Rises l → (∀ e ∈ l, faultE e = 0) → (∀ k, p = some k → ∀ e ∈ l, ltB k e.k = true) → chkT p l = 0
  | [], _, _, _, _ => rfl
  | e :: l, p, hr, hf, hp => by
    have hr' := rises_cons.1 hr
    rw [chkT_cons p e l (hf e (by simp)) (fun k hk => hp k hk e (by simp))]
    exact chkT_of l (some e.k) hr'.2 (fun x hx => hf x (by simp [hx])) fun k hk x hx => by cases hk; exact hr'.1 x hx
theorem parts_ok {l : List Ent} (hr : Rises l) (hf : ∀ e ∈ l, faultE e = 0) : ∀ p ∈ parts 14 l, tabF p = 0 := by
  intro p hp
  obtain ⟨h1, h2, k, rfl⟩ := parts_mem (by omega) hp
  unfold tabF
  rw [if_neg (by omega)]
  have hs : ((l.drop k).take 14).Sublist l := (List.take_sublist _ _).trans (List.drop_sublist _ _)
  exact chkT_of _ _ (List.Pairwise.sublist hs hr) (fun e he => hf e (hs.subset he)) (fun k hk => by cases hk)

/-! ### what is so of what is there -/
theorem tab_rises {l : List Ent} (h : tabF l = 0) : Rises l := (chkT_rises (tabF_parts h).2.2).1
theorem LogAt.rises {c : Chip} {b : Nat} {mem es : List Ent} (h : LogAt c b mem es) : Rises mem := by rw [h.mem]; exact rises_puts es rises_nil
theorem LogAt.fault {c : Chip} {b : Nat} {mem es : List Ent} (h : LogAt c b mem es) : ∀ e ∈ mem, faultE e = 0 := by
  intro e he
  rw [h.mem] at he
  rcases puts_mem rises_nil he with he | he
  · exact h.ok e he
  · cases he
theorem LogAt.len {c : Chip} {b : Nat} {mem es : List Ent} (h : LogAt c b mem es) (hc : CWf c) (hb : b < 24) : mem.length ≤ 32 := by
  have h1 := puts_len es []
  rw [← h.mem] at h1
  have := h.few
  have := hc.len b hb
  simp at h1
  omega
theorem LogAt.keep {c c' : Chip} {b : Nat} {mem es : List Ent} (h : LogAt c b mem es) (hk : (c'.b b).l = (c.b b).l) : LogAt c' b mem es :=
  ⟨by rw [hk]; exact h.read, h.mem, by rw [hk]; exact h.few, h.ok⟩
section
variable {c c' : Chip} {s : SM}
theorem Body.tab (h : Body c s) : ∀ l ∈ s.tabs, Rises l := fun l hl => tab_rises (tabsAt_ok h.tabs l hl)
theorem Body.mem (h : Body c s) : Rises s.mem := by obtain ⟨es, h⟩ := h.log; exact h.rises
theorem Body.rng (h : Body c s) : ∀ b ∈ s.m.all, 2 ≤ b ∧ b < 24 := (fault_zero.1 h.fault).2.2.1
theorem Body.keep (h : Body c s) (hk : ∀ b : Nat, (b : Int) ∈ s.m.all → (c'.b b).l = (c.b b).l) (hw : weaks c' ≤ 6) : Body c' s := by
  have hr := h.rng
  have hk' : ∀ b : Int, b ∈ s.m.all → (c'.b b.toNat).l = (c.b b.toNat).l := fun b hb => by
    have := hr b hb
    obtain ⟨n, rfl⟩ := Int.eq_ofNat_of_zero_le (show 0 ≤ b by omega)
    exact hk n hb
  obtain ⟨es, hl⟩ := h.log
  exact ⟨h.fault, tabsAt_keep h.tabs fun b hb => hk' b (by simp only [Man.all, List.mem_cons]; exact .inr hb), ⟨es, hl.keep (hk' _ (by simp [Man.all]))⟩, hw, h.nwl, h.odl, h.old, h.rows, h.trows⟩
theorem Body.at_ (h : Body c s) (a : Int) : Body c { s with at_ := a } := ⟨h.fault, h.tabs, h.log, h.weak, h.nwl, h.odl, h.old, h.rows, h.trows⟩
theorem Inv.rises (h : Inv c s) : Rises s.rows := rises_rows h.body.mem h.body.tab
theorem weaks_restart (c : Chip) (how : Int) : weaks (c.restart how) = weaks c := by
  unfold weaks
  congr 1
  funext i
  rw [(restart_flags c how i).1]
/-- A fall in a block that is free changes nothing of the store. -/
theorem fall_free {c c' : Chip} {s : SM} (h : Inv c s) (hw : CWf c') (hx : Ext s.m.all c c') (hd : c'.down = true) {p : Pend} (hp : c'.pend = some p) (h1 : (p.blk : Int) ∉ s.m.all) (h2 : 2 ≤ p.blk) (b : List Ent) : Fallen s.m.ep s.rows b c' := by
  refine ⟨hw, hd, fun how => ⟨s, ⟨hw.restart_ how, rfl, ?_, ?_⟩, .inl rfl, Int.le_refl _⟩⟩
  · exact h.head.same (by rw [restart_far hp how (show 0 ≠ p.blk by omega), hx.keep 0 (.inr (by omega))]) (by rw [restart_far hp how (show 1 ≠ p.blk by omega), hx.keep 1 (.inr (by omega))])
  · refine h.body.keep (fun i hi => ?_) ?_
    · rw [restart_far hp how (fun e => h1 (by rw [← e]; exact hi)), hx.keep i (.inl hi)]
    · rw [weaks_restart, weaks_ext hx]; exact h.body.weak
end
end Go.Proofs.Ytaepdbkfaoiimab
/- Plain: what each of a store's functions leaves: done, or fallen. Conditions: none but those that each names. -/
set_option linter.unusedVariables false
set_option linter.unusedSimpArgs false
namespace Go.Proofs.Ytaepdbkfaoiimab
open Go.RowKit

/-- Blocks stay weak, or not; what is bad stays so; wear grows by so much at most. -/
structure Grew (c c' : Chip) (K : Int) : Prop where
  weak : ∀ i, (c'.b i).weak = (c.b i).weak
  bad : ∀ i, (c.b i).bad = true → (c'.b i).bad = true
  wear : ∀ X, 0 ≤ X → X + K ≤ 1000000000 → (∀ i, 2 ≤ i → 0 ≤ (c.b i).wear ∧ (c.b i).wear ≤ X) → ∀ i, 2 ≤ i → 0 ≤ (c'.b i).wear ∧ (c'.b i).wear ≤ X + K
section
variable {c c' c2 : Chip} {K L : Int}
theorem Grew.refl (c : Chip) : Grew c c 0 := ⟨fun _ => rfl, fun _ h => h, fun X h0 h1 h i hi => by have := h i hi; omega⟩
theorem Grew.mono (h : Grew c c' K) (hK : K ≤ L) : Grew c c' L := ⟨h.weak, h.bad, fun X h0 h1 hx i hi => by have := h.wear X h0 (by omega) hx i hi; omega⟩
theorem Grew.trans (h : Grew c c' K) (k : Grew c' c2 L) (h0 : 0 ≤ K) (h1 : 0 ≤ L) : Grew c c2 (K + L) :=
  ⟨fun i => (k.weak i).trans (h.weak i), fun i hi => k.bad i (h.bad i hi), fun X hX hb hx i hi => by
    have := k.wear (X + K) (by omega) (by omega) (h.wear X hX (by omega) hx) i hi
    omega⟩
theorem Grew.weaks (h : Grew c c' K) : weaks c' = Go.Proofs.Ytaepdbkfaoiimab.weaks c := by
  unfold Go.Proofs.Ytaepdbkfaoiimab.weaks
  congr 1
  funext i
  rw [h.weak]
theorem grew_wear1 {used : List Int} (h : Ext used c c') (hw : Wear1 c c') : Grew c c' 1 :=
  ⟨h.weak, h.bad, fun X h0 h1 hx i hi => by
    have := hx i hi
    rcases hw i with e | e
    · rw [e]; omega
    · rw [e, w64 _ (by omega) (by omega)]; omega⟩
/-- Blocks from the third one on are as they were. -/
theorem grew_same (hw : ∀ i, (c'.b i).weak = (c.b i).weak ∧ (c'.b i).bad = (c.b i).bad) (h2 : ∀ i, 2 ≤ i → c'.b i = c.b i) : Grew c c' 0 :=
  ⟨fun i => (hw i).1, fun i h => by rw [(hw i).2]; exact h, fun X h0 h1 hx i hi => by rw [h2 i hi]; have := hx i hi; omega⟩
theorem Fallen.mono {ep ep' : Int} {a b : List Ent} (h : Fallen ep a b c) (he : ep ≤ ep') : Fallen ep' a b c :=
  ⟨h.wf, h.down, fun how => by obtain ⟨s, h1, h2, h3⟩ := h.back how; exact ⟨s, h1, h2, by omega⟩⟩
theorem Fallen.or {ep : Int} {a : List Ent} (h : Fallen ep a a c) (b : List Ent) : Fallen ep a b c :=
  ⟨h.wf, h.down, fun how => by obtain ⟨s, h1, h2, h3⟩ := h.back how; exact ⟨s, h1, .inl (h2.elim id id), h3⟩⟩
end

/-- A manifest is noted, of what stands in the blocks. -/
theorem noted {c c1 : Chip} {s : SM} {m0 : Man} {mem' : List Ent} {tabs' : List (List Ent)} (h : Inv c s) (w1 : CWf c1) (d1 : c1.down = false) (x : Ext s.m.all c c1) (hb1 : Body c1 ⟨{ m0 with ep := s.m.ep + 1 }, 0, mem', tabs'⟩) :
    ∃ c2 s2 n, noteM c1 s m0 = (c2, s2, n) ∧ (c1.fuse < 0 → n = 0 ∧ c2.fuse < 0) ∧
      ((n = 0 ∧ ∃ a, s2 = { s with m := { m0 with ep := s.m.ep + 1 }, at_ := a } ∧ Inv c2 ⟨{ m0 with ep := s.m.ep + 1 }, a, mem', tabs'⟩ ∧ (∀ i, 2 ≤ i → c2.b i = c1.b i) ∧ Grew c1 c2 0) ∨
       (n = 9 ∧ Fallen (s.m.ep + 1) s.rows (rowsOf mem' tabs') c2)) := by
  have hd1 : Head c1 s.m s.at_ := h.head.same (by rw [x.keep 0 (.inr (by omega))]) (by rw [x.keep 1 (.inr (by omega))])
  obtain ⟨c2, a, k, e, w2, k2, f2, u2, g2⟩ := note_calm w1 d1 hd1 hb1.fault (show s.m.ep < s.m.ep + 1 by omega)
  have hg : Grew c1 c2 0 := grew_same f2 k2
  have hwk : weaks c2 ≤ 6 := by rw [hg.weaks]; exact hb1.weak
  unfold noteM
  rw [e]
  simp only
  rcases g2 with ⟨rfl, d2, h2⟩ | ⟨rfl, d2, h2⟩
  · rw [if_pos rfl]
    refine ⟨_, _, _, rfl, u2, .inl ⟨rfl, a, rfl, ⟨w2, d2, h2, ?_⟩, k2, hg⟩⟩
    refine (hb1.keep (fun i hi => ?_) hwk).at_ a
    have := hb1.rng _ hi
    rw [k2 i (by omega)]
  · rw [if_neg (by simp)]
    refine ⟨_, _, _, rfl, fun hf => absurd (u2 hf).1 (by omega), .inr ⟨rfl, w2, d2, fun how => ?_⟩⟩
    obtain ⟨h3, h4⟩ := h2 how
    rcases h4 with h4 | ⟨a2, h4⟩
    · refine ⟨s, ⟨w2.restart_ how, rfl, h4, ?_⟩, .inl rfl, by omega⟩
      refine h.body.keep (fun i hi => ?_) (by rw [weaks_restart]; exact hwk)
      have := h.body.rng _ hi
      rw [h3 i (by omega), x.keep i (.inl hi)]
    · refine ⟨⟨{ m0 with ep := s.m.ep + 1 }, a2, mem', tabs'⟩, ⟨w2.restart_ how, rfl, h4, ?_⟩, .inr rfl, Int.le_refl _⟩
      refine (hb1.keep (fun i hi => ?_) (by rw [weaks_restart]; exact hwk)).at_ a2
      have := hb1.rng _ hi
      rw [h3 i (by omega)]
theorem faults_live {c : Chip} {s : SM} (h : Body c s) : ∀ e ∈ liveE (mergeAll s.tabs), faultE e = 0 := by
  intro e he
  obtain ⟨l, hl, hel⟩ := merge_mem (live_mem he).1
  exact chkT_all (tabF_parts (tabsAt_ok h.tabs l hl)).2.2 e hel
theorem ext_nil {used : List Int} {c c' : Chip} (h : Ext (used ++ []) c c') : Ext used c c' := by rw [List.append_nil] at h; exact h
theorem all_split {m : Man} (h : m.fault = 0) : m.log ∉ m.nw ++ m.od ∧ (m.nw ++ m.od).Nodup := by
  have := (fault_zero.1 h).2.2.2
  exact List.nodup_cons.1 this
/-- **Compact.** -/
theorem comp_calm {c : Chip} {s : SM} (h : Inv c s) (hep : s.m.ep + 1 ≤ 100000) :
    ∃ c' s' n, compM c s = (c', s', n) ∧ (c.fuse < 0 → n = 0 ∧ c'.fuse < 0) ∧
      ((n = 0 ∧ Inv c' s' ∧ s'.rows = s.rows ∧ s'.m.ep = s.m.ep + 1 ∧ Grew c c' 1 ∧ s'.mem = s.mem ∧ s'.m.nw = [] ∧ s'.m.log = s.m.log ∧ (∀ i : Nat, (i : Int) = s.m.log → c'.b i = c.b i) ∧ s'.tabs = parts 14 (liveE (mergeAll s.tabs))) ∨
       (n = 9 ∧ Fallen (s.m.ep + 1) s.rows s.rows c')) := by
  have hb := h.body
  have hlr := rises_live (rises_mergeAll hb.tab)
  have hpl : (parts 14 (liveE (mergeAll s.tabs))).length ≤ 3 := by
    have := hb.trows
    rw [parts_len]
    omega
  obtain ⟨c1, o, n1, e1, w1, x1, f1, g1⟩ := tables_calm s.m.all (parts 14 (liveE (mergeAll s.tabs))) c [] h.wf h.up hb.weak (by
    have := hb.nwl; have := hb.odl
    simp [Man.all]; omega) (parts_ok hlr (faults_live hb))
  unfold compM
  rw [e1]
  simp only
  rcases g1 with ⟨rfl, d1, nw, hnwo, t1, u1, m1, v1, y1⟩ | ⟨rfl, d1, p, p1, p2, p3⟩
  · rw [if_neg (by simp)]
    have x1' := ext_nil x1
    rw [List.nil_append] at hnwo
    have hnwo := hnwo.symm
    subst hnwo
    have hf := fault_zero.1 hb.fault
    have hfl : (parts 14 (liveE (mergeAll s.tabs))).flatten = liveE (mergeAll s.tabs) := parts_flat (by omega) _
    have hb1 : Body c1 ⟨{ (⟨0, s.m.log, [], nw⟩ : Man) with ep := s.m.ep + 1 }, 0, s.mem, parts 14 (liveE (mergeAll s.tabs))⟩ := by
      obtain ⟨es, hl⟩ := hb.log
      refine ⟨fault_zero.2 ⟨by show 1 ≤ s.m.ep + 1; omega, hep, ?_, ?_⟩, t1, ⟨es, hl.keep ?_⟩, by rw [weaks_ext x1]; exact hb.weak, by simp, ?_, ⟨by simpa [hfl] using hlr, ?_⟩, ?_, ?_⟩
      · intro b hbm
        simp [Man.all] at hbm
        rcases hbm with rfl | hbm
        · exact hb.rng _ (by simp [Man.all])
        · exact ⟨(m1 b hbm).2.1, (m1 b hbm).2.2.1⟩
      · refine List.nodup_cons.2 ⟨fun hm => ?_, by simpa using u1⟩
        have := (m1 _ (by simpa using hm)).1
        simp [Man.all] at this
      · have := hb.rng s.m.log (by simp [Man.all])
        rw [x1'.keep s.m.log.toNat (.inl (by rw [Int.toNat_of_nonneg (by omega)]; simp [Man.all]))]
      · show nw.length ≤ 3
        rw [tabsAt_len t1]; exact hpl
      · show ∀ e ∈ (parts 14 (liveE (mergeAll s.tabs))).flatten, e.g = false
        rw [hfl]
        exact fun e he => (live_mem he).2
      · show (rowsOf s.mem (parts 14 (liveE (mergeAll s.tabs)))).length ≤ 40
        rw [rows_compact hb.mem hb.tab hfl]
        exact hb.rows
      · show (liveE (mergeAll (parts 14 (liveE (mergeAll s.tabs))))).length ≤ 40
        rw [mergeAll_chunks (by rw [hfl]; exact hlr), hfl, live_live]
        exact hb.trows
    obtain ⟨c2, s2, n2, e2, f2, g2⟩ := noted h w1 d1 x1' hb1
    rw [e2]
    simp only
    rcases g2 with ⟨rfl, a, rfl, i2, k2, r2⟩ | ⟨rfl, fl⟩
    · rw [if_pos rfl]
      refine ⟨_, _, _, rfl, fun hf => f2 (f1 hf).2, .inl ⟨rfl, i2, rows_compact hb.mem hb.tab hfl, rfl, ((grew_wear1 x1' y1).trans r2 (by omega) (by omega)).mono (by omega), rfl, rfl, rfl, fun i hi => ?_, rfl⟩⟩
      have := hb.rng s.m.log (by simp [Man.all])
      rw [k2 i (by omega), x1'.keep i (.inl (by rw [hi]; simp [Man.all]))]
    · rw [if_neg (by simp)]
      refine ⟨_, _, _, rfl, fun hf => absurd (f2 (f1 hf).2).1 (by omega), .inr ⟨rfl, ?_⟩⟩
      rw [rows_compact hb.mem hb.tab hfl] at fl
      exact fl
  · rw [if_pos (by simp)]
    exact ⟨_, _, _, rfl, fun hf => absurd (f1 hf).1 (by omega), .inr ⟨rfl, (fall_free h w1 (ext_nil x1) d1 p1 p2 p3 _).mono (by omega)⟩⟩
theorem Fallen.mem_len {c : Chip} {s : SM} (h : Inv c s) : s.mem.length ≤ 32 := by
  obtain ⟨es, hl⟩ := h.body.log
  have := h.body.rng s.m.log (by simp [Man.all])
  exact hl.len h.wf (by omega)
/-- **What is at hand is laid.** -/
theorem lay_calm {c : Chip} {s : SM} (h : Inv c s) (hep : s.m.ep + 1 ≤ 100000) (hnw : s.m.nw.length ≤ 2) :
    ∃ c' s' n, layM c s = (c', s', n) ∧ (c.fuse < 0 → n = 0 ∧ c'.fuse < 0) ∧
      ((n = 0 ∧ Inv c' s' ∧ s'.rows = s.rows ∧ s'.m.ep = s.m.ep + 1 ∧ Grew c c' 2 ∧ s'.mem = [] ∧ s'.tabs = parts 14 s.mem ++ s.tabs ∧
          (∃ q : Nat, s'.m.log = q ∧ (c'.b q).l = [] ∧ (c'.b q).weak = false ∧ (c.b q).bad = false) ∧ (∀ b ∈ s'.m.nw, b ∈ s.m.nw ∨ (c.b b.toNat).bad = false)) ∨
       (n = 9 ∧ Fallen (s.m.ep + 1) s.rows s.rows c')) := by
  have hb := h.body
  have hml := Fallen.mem_len h
  obtain ⟨es, hlog⟩ := hb.log
  have hpl : (parts 14 s.mem).length ≤ 3 := by rw [parts_len]; omega
  obtain ⟨c1, o, n1, e1, w1, x1, f1, g1⟩ := tables_calm s.m.all (parts 14 s.mem) c [] h.wf h.up hb.weak (by
    have := hb.odl
    simp [Man.all]; omega) (parts_ok hb.mem hlog.fault)
  unfold layM
  rw [e1]
  simp only
  rcases g1 with ⟨rfl, d1, nw, hnwo, t1, u1, m1, v1, y1⟩ | ⟨rfl, d1, p, p1, p2, p3⟩
  · rw [if_neg (by simp)]
    have x1' := ext_nil x1
    rw [List.nil_append] at hnwo
    have hnwo := hnwo.symm
    subst hnwo
    have hnl : nw.length ≤ 3 := by rw [tabsAt_len t1]; exact hpl
    have hwk1 : weaks c1 ≤ 6 := by rw [weaks_ext x1]; exact hb.weak
    obtain ⟨c2, b, n2, e2, w2, x2, f2, g2⟩ := seek_calm lays_erase (s.m.all ++ nw) 25 c1 (by have := goods_le c1; omega) w1 d1 (block_left w1 hwk1 (by
      have := hb.odl
      simp [Man.all]; omega))
    have x12 : Ext s.m.all c c2 := x1'.trans x2 (fun i hi => by simp [hi])
    unfold blankM
    rw [e2]
    simp only
    rcases g2 with ⟨rfl, d2, q2, q, rfl, q3, q4, q5, q6, q7, q8, q9⟩ | ⟨rfl, d2, p, p1, p2, p3⟩
    · rw [if_neg (by simp)]
      have hfl : (parts 14 s.mem).flatten = s.mem := parts_flat (by omega) _
      have hf := fault_zero.1 hb.fault
      have hsp := all_split hb.fault
      have hq1 : (q : Int) ∉ s.m.all := fun hm => q5 (by simp [hm])
      have hq2 : (q : Int) ∉ nw := fun hm => q5 (by simp [hm])
      have hqb : (c.b q).bad = false := by
        cases hbd : (c.b q).bad
        · rfl
        · rw [x1.bad _ hbd] at q7; cases q7
      have hg2 : Grew c1 c2 1 := grew_wear1 x2 (fun i => by
        rw [q9 i]; split
        · exact .inr rfl
        · exact .inl rfl)
      have hkeep : ∀ b ∈ nw, (c2.b b.toNat).l = (c1.b b.toNat).l := fun b hb' => by
        have := m1 b hb'
        rw [x2.keep b.toNat (.inl (by rw [Int.toNat_of_nonneg (by omega)]; simp [hb']))]
      have hkeep2 : ∀ b ∈ s.m.nw ++ s.m.od, (c2.b b.toNat).l = (c.b b.toNat).l := fun b hb' => by
        have hm : b ∈ s.m.all := by simp only [Man.all, List.mem_cons]; exact .inr hb'
        have := hb.rng b hm
        rw [x12.keep b.toNat (.inl (by rw [Int.toNat_of_nonneg (by omega)]; exact hm))]
      have hb2 : Body c2 ⟨{ (⟨0, (q : Int), nw ++ s.m.nw, s.m.od⟩ : Man) with ep := s.m.ep + 1 }, 0, [], parts 14 s.mem ++ s.tabs⟩ := by
        refine ⟨fault_zero.2 ⟨by show 1 ≤ s.m.ep + 1; omega, hep, ?_, ?_⟩, ?_, ⟨[], ?_, rfl, by simp, by simp⟩, by rw [weaks_ext x12]; exact hb.weak, ?_, hb.odl, ?_, ?_, ?_⟩
        · intro b hbm
          simp only [Man.all, List.mem_cons, List.mem_append] at hbm
          rcases hbm with rfl | (hbm | hbm) | hbm
          · omega
          · exact ⟨(m1 b hbm).2.1, (m1 b hbm).2.2.1⟩
          · exact hb.rng _ (by simp [Man.all, hbm])
          · exact hb.rng _ (by simp [Man.all, hbm])
        · refine List.nodup_cons.2 ⟨fun hm => ?_, ?_⟩
          · simp only [List.mem_append] at hm
            rcases hm with (hm | hm) | hm
            · exact hq2 hm
            · exact hq1 (by simp [Man.all, hm])
            · exact hq1 (by simp [Man.all, hm])
          · show ((nw ++ s.m.nw) ++ s.m.od).Nodup
            rw [List.append_assoc, List.nodup_append]
            refine ⟨u1, hsp.2, fun a ha b hb' e => ?_⟩
            subst e
            exact (m1 a ha).1 (by simp only [List.append_nil, Man.all, List.mem_cons]; exact .inr hb')
        · show TabsAt c2 ((nw ++ s.m.nw) ++ s.m.od) (parts 14 s.mem ++ s.tabs)
          rw [List.append_assoc]
          exact tabsAt_app (tabsAt_keep t1 hkeep) (tabsAt_keep hb.tabs hkeep2)
        · show logE (c2.b ((q : Int).toNat)).l = some []
          rw [Int.toNat_natCast, q6]; rfl
        · show (nw ++ s.m.nw).length ≤ 5
          rw [List.length_append]; omega
        · show Rises ((parts 14 s.mem ++ s.tabs).drop (nw ++ s.m.nw).length).flatten ∧ _
          have e : (parts 14 s.mem ++ s.tabs).drop (nw ++ s.m.nw).length = s.tabs.drop s.m.nw.length := by
            rw [List.length_append, tabsAt_len t1, ← List.drop_drop, List.drop_left]
          have e' : ∀ e' ∈ ((parts 14 s.mem ++ s.tabs).drop (nw ++ s.m.nw).length).flatten, e'.g = false := by rw [e]; exact hb.old.2
          exact ⟨by rw [e]; exact hb.old.1, e'⟩
        · show (rowsOf [] (parts 14 s.mem ++ s.tabs)).length ≤ 40
          rw [rows_flush' hb.mem hb.tab hfl]
          exact hb.rows
        · show (liveE (mergeAll (parts 14 s.mem ++ s.tabs))).length ≤ 40
          rw [rows_flush hb.mem hb.tab hfl]
          exact hb.rows
      obtain ⟨c3, s3, n3, e3, f3, g3⟩ := noted h w2 d2 x12 hb2
      rw [e3]
      simp only
      rcases g3 with ⟨rfl, a, rfl, i3, k3, r3⟩ | ⟨rfl, fl⟩
      · rw [if_pos rfl]
        refine ⟨_, _, _, rfl, fun hf => f3 (f2 (f1 hf).2).2, .inl ⟨rfl, i3, rows_flush' hb.mem hb.tab hfl, rfl, (((grew_wear1 x1' y1).trans hg2 (by omega) (by omega)).trans r3 (by omega) (by omega)).mono (by omega), rfl, rfl, ⟨q, rfl, by rw [k3 q q3, q6], by rw [k3 q q3, q8], hqb⟩, fun b hbm => ?_⟩⟩
        rcases List.mem_append.1 hbm with hbm | hbm
        · exact .inr (m1 b hbm).2.2.2
        · exact .inl hbm
      · rw [if_neg (by simp)]
        refine ⟨_, _, _, rfl, fun hf => absurd (f3 (f2 (f1 hf).2).2).1 (by omega), .inr ⟨rfl, ?_⟩⟩
        rw [rows_flush' hb.mem hb.tab hfl] at fl
        exact fl
    · rw [if_pos (by simp)]
      exact ⟨_, _, _, rfl, fun hf => absurd (f2 (f1 hf).2).1 (by omega), .inr ⟨rfl, (fall_free h w2 x12 d2 p1 (fun hm => p2 (by simp [hm])) p3 _).mono (by omega)⟩⟩
  · rw [if_pos (by simp)]
    exact ⟨_, _, _, rfl, fun hf => absurd (f1 hf).1 (by omega), .inr ⟨rfl, (fall_free h w1 (ext_nil x1) d1 p1 p2 p3 _).mono (by omega)⟩⟩
end Go.Proofs.Ytaepdbkfaoiimab
/- Plain: Flush, Write, Format: what they leave. Conditions: none but those that each names. -/
set_option linter.unusedVariables false
set_option linter.unusedSimpArgs false
namespace Go.Proofs.Ytaepdbkfaoiimab
open Go.RowKit

theorem few_calm {c : Chip} {s : SM} (h : Inv c s) (hep : s.m.ep + 1 ≤ 100000) :
    ∃ c' s' n, fewM c s = (c', s', n) ∧ (c.fuse < 0 → n = 0 ∧ c'.fuse < 0) ∧
      ((n = 0 ∧ Inv c' s' ∧ s'.rows = s.rows ∧ s.m.ep ≤ s'.m.ep ∧ s'.m.ep ≤ s.m.ep + 1 ∧ Grew c c' 1 ∧ s'.mem = s.mem ∧ s'.m.nw.length ≤ 2 ∧ (∀ b ∈ s'.m.nw, b ∈ s.m.nw) ∧ s'.m.log = s.m.log ∧ (∀ i : Nat, (i : Int) = s.m.log → c'.b i = c.b i)) ∨
       (n = 9 ∧ Fallen (s.m.ep + 1) s.rows s.rows c')) := by
  unfold fewM
  by_cases h3 : s.m.nw.length < 3
  · rw [if_pos h3]
    exact ⟨_, _, _, rfl, fun hf => ⟨rfl, hf⟩, .inl ⟨rfl, h, rfl, by omega, by omega, (Grew.refl c).mono (by omega), rfl, by omega, fun b hb => hb, rfl, fun _ _ => rfl⟩⟩
  · rw [if_neg h3]
    obtain ⟨c', s', n, e, f, g⟩ := comp_calm h hep
    refine ⟨c', s', n, e, f, ?_⟩
    rcases g with ⟨h1, h2, h3, h4, h5, h6, h7, h8, h9, h10⟩ | g
    · exact .inl ⟨h1, h2, h3, by omega, by omega, h5, h6, by rw [h7]; simp, by rw [h7]; simp, h8, h9⟩
    · exact .inr g
/-- **Flush.** -/
theorem flush_calm {c : Chip} {s : SM} (h : Inv c s) (hep : s.m.ep + 3 ≤ 100000) :
    ∃ c' s' n, flushM c s = (c', s', n) ∧ (c.fuse < 0 → n = 0 ∧ c'.fuse < 0) ∧
      ((n = 0 ∧ Inv c' s' ∧ s'.rows = s.rows ∧ s.m.ep ≤ s'.m.ep ∧ s'.m.ep ≤ s.m.ep + 3 ∧ Grew c c' 4 ∧ s'.mem = [] ∧ s'.m.nw.length ≤ 2 ∧
          (∃ q : Nat, s'.m.log = q ∧ (c'.b q).l = [] ∧ (c'.b q).weak = false ∧ (c.b q).bad = false) ∧ (∀ b ∈ s'.m.nw, b ∈ s.m.nw ∨ (c.b b.toNat).bad = false)) ∨
       (n = 9 ∧ Fallen (s.m.ep + 3) s.rows s.rows c')) := by
  obtain ⟨c1, s1, n1, e1, f1, g1⟩ := few_calm h (by omega)
  unfold flushM
  rw [e1]
  simp only
  rcases g1 with ⟨rfl, i1, r1, a1, b1, k1, m1, w1, v1, _, _⟩ | ⟨rfl, fl⟩
  · rw [if_neg (by simp)]
    obtain ⟨c2, s2, n2, e2, f2, g2⟩ := lay_calm i1 (by omega) w1
    rw [e2]
    simp only
    rcases g2 with ⟨rfl, i2, r2, a2, k2, m2, _, ⟨q, q1, q2, q3, q4⟩, v2⟩ | ⟨rfl, fl⟩
    · rw [if_neg (by simp)]
      obtain ⟨c3, s3, n3, e3, f3, g3⟩ := few_calm i2 (by omega)
      refine ⟨c3, s3, n3, e3, fun hf => f3 (f2 (f1 hf).2).2, ?_⟩
      rcases g3 with ⟨rfl, i3, r3, a3, b3, k3, m3, w3, v3, l3, o3⟩ | ⟨rfl, fl⟩
      · refine .inl ⟨rfl, i3, by rw [r3, r2, r1], by omega, by omega, ((k1.trans k2 (by omega) (by omega)).trans k3 (by omega) (by omega)).mono (by omega), by rw [m3, m2], w3, ⟨q, by rw [l3, q1], by rw [o3 q q1.symm, q2], by rw [o3 q q1.symm, q3], ?_⟩, fun b hb => ?_⟩
        · cases hb : (c.b q).bad
          · rfl
          · rw [k1.bad _ hb] at q4; cases q4
        · rcases v2 b (v3 b hb) with h' | h'
          · exact .inl (v1 b h')
          · right
            cases hb : (c.b b.toNat).bad
            · rfl
            · rw [k1.bad _ hb] at h'; cases h'
      · refine .inr ⟨rfl, ?_⟩
        rw [r2, r1] at fl
        exact fl.mono (by omega)
    · rw [if_pos (by simp)]
      refine ⟨_, _, _, rfl, fun hf => absurd (f2 (f1 hf).2).1 (by omega), .inr ⟨rfl, ?_⟩⟩
      rw [r1] at fl
      exact fl.mono (by omega)
  · rw [if_pos (by simp)]
    exact ⟨_, _, _, rfl, fun hf => absurd (f1 hf).1 (by omega), .inr ⟨rfl, fl.mono (by omega)⟩⟩
theorem room_calm {c : Chip} {s : SM} (h : Inv c s) (hep : s.m.ep + 3 ≤ 100000) :
    ∃ c' s' n, roomM c s = (c', s', n) ∧ (c.fuse < 0 → n = 0 ∧ c'.fuse < 0) ∧
      ((n = 0 ∧ Inv c' s' ∧ s'.rows = s.rows ∧ s.m.ep ≤ s'.m.ep ∧ s'.m.ep ≤ s.m.ep + 3 ∧ Grew c c' 4 ∧ (s.m.nw.length ≤ 2 → s'.m.nw.length ≤ 2) ∧ (c'.b s'.m.log.toNat).l.length < 8 ∧ ((c.b s.m.log.toNat).weak = false → (c'.b s'.m.log.toNat).weak = false)) ∨
       (n = 9 ∧ Fallen (s.m.ep + 3) s.rows s.rows c')) := by
  unfold roomM
  by_cases h8 : (c.b s.m.log.toNat).l.length < 8
  · rw [if_pos h8]
    exact ⟨_, _, _, rfl, fun hf => ⟨rfl, hf⟩, .inl ⟨rfl, h, rfl, by omega, by omega, (Grew.refl c).mono (by omega), id, h8, id⟩⟩
  · rw [if_neg h8]
    obtain ⟨c', s', n, e, f, g⟩ := flush_calm h hep
    refine ⟨c', s', n, e, f, ?_⟩
    rcases g with ⟨h1, h2, h3, h4, h5, h6, h7, h8, ⟨q, q1, q2, q3, q4⟩, h10⟩ | g
    · exact .inl ⟨h1, h2, h3, h4, h5, h6, fun _ => h8, by rw [q1, Int.toNat_natCast, q2]; simp, fun _ => by rw [q1, Int.toNat_natCast, q3]⟩
    · exact .inr g

theorem logE_snoc : ∀ (l : List Sheet) (x : Sheet) (es fs : List Ent), logE l = some es → logE [x] = some fs → logE (l ++ [x]) = some (es ++ fs)
  | [], x, es, fs, h1, h2 => by cases h1; exact h2
  | y :: l, x, es, fs, h1, h2 => by
    rw [List.cons_append]
    unfold logE at h1 ⊢
    split
    · rename_i ht
      rw [if_pos ht] at h1
      exact logE_snoc l x es fs h1 h2
    · rename_i ht
      rw [if_neg ht] at h1
      cases hp : parseR y.d with
      | none => rw [hp] at h1; simp at h1
      | some gs =>
        cases hl : logE l with
        | none => rw [hp, hl] at h1; simp at h1
        | some hs =>
          rw [hp, hl] at h1
          cases h1
          rw [logE_snoc l x hs fs hl h2, List.append_assoc]
theorem log_torn (l : List Sheet) (es : List Ent) (h : logE l = some es) : logE (l ++ [torn]) = some es := by
  have := logE_snoc l torn es [] h rfl
  rw [List.append_nil] at this
  exact this
theorem bytesF_parts {l : List Ent} (h : bytesF l = 0) : (∀ e ∈ l, faultE e = 0) ∧ (bytesL l.length l).size ≤ 64 := by
  unfold bytesF at h
  have hff : ff l = 0 := by
    by_cases h0 : ff l = 0
    · exact h0
    · rw [if_neg h0] at h; exact h
  rw [if_pos hff] at h
  refine ⟨?_, ?_⟩
  · clear h
    induction l with
    | nil => simp
    | cons e l ih =>
      unfold ff at hff
      split at hff
      · rename_i he
        intro x hx
        rcases List.mem_cons.1 hx with rfl | hx
        · exact he
        · exact ih hff x hx
      · rename_i he; exact absurd hff he
  · split at h
    · cases h
    · omega
theorem log_data {l : List Ent} (h : bytesF l = 0) (hl : l.length ≤ 4) : logE [⟨pad (bytesL l.length l), false⟩] = some l := by
  have := parse_bytes l (bytesF_parts h).1 (by omega) (s := pad (bytesL l.length l)) (k := 64 - (bytesL l.length l).size) pad_data
  unfold logE
  rw [if_neg (by simp), this, logE]
  simp
/-- A batch stands in the log. -/
theorem log_next {c c' : Chip} {s : SM} {l : List Ent} (h : Body c s) (hl : l.length ≤ 4) (hf : bytesF l = 0) (hnew : (liveE (l.foldl putE s.rows)).length ≤ 40)
    (hk : ∀ b : Nat, (b : Int) ∈ s.m.all → (b : Int) ≠ s.m.log → (c'.b b).l = (c.b b).l) (hlog : (c'.b s.m.log.toNat).l = (c.b s.m.log.toNat).l ++ [⟨pad (bytesL l.length l), false⟩]) (hw : weaks c' ≤ 6) : Body c' { s with mem := l.foldl putE s.mem } := by
  obtain ⟨es, hes⟩ := h.log
  have hsp := all_split h.fault
  refine ⟨h.fault, tabsAt_keep h.tabs fun b hb => ?_, ⟨es ++ l, ?_, ?_, ?_, ?_⟩, hw, h.nwl, h.odl, h.old, ?_, h.trows⟩
  · have hm : b ∈ s.m.all := by simp only [Man.all, List.mem_cons]; exact .inr hb
    have := h.rng b hm
    obtain ⟨n, rfl⟩ := Int.eq_ofNat_of_zero_le (show 0 ≤ b by omega)
    exact hk n hm fun e => hsp.1 (e ▸ hb)
  · show logE (c'.b s.m.log.toNat).l = _
    rw [hlog]
    exact logE_snoc _ _ _ _ hes.read (log_data hf hl)
  · show l.foldl putE s.mem = _
    rw [hes.mem, List.foldl_append]
  · show (es ++ l).length ≤ 4 * (c'.b s.m.log.toNat).l.length
    rw [hlog, List.length_append, List.length_append, List.length_singleton]
    have := hes.few
    omega
  · intro e he
    rcases List.mem_append.1 he with he | he
    · exact hes.ok e he
    · exact (bytesF_parts hf).1 e he
  · show (rowsOf (l.foldl putE s.mem) s.tabs).length ≤ 40
    rw [rows_write l h.mem h.tab]
    exact hnew
theorem log_half {c c' : Chip} {s : SM} (h : Body c s)
    (hk : ∀ b : Nat, (b : Int) ∈ s.m.all → (b : Int) ≠ s.m.log → (c'.b b).l = (c.b b).l) (hlog : (c'.b s.m.log.toNat).l = (c.b s.m.log.toNat).l ++ [torn]) (hw : weaks c' ≤ 6) : Body c' s := by
  obtain ⟨es, hes⟩ := h.log
  have hsp := all_split h.fault
  refine ⟨h.fault, tabsAt_keep h.tabs fun b hb => ?_, ⟨es, ?_, hes.mem, ?_, hes.ok⟩, hw, h.nwl, h.odl, h.old, h.rows, h.trows⟩
  · have hm : b ∈ s.m.all := by simp only [Man.all, List.mem_cons]; exact .inr hb
    have := h.rng b hm
    obtain ⟨n, rfl⟩ := Int.eq_ofNat_of_zero_le (show 0 ≤ b by omega)
    exact hk n hm fun e => hsp.1 (e ▸ hb)
  · rw [hlog]; exact log_torn _ _ hes.read
  · rw [hlog, List.length_append, List.length_singleton]
    have := hes.few
    omega
/-- What the step on the log leaves, where it has room. -/
theorem logw_calm {c : Chip} {s : SM} {l : List Ent} (h : Inv c s) (hl : l.length ≤ 4) (hf : bytesF l = 0) (hnew : (liveE (l.foldl putE s.rows)).length ≤ 40) (h8 : (c.b s.m.log.toNat).l.length < 8) :
    ∃ c' n, c.write s.m.log (bytesL l.length l) = (c', n) ∧ (c.fuse < 0 → n ≠ 9 ∧ c'.fuse < 0) ∧
      ((n = 0 ∧ Inv c' { s with mem := l.foldl putE s.mem } ∧ Grew c c' 0 ) ∨ (n = 7 ∧ (c.b s.m.log.toNat).weak = true ∧ Inv c' s ∧ Grew c c' 0) ∨ (n = 9 ∧ Fallen s.m.ep s.rows (liveE (l.foldl putE s.rows)) c')) := by
  have hr := h.body.rng s.m.log (by simp [Man.all])
  obtain ⟨q, hq⟩ := Int.eq_ofNat_of_zero_le (show 0 ≤ s.m.log by omega)
  rw [hq] at hr
  rw [hq, Int.toNat_natCast] at h8
  have hqt : s.m.log.toNat = q := by rw [hq]; rfl
  have hsz := (bytesF_parts hf).2
  rw [hqt, hq]
  by_cases hbad : (c.b q).bad = true
  · have e : c.write q (bytesL l.length l) = (c, 7) := by
      have hrd : c.ready q = 7 := by unfold Chip.ready; rw [h.up, if_neg (by simp), if_neg (by omega), Int.toNat_natCast, hbad, if_pos rfl]
      unfold Chip.write
      rw [hrd, if_pos (by simp)]
    exact ⟨_, _, e, fun hfu => ⟨by simp, hfu⟩, .inr (.inl ⟨rfl, h.wf.bad q hbad, h, Grew.refl c⟩)⟩
  · have hbad : (c.b q).bad = false := by simpa using hbad
    cases hwk : (c.b q).weak
    · obtain ⟨c', n, e, s1, f1, g1⟩ := write_calm (c := c) (b := q) (by omega) h.up hbad hwk hsz h8
      have w1 : CWf c' := by have := h.wf.write_ (q : Int) (bytesL l.length l); rw [e] at this; exact this
      have hflag : ∀ i, (c'.b i).weak = (c.b i).weak ∧ (c'.b i).bad = (c.b i).bad := fun i => by
        by_cases hi : i = q
        · subst hi; exact ⟨s1.weak, s1.bad⟩
        · rw [s1.other i hi]; exact ⟨rfl, rfl⟩
      have hwks : ∀ {c2 : Chip}, (∀ i, (c2.b i).weak = (c.b i).weak) → weaks c2 ≤ 6 := fun {c2} h2 => by
        have e2 : weaks c2 = weaks c := by unfold weaks; congr 1; funext i; rw [h2]
        rw [e2]; exact h.body.weak
      refine ⟨c', n, e, fun hfu => ⟨by rw [(f1 hfu).1]; simp, (f1 hfu).2⟩, ?_⟩
      rcases g1 with ⟨rfl, d1, p1, l1, x1⟩ | ⟨rfl, d1, p1, b1⟩
      · refine .inl ⟨rfl, ⟨w1, d1, h.head.same (by rw [s1.other 0 (by omega)]) (by rw [s1.other 1 (by omega)]), ?_⟩, ⟨fun i => (hflag i).1, fun i hi => by rw [(hflag i).2]; exact hi, fun X hX hK hx i hi => ?_⟩⟩
        · refine log_next h.body hl hf hnew (fun b hb hne => ?_) (by rw [hqt]; exact l1) (hwks fun i => (hflag i).1)
          rw [s1.other b (fun e => hne (by rw [e, hq]))]
        · by_cases hi' : i = q
          · subst hi'; rw [x1]; have := hx i hi; omega
          · rw [s1.other i hi']; have := hx i hi; omega
      · refine .inr (.inr ⟨rfl, w1, d1, fun how => ?_⟩)
        have hfar : ∀ i, i ≠ q → (c'.restart how).b i = c.b i := fun i hi => by rw [restart_far p1 how hi, b1]
        have hrw : ∀ i, ((c'.restart how).b i).weak = (c.b i).weak := fun i => by rw [(restart_flags c' how i).1, b1]
        have hhead : Head (c'.restart how) s.m s.at_ := h.head.same (by rw [hfar 0 (by omega)]) (by rw [hfar 1 (by omega)])
        have hk : ∀ b : Nat, (b : Int) ∈ s.m.all → (b : Int) ≠ s.m.log → ((c'.restart how).b b).l = (c.b b).l := fun b hb hne => by rw [hfar b (fun e => hne (by rw [e, hq]))]
        rcases undone_cases p1 how with e2 | e2 | e2
        · refine ⟨s, ⟨w1.restart_ how, rfl, hhead, ?_⟩, .inl rfl, Int.le_refl _⟩
          exact h.body.keep (fun b hb => by rw [restart_b, e2, b1]) (hwks hrw)
        · refine ⟨s, ⟨w1.restart_ how, rfl, hhead, ?_⟩, .inl rfl, Int.le_refl _⟩
          refine log_half h.body hk ?_ (hwks hrw)
          rw [hqt, restart_b, e2]
          simp only [halfP, Chip.set_same, b1]
        · refine ⟨{ s with mem := l.foldl putE s.mem }, ⟨w1.restart_ how, rfl, hhead, ?_⟩, .inr (rows_write l h.body.mem h.body.tab), Int.le_refl _⟩
          refine log_next h.body hl hf hnew hk ?_ (hwks hrw)
          rw [hqt, restart_b, e2]
          simp only [doP, Chip.set_same, b1]
    · have e : c.write q (bytesL l.length l) = (c.spoil q, 7) := by
        have hrd : c.ready q = 0 := by unfold Chip.ready; rw [h.up, if_neg (by simp), if_neg (by omega), Int.toNat_natCast, hbad]; simp
        unfold Chip.write
        rw [hrd, if_neg (by simp), if_neg (by omega), Int.toNat_natCast, if_neg (by omega), hwk, if_pos rfl]
      obtain ⟨r1, r2, r3⟩ := spoil_rest c q
      have hl : ∀ i, ((c.spoil q).b i).l = (c.b i).l := fun i => (spoil_flags c q i).2.2.2
      have hg : Grew c (c.spoil q) 0 := ⟨fun i => (spoil_flags c q i).1, fun i => (spoil_flags c q i).2.2.1, fun X h0 h1 hx i hi => by rw [(spoil_flags c q i).2.1]; have := hx i hi; omega⟩
      exact ⟨_, _, e, fun hfu => ⟨by simp, by rw [r3]; exact hfu⟩, .inr (.inl ⟨rfl, rfl, ⟨h.wf.spoil_ q h.up, by rw [r1]; exact h.up, h.head.same (hl 0) (hl 1), h.body.keep (fun b _ => hl b) (by rw [hg.weaks]; exact h.body.weak)⟩, hg⟩)⟩
/-- A batch is noted. -/
theorem log_calm {c : Chip} {s : SM} {l : List Ent} (h : Inv c s) (hl : l.length ≤ 4) (hf : bytesF l = 0) (hnew : (liveE (l.foldl putE s.rows)).length ≤ 40) (hep : s.m.ep + 9 ≤ 100000) :
    ∃ c' s' n, logM (bytesL l.length l) 2 c s = (c', s', n) ∧ (c.fuse < 0 → n = 0 ∧ c'.fuse < 0) ∧
      ((n = 0 ∧ Inv c' { s' with mem := l.foldl putE s'.mem } ∧ rowsOf (l.foldl putE s'.mem) s'.tabs = liveE (l.foldl putE s.rows) ∧ s.m.ep ≤ s'.m.ep ∧ s'.m.ep ≤ s.m.ep + 9 ∧ Grew c c' 12 ∧ (s.m.nw.length ≤ 2 → s'.m.nw.length ≤ 2)) ∨
       (n = 9 ∧ Fallen (s.m.ep + 9) s.rows (liveE (l.foldl putE s.rows)) c')) := by
  obtain ⟨c1, s1, n1, e1, f1, g1⟩ := room_calm h (by omega)
  unfold logM
  rw [e1]
  simp only
  rcases g1 with ⟨rfl, i1, r1, a1, b1, k1, w1, l1, _⟩ | ⟨rfl, fl⟩
  · rw [if_neg (by simp)]
    obtain ⟨c2, n2, e2, f2, g2⟩ := logw_calm i1 hl hf (by rw [r1]; exact hnew) l1
    rw [e2]
    simp only
    rcases g2 with ⟨rfl, i2, k2⟩ | ⟨rfl, hw2, i2, k2⟩ | ⟨rfl, fl⟩
    · rw [if_pos (by simp)]
      refine ⟨_, _, _, rfl, fun hfu => ⟨rfl, (f2 (f1 hfu).2).2⟩, .inl ⟨rfl, i2, ?_, a1, by omega, (k1.trans k2 (by omega) (by omega)).mono (by omega), w1⟩⟩
      rw [rows_write l i1.body.mem i1.body.tab, ← r1]; rfl
    · rw [if_neg (by simp)]
      obtain ⟨c3, s3, n3, e3, f3, g3⟩ := flush_calm i2 (by omega)
      rw [e3]
      simp only
      rcases g3 with ⟨rfl, i3, r3, a3, b3, k3, m3, w3, ⟨q, q1, q2, q3, q4⟩, _⟩ | ⟨rfl, fl⟩
      · rw [if_neg (by simp)]
        unfold logM
        have e4 : roomM c3 s3 = (c3, s3, 0) := by unfold roomM; rw [q1, Int.toNat_natCast, q2, if_pos (by simp)]
        rw [e4]
        simp only
        rw [if_neg (by simp)]
        obtain ⟨c5, n5, e5, f5, g5⟩ := logw_calm i3 hl hf (by rw [r3, r1]; exact hnew) (by rw [q1, Int.toNat_natCast, q2]; simp)
        rw [e5]
        simp only
        rcases g5 with ⟨rfl, i5, k5⟩ | ⟨rfl, hw5, i5, k5⟩ | ⟨rfl, fl⟩
        · rw [if_pos (by simp)]
          refine ⟨_, _, _, rfl, fun hfu => ⟨rfl, (f5 (f3 (f2 (f1 hfu).2).2).2).2⟩, .inl ⟨rfl, i5, ?_, by omega, by omega, (((k1.trans k2 (by omega) (by omega)).trans k3 (by omega) (by omega)).trans k5 (by omega) (by omega)).mono (by omega), fun _ => w3⟩⟩
          rw [rows_write l i3.body.mem i3.body.tab, ← r1, ← r3]; rfl
        · rw [q1, Int.toNat_natCast, q3] at hw5; cases hw5
        · rw [if_pos (by simp)]
          refine ⟨_, _, _, rfl, fun hfu => absurd rfl (f5 (f3 (f2 (f1 hfu).2).2).2).1, .inr ⟨rfl, ?_⟩⟩
          rw [r3, r1] at fl
          exact fl.mono (by omega)
      · rw [if_pos (by simp)]
        refine ⟨_, _, _, rfl, fun hfu => absurd (f3 (f2 (f1 hfu).2).2).1 (by omega), .inr ⟨rfl, ?_⟩⟩
        rw [r1] at fl
        exact (fl.or _).mono (by omega)
    · rw [if_pos (by simp)]
      refine ⟨_, _, _, rfl, fun hfu => absurd rfl (f2 (f1 hfu).2).1, .inr ⟨rfl, ?_⟩⟩
      rw [r1] at fl
      exact fl.mono (by omega)
  · rw [if_pos (by simp)]
    exact ⟨_, _, _, rfl, fun hfu => absurd (f1 hfu).1 (by omega), .inr ⟨rfl, (fl.or _).mono (by omega)⟩⟩
theorem checkM_zero {s : SM} {l : List Ent} (h : checkM s l = 0) : 0 < l.length ∧ l.length ≤ 4 ∧ bytesF l = 0 ∧ (liveE (l.foldl putE s.rows)).length ≤ 40 := by
  unfold checkM at h
  split at h
  · cases h
  · split at h
    · rename_i h1; exact absurd h h1
    · split at h
      · cases h
      · rename_i h1 h2 h3
        exact ⟨by omega, by omega, Classical.byContradiction h2, by omega⟩
/-- **Write.** -/
theorem write_store {c : Chip} {s : SM} {l : List Ent} (h : Inv c s) (hep : s.m.ep + 9 ≤ 100000) (hc : checkM s l = 0) :
    ∃ c' s' n, writeM c s l = (c', s', n) ∧ (c.fuse < 0 → n = 0 ∧ c'.fuse < 0) ∧
      ((n = 0 ∧ Inv c' s' ∧ s'.rows = liveE (l.foldl putE s.rows) ∧ s.m.ep ≤ s'.m.ep ∧ s'.m.ep ≤ s.m.ep + 9 ∧ Grew c c' 12 ∧ (s.m.nw.length ≤ 2 → s'.m.nw.length ≤ 2)) ∨
       (n = 9 ∧ Fallen (s.m.ep + 9) s.rows (liveE (l.foldl putE s.rows)) c')) := by
  obtain ⟨h1, h2, h3, h4⟩ := checkM_zero hc
  obtain ⟨c', s', n, e, f, g⟩ := log_calm h h2 h3 h4 hep
  unfold writeM
  rw [if_neg (by simp [hc]), e]
  simp only
  rcases g with ⟨rfl, g⟩ | ⟨rfl, fl⟩
  · rw [if_pos rfl]
    exact ⟨_, _, _, rfl, f, .inl ⟨rfl, g⟩⟩
  · rw [if_neg (by simp)]
    exact ⟨_, _, _, rfl, fun hfu => absurd (f hfu).1 (by omega), .inr ⟨rfl, fl⟩⟩
end Go.Proofs.Ytaepdbkfaoiimab
/- Noting manifests on a chip, from a new one on. Plain laws; conditions: none but those that each names. -/
set_option linter.unusedVariables false
set_option linter.unusedSimpArgs false
namespace Go.Proofs.Ytaepdbkfaoiimab
open Go.RowKit

theorem Head.found {c : Chip} {m : Man} {a : Int} (h : Head c m a) (hd : c.down = false) : findR c = (m, a, 0) := by
  unfold findR
  rw [hd, if_neg (by simp), h.find]
  have := h.at_
  rw [if_neg (by simp only; omega)]
theorem note_new {n : Man} (hf : n.fault = 0) : ∃ c1, noteR Chip.new 0 n = (c1, 0, 0) ∧ CWf c1 ∧ c1.down = false ∧ c1.fuse < 0 ∧ Head c1 n 0 := by
  obtain ⟨c2, n2, e2, s2, f2, g2⟩ := write_calm (c := Chip.new) (b := 0) (d := n.bytes) (by decide) rfl rfl rfl (mansize hf) (by simp [Chip.new])
  have w2 : CWf c2 := by have := CWf.new.write_ ((0 : Nat) : Int) n.bytes; rw [e2] at this; exact this
  obtain ⟨hn, hfu⟩ := f2 (by decide)
  subst hn
  rcases g2 with ⟨_, d2, p2, l2, x2⟩ | ⟨h, _⟩
  · refine ⟨c2, ?_, w2, d2, hfu, ?_, .inl rfl⟩
    · unfold noteR
      rw [if_neg (by simpa using hf), if_neg (by simp [Chip.new])]
      rw [show ((0 : Nat) : Int) = 0 from rfl] at e2
      rw [e2]
      simp
    · unfold findM
      rw [l2, s2.other 1 (by decide)]
      show [].foldl (fStep 1) ([⟨pad n.bytes, false⟩].foldl (fStep 0) (Man.zero, -1)) = _
      rw [List.foldl_nil, List.foldl_cons, List.foldl_nil, fStep_eq, man_sheet hf]
      have := (fault_zero.1 hf).1
      show (if (0 : Int) < n.ep then (n, (0 : Int)) else (Man.zero, -1)) = (n, 0)
      rw [if_pos (by omega)]
  · cases h
/-- A chip, maybe new, with the newest manifest. -/
structure Sit (c : Chip) (m : Man) (a : Int) : Prop where
  wf : CWf c
  up : c.down = false
  calm : c.fuse < 0
  what : (c = Chip.new ∧ m = Man.zero ∧ a = 0) ∨ Head c m a
theorem Sit.new : Sit Chip.new Man.zero 0 := ⟨CWf.new, rfl, by decide, .inl ⟨rfl, rfl, rfl⟩⟩
theorem Sit.at_ {c : Chip} {m : Man} {a : Int} (h : Sit c m a) : a = 0 ∨ a = 1 := by
  rcases h.what with ⟨_, _, h⟩ | h
  · exact .inl h
  · exact h.at_
theorem Sit.note {c : Chip} {m n : Man} {a : Int} (h : Sit c m a) (hf : n.fault = 0) (hn : m.ep < n.ep) : ∃ c' a', noteR c a n = (c', a', 0) ∧ Sit c' n a' ∧ Head c' n a' := by
  rcases h.what with ⟨rfl, rfl, rfl⟩ | hh
  · obtain ⟨c1, e, w1, d1, f1, h1⟩ := note_new hf
    exact ⟨c1, 0, e, ⟨w1, d1, f1, .inr h1⟩, h1⟩
  · obtain ⟨c', a', k, h1, h2, h3, h4, h5, h6⟩ := note_calm h.wf h.up hh hf hn
    obtain ⟨hk, hfu⟩ := h5 h.calm
    subst hk
    rcases h6 with ⟨_, h7, h8⟩ | ⟨h, _⟩
    · exact ⟨c', a', h1, ⟨h2, h7, hfu, .inr h8⟩, h8⟩
    · cases h
theorem note_fault {c : Chip} {a : Int} {n : Man} (hf : n.fault ≠ 0) : noteR c a n = (c, 0, n.fault) := if_pos hf
/-- What is found behind a restart. -/
def Back (c : Chip) (how : Int) (m n : Man) : Prop := ∃ x a, (x = m ∨ x = n) ∧ Head (c.restart how) x a
theorem back_calm {c : Chip} {m : Man} {a : Int} (how : Int) (hc : CWf c) (hd : c.down = false) (h : Head c m a) (n : Man) : Back c how m n := by
  have hp : c.pend = none := by have := hc.down; rw [hd] at this; simpa using this
  refine ⟨m, a, .inl rfl, h.same ?_ ?_⟩ <;> rw [restart_calm hp]
theorem note_next {c : Chip} {m n : Man} {a : Int} (hc : CWf c) (hd : c.down = false) (h : Head c m a) (hf : n.fault = 0) (hn : m.ep < n.ep) (how : Int) :
    ∃ c' a' k, noteR c a n = (c', a', k) ∧ CWf c' ∧ (c.fuse < 0 → k = 0 ∧ c'.fuse < 0) ∧ ((k = 0 ∧ c'.down = false ∧ Head c' n a') ∨ (k = 9 ∧ Back c' how m n)) := by
  obtain ⟨c', a', k, h1, h2, h3, h4, h5, h6⟩ := note_calm hc hd h hf hn
  refine ⟨c', a', k, h1, h2, h5, ?_⟩
  rcases h6 with h6 | ⟨h6, h7, h8⟩
  · exact .inl h6
  · refine .inr ⟨h6, ?_⟩
    rcases (h8 how).2 with h9 | ⟨a2, h9⟩
    · exact ⟨m, a, .inl rfl, h9⟩
    · exact ⟨n, a2, .inr rfl, h9⟩
theorem Sit.back {c : Chip} {m : Man} {a : Int} (how : Int) (hc : CWf (c.restart how)) (h : Head (c.restart how) m a) : Sit (c.restart how) m a := ⟨hc, rfl, show (-1 : Int) < 0 by decide, .inr h⟩
/-- A manifest that names a log alone. -/
def manL (e L : Int) : Man := ⟨e, L, [], []⟩
theorem manL_fault {e L : Int} (h1 : 1 ≤ e) (h2 : e ≤ 100000) (h3 : 2 ≤ L) (h4 : L < 24) : (manL e L).fault = 0 := by
  rw [fault_zero]
  exact ⟨h1, h2, by simp [manL, Man.all]; omega, by simp [manL, Man.all]⟩
theorem find_sheet (B p : Nat) (c : Chip) (m : Man) (a : Int) (W : World) (hW : ChipR B W p c) (hd : c.down = false) (h : Head c m a) :
    Calls Try.prog 45 #[.pointer (some ⟨p, 0, none⟩)] W fun e w' => ∃ A1 k1 A2 k2, e = .returned (.tuple #[.agg #[.int .i64 m.ep, .int .i64 m.log, .slice A1 m.nw.length k1, .slice A2 m.od.length k2], .int .i64 a, .nilIface]) ∧
      Ints B w' (.slice A1 m.nw.length k1) m.nw ∧ Ints B w' (.slice A2 m.od.length k2) m.od ∧ Below W.heap.size W w' := by
  have hf := find_any B p c W hW
  rw [h.found hd] at hf
  refine hf.mono ?_
  rintro e w' ⟨v, rfl, ⟨vn, vo, rfl, hn, ho⟩, hb⟩
  obtain ⟨A1, k1, rfl, _, _, _⟩ := hn.form
  obtain ⟨A2, k2, rfl, _, _, _⟩ := ho.form
  exact ⟨A1, k1, A2, k2, rfl, hn, ho, hb⟩
/-- A manifest that names a log alone is found. -/
theorem find_log (B p : Nat) (c : Chip) (e L a : Int) (W : World) (hW : ChipR B W p c) (hd : c.down = false) (h : Head c (manL e L) a) :
    Calls Try.prog 45 #[.pointer (some ⟨p, 0, none⟩)] W fun d w' => ∃ A1 k1 A2 k2, d = .returned (.tuple #[.agg #[.int .i64 e, .int .i64 L, .slice A1 0 k1, .slice A2 0 k2], .int .i64 a, .nilIface]) ∧
      Ints B w' (.slice A1 0 k1) [] ∧ Ints B w' (.slice A2 0 k2) [] ∧ Below W.heap.size W w' := find_sheet B p c (manL e L) a W hW hd h
theorem ints_nil {B B' : Nat} {w w' : World} {A : Option Addr} {c : Nat} (h : Ints B w (.slice A 0 c) []) : Ints B' w' (.slice A 0 c) [] := by
  obtain ⟨_, A', c', e, h2, h3, _⟩ := h
  cases e
  exact ⟨rfl, A, c, rfl, h2, h3, fun h => absurd h (by simp)⟩
section
variable {B p g o : Nat} {w : World} {c : Chip} {cs : Array Value}
theorem blk_man (hg : Blk w g 50 cs) {g' : Nat} {T : TypeId} {cs' : Array Value} (h : Blk w g' T cs') (hT : T ≠ 50) (x : Value) : Blk (w.setCell ⟨g, o, none⟩ x) g' T cs' := by
  refine h.far (p := ⟨g, o, none⟩) (fun e => ?_) x
  have e : g' = g := e
  subst e
  unfold Blk at h hg
  rw [h] at hg
  injection hg with hg
  injection hg with _ e
  exact hT e
theorem UndoR.man {u : Value} (hg : Blk w g 50 cs) (x : Value) : ∀ {d : Option Pend}, UndoR w p c u d → UndoR (w.setCell ⟨g, o, none⟩ x) p c u d
  | none, h => h
  | some (.wr b d), ⟨qh, qd, bx, bn, bd, e, h2, h3, h4, h5, h6⟩ => ⟨qh, qd, bx, bn, bd, e, blk_man hg h2 (by decide) x, blk_man hg h3 (by decide) x, blk_man hg h4 (by decide) x, blk_man hg h5 (by decide) x, blk_man hg h6 (by decide) x⟩
  | some (.er b), ⟨qh, qd, bx, e, h2, h3, h4⟩ => ⟨qh, qd, bx, e, blk_man hg h2 (by decide) x, blk_man hg h3 (by decide) x, blk_man hg h4 (by decide) x⟩
/-- Stores into the block of a manifest leave the chip. -/
theorem ChipR.man (h : ChipR B w p c) (hg : Blk w g 50 cs) (hB : B ≤ g) (x : Value) : ChipR B (w.setCell ⟨g, o, none⟩ x) p c := by
  obtain ⟨V, u, hv, hu, hwf⟩ := h
  exact ⟨V, u, ⟨blk_man hg hv.blk (by decide) x, fun b hb => (hv.rows b hb).far hg hB (by decide) x, hv.base⟩, UndoR.man hg x hu, hwf⟩
theorem ChipR.man4 {a0 a1 a2 a3 : Value} (h : ChipR B w p c) (hg : Blk w g 50 #[a0, a1, a2, a3]) (hB : B ≤ g) (b0 b1 b2 b3 : Value) :
    ChipR B ((((w.setCell ⟨g, 0, none⟩ b0).setCell ⟨g, 1, none⟩ b1).setCell ⟨g, 2, none⟩ b2).setCell ⟨g, 3, none⟩ b3) p c :=
  (((h.man hg hB b0).man (hg.set_ 0 b0) hB b1).man ((hg.set_ 0 b0).set_ 1 b1) hB b2).man (((hg.set_ 0 b0).set_ 1 b1).set_ 2 b2) hB b3
theorem ints_man4 {v : Value} {l : List Int} {a0 a1 a2 a3 : Value} (h : Ints B w v l) (hb : Blk w g 50 #[a0, a1, a2, a3]) (hB : B ≤ g) (b0 b1 b2 b3 : Value) :
    Ints B ((((w.setCell ⟨g, 0, none⟩ b0).setCell ⟨g, 1, none⟩ b1).setCell ⟨g, 2, none⟩ b2).setCell ⟨g, 3, none⟩ b3) v l :=
  Rd.far' (Rd.far' (Rd.far' (Rd.far' h hb hB (by decide) _) (hb.set_ 0 _) hB (by decide) _) ((hb.set_ 0 _).set_ 1 _) hB (by decide) _) (((hb.set_ 0 _).set_ 1 _).set_ 2 _) hB (by decide) _
end
end Go.Proofs.Ytaepdbkfaoiimab
/- The frame of every law of this seat: a walk that returns true and turns nothing that was there gives the row's statement. Conditions: none. -/
namespace Go.Proofs.Ytaepdbkfaoiimab
open Go.ChangeShapes Go.WideShapes Go.ChangeAt Go.RowKit Go.WideElems

theorem close_own : ownKnob Try.prog.godebug = none := by kernel_rfl
theorem close_laid : laidOutB Try.prog = true := by kernel_rfl

theorem close_trodAll {H : Type} {enc : TypeId × Value → H} {W W' : World} (hb : Below W.heap.size W W') :
    ∀ (ts : List TypeId) (vs : List Value) (ds : List (DataW H)) (ps : List MemPlace),
      (∀ t ∈ ts, Try.prog.readableRec t = true ∧ t < Try.prog.types.size) →
      DataW.TrodAll enc Try.prog W 0 (fun _ => true) true ts vs ds ps → (∀ x ∈ ps, x.block < W.heap.size) →
      DataW.TrodAll enc Try.prog W' 0 (fun b => decide (b < W.heap.size)) true ts vs ds ps
  | [], [], [], _, _, h, _ => h
  | t :: ts, v :: vs, d :: ds, ps, hr, h, hlt => by
    obtain ⟨p, q, h1, h2, rfl⟩ := h
    refine ⟨p, q, ?_, ?_, rfl⟩
    · exact Below.trod close_laid (hr t (by simp)).1 (hr t (by simp)).2 h1 hb (fun x hx => hlt x (by simp [hx]))
    · exact close_trodAll hb ts vs ds q (fun t' ht' => hr t' (by simp [ht'])) h2 (fun x hx => hlt x (by simp [hx]))
  | [], [], _ :: _, _, _, h, _ => h.elim
  | [], _ :: _, _, _, _, h, _ => h.elim
  | _ :: _, [], _, _, _, h, _ => h.elim
  | _ :: _, _ :: _, [], _, _, h, _ => h.elim

theorem close_length {H : Type} {enc : TypeId × Value → H} {W : World} {sp : Nat → Bool} :
    ∀ (ts : List TypeId) (vs : List Value) (ds : List (DataW H)) (ps : List MemPlace),
      DataW.TrodAll enc Try.prog W 0 sp true ts vs ds ps → ds.length = ts.length
  | [], [], [], _, _ => rfl
  | _ :: ts, _ :: vs, _ :: ds, _, h => by
    obtain ⟨p, q, _, h2, _⟩ := h
    simp [close_length ts vs ds q h2]
  | [], [], _ :: _, _, h => h.elim
  | [], _ :: _, _, _, h => h.elim
  | _ :: _, [], _, _, h => h.elim
  | _ :: _, _ :: _, [], _, h => h.elim

set_option maxRecDepth 100000 in
theorem close_lifted (s : ChangeSpec) (F : FuncId) (fn : Func) (os : Os) (started : os.Started) (H : Type) (enc : TypeId × Value → H)
    (hni : Try.checked.prog.inits.idxOf? F = none) (hfn : Try.checked.prog.funcs[F]? = some fn) (hres : fn.resultTypes = #[4]) (hv : s.vars = [])
    (hs : ∀ ds : List (DataW H), ds.length = fn.params.toList.length → s.fn H ds = { results := [.lit (.bool true)], args := ds })
    (hread0 : (fn.params.toList.all fun t => Try.prog.readableRec t && decide (t < Try.prog.types.size)) = true)
    (witness : ∃ (w : World) (tape : Tape) (i : Input), w.os = os ∧ (w.forCall tape i).Shaped Try.checked.prog ∧ i.vars = [] ∧ Input.okWide Try.checked.prog (w.forCall tape i) .any w.heap.size F i ∧
      s.pre6 enc Try.checked.prog fn [] false (w.forCall tape i).memory i.args ∧ Assume.holds {} Try.checked.prog (lone (Frame.enter Try.checked.prog F i.args .normal) [] (w.forCall tape i)))
    (walk : ∀ (W : World) (base : Nat) (args : Array Value) (ds : List (DataW H)) (p : List MemPlace),
      (∀ (j : Nat) t v, fn.params[j]? = some t → args[j]? = some v → Value.okWide Try.prog W .any base t v) →
      DataW.TrodAll enc Try.prog W 0 (fun _ => true) true fn.params.toList args.toList ds p →
      Calls Try.prog F args W fun e W' => e = .returned (.bool true) ∧ Below W.heap.size W W') :
    ReturnsInHanded {} Try.checked os F .any (s.pre6 enc Try.prog fn [] false) (s.post enc Try.prog fn false true false false) := by
  have hread : ∀ t ∈ fn.params.toList, Try.prog.readableRec t = true ∧ t < Try.prog.types.size := fun t ht => by
    have := List.all_eq_true.1 hread0 t ht
    simp only [Bool.and_eq_true, decide_eq_true_eq] at this
    exact this
  refine returnsInHanded_of_change (C := Try.checked) close_own started hni hfn witness ?_
  intro W base args ds gs before hval hW _ _
  have hW' := hW
  have hlt := hW.lt
  obtain ⟨p, q, hA, hV, rfl, _, _⟩ := hW
  rw [hv] at hV
  obtain ⟨rfl, rfl⟩ := trodVars_none hV
  simp only [List.append_nil] at hW' hlt
  refine (walk W base args ds p hval hA).mono ?_
  rintro e W' ⟨rfl, hb⟩
  have hd := close_length _ _ _ _ hA
  have hsf := hs ds hd
  refine ⟨_, rfl, ds, [], p, [], p, [], hW', ?_, ?_, ?_, hb.frame _, fun h => by cases h⟩
  · rw [List.append_nil, hsf, hres]
    exact trodAll_mk1 (shut_bool Try.underlying4 true)
  · rw [List.append_nil, hsf]
    exact close_trodAll hb _ _ _ _ hread hA hlt
  · rw [hv, List.append_nil, hsf]
    exact rfl
end Go.Proofs.Ytaepdbkfaoiimab
/- The arguments of a law, opened: each reads as a list of what its cells hold. Conditions: none. -/
set_option linter.unusedVariables false
namespace Go.Proofs.Ytaepdbkfaoiimab
open Go.ChangeShapes Go.WideShapes Go.ChangeAt Go.RowKit Go.WideMaps Go.WideElems
open Go.ChangeMaps (open_string shut_string)

set_option maxRecDepth 100000 in
theorem strs_of {H : Type} {enc : TypeId × Value → H} {W : World} {base : Nat} {v : Value} {d : DataW H} {p : List MemPlace}
    (hval : Value.okWide Try.prog W .any base 128 v) (h : DataW.Trod enc Try.prog W 0 (fun _ => true) true 128 v d p) : ∃ l, Strs W.heap.size W v l := by
  obtain ⟨a0, len, cap, rfl⟩ := okWide_slice Try.underlying128 hval
  obtain ⟨fuel, hf⟩ := h
  rcases open_strings Try.underlying128 Try.underlying9 (by kernel_rfl) hf with ⟨hcs, hx⟩ | ⟨a, len', cap', ss, hcs, _, hl, hm, hz, hx, hcell, hws⟩
  · simp [Value.cells] at hcs
    obtain ⟨rfl, rfl, rfl⟩ := hcs
    exact ⟨[], Rd.nil _ _ _ _, by simp⟩
  · simp [Value.cells] at hcs
    obtain ⟨rfl, rfl, rfl⟩ := hcs
    simp at hz
    have e : (ss.take len).length = len := by simp; omega
    refine ⟨ss.take len, ⟨by simp, some a, cap, by rw [e], by omega, by unfold maxLen at hm; omega, fun hn => ?_⟩, fun s hs => by have := hws s (List.mem_of_mem_take hs); unfold maxLen at this; omega⟩
    rw [e] at hn
    obtain ⟨b, o, spot⟩ := a
    have h0 := hcell 0 (by omega)
    have hspot : spot = none := by simpa [Addr.add] using World.cell?_spot h0
    subst hspot
    refine ⟨b, o, rfl, .inl ?_, ?_, fun j u hu => ?_⟩
    · have := cell_lt h0; simpa [Addr.add] using this
    · have := cell_lt h0; simpa [Addr.add] using this
    · rw [List.getElem?_map, List.getElem?_take] at hu
      by_cases hj : j < len
      · rw [if_pos hj] at hu
        have hj2 : j < ss.length := by omega
        rw [List.getElem?_eq_getElem hj2] at hu
        simp at hu
        have := hcell j hj2
        rw [List.getD_eq_getElem?_getD, List.getElem?_eq_getElem hj2, Option.getD_some] at this
        rw [← hu, ← this]
        unfold Addr.add
        by_cases hj0 : j = 0
        · subst hj0; simp
        · simp [hj0]
      · rw [if_neg hj] at hu; simp at hu

/-! ### slices of whatever elements -/
theorem list_of {α : Type} {P : Nat → α → Prop} : ∀ n : Nat, (∀ i, i < n → ∃ a, P i a) → ∃ l : List α, l.length = n ∧ ∀ i a, l[i]? = some a → P i a
  | 0, _ => ⟨[], rfl, fun i a h => by simp at h⟩
  | n + 1, h => by
    obtain ⟨l, h1, h2⟩ := list_of n fun i hi => h i (by omega)
    obtain ⟨a, ha⟩ := h n (by omega)
    refine ⟨l ++ [a], by simp [h1], fun i b hb => ?_⟩
    rw [List.getElem?_append] at hb
    split at hb
    · exact h2 i b hb
    · rename_i hge
      have : i = n := by
        rcases Nat.lt_or_ge (i - l.length) 1 with h | h
        · omega
        · rw [List.getElem?_eq_none (by simpa using h)] at hb; cases hb
      subst this
      rw [h1, Nat.sub_self] at hb
      simp at hb
      subst hb
      exact ha
theorem flat_get {α : Type} (c : α → List Value) (sz : Nat) (hc : ∀ a, (c a).length = sz) : ∀ (l : List α) (i j : Nat) (a : α), l[i]? = some a → j < sz → (l.flatMap c)[i * sz + j]? = (c a)[j]?
  | [], i, j, a, h, _ => by simp at h
  | x :: l, 0, j, a, h, hj => by
    simp at h; subst h
    rw [Nat.zero_mul, Nat.zero_add, List.flatMap_cons, List.getElem?_append_left (by rw [hc]; exact hj)]
  | x :: l, i + 1, j, a, h, hj => by
    simp only [List.getElem?_cons_succ] at h
    have ih := flat_get c sz hc l i j a h hj
    rw [List.flatMap_cons, List.getElem?_append_right (by rw [hc, Nat.succ_mul]; omega), hc, ← ih]
    congr 1
    rw [Nat.succ_mul]; omega
theorem flat_len {α : Type} (c : α → List Value) (sz : Nat) (hc : ∀ a, (c a).length = sz) : ∀ l : List α, (l.flatMap c).length = l.length * sz
  | [] => by simp
  | x :: l => by rw [List.flatMap_cons, List.length_append, hc, flat_len c sz hc l, List.length_cons, Nat.succ_mul]; omega

theorem flat_one {α : Type} (f : α → Value) : ∀ l : List α, l.flatMap (fun z => [f z]) = l.map f
  | [] => rfl
  | a :: l => by rw [List.flatMap_cons, flat_one f l]; rfl

theorem slice_trod {H : Type} {enc : TypeId × Value → H} {W : World} {T e sz fuel : Nat} {v : Value} {x : DataW H × List MemPlace} (ht : Try.prog.underlying T = some (.slice e)) (hsz : Try.prog.cellsOf e = sz) (hpos : 0 < sz)
    {α : Type} (c : α → List Value) (hc : ∀ a, (c a).length = sz) (Ok : α → Prop)
    (hel : ∀ n cs y, DataW.trod enc Try.prog W 0 (fun _ => true) true n e cs = some y → ∃ a, cs = c a ∧ Ok a)
    (h : DataW.trod enc Try.prog W 0 (fun _ => true) true fuel T [v] = some x) : ∃ l : List α, Rd W.heap.size e sz W v l.length (l.flatMap c) ∧ ∀ a ∈ l, Ok a := by
  rcases Go.Deep.open_slice ht h with ⟨hcs, _⟩ | ⟨a, len, cap, m, n, D, Pl, hcs, hb, hl, hm, hmm, hx, hi⟩
  · simp at hcs
    subst hcs
    exact ⟨[], Rd.nil _ _ _ _, by simp⟩
  · simp at hcs hmm
    subst hcs
    have hall : ∀ i, i < len → ∃ z : α, Ok z ∧ ∀ j, j < sz → W.cell? ((a.add (i * sz)).add j) = (c z)[j]? := by
      intro i hilt
      obtain ⟨cs', h1, h2⟩ := hi i (by omega)
      obtain ⟨z, rfl, hz⟩ := hel _ _ _ h2
      rw [hsz] at h1
      obtain ⟨_, _, h3⟩ := World.cells?_some h1
      exact ⟨z, hz, h3⟩
    obtain ⟨l, hll, hlp⟩ := list_of len hall
    refine ⟨l, ⟨flat_len c sz hc l, some a, cap, by rw [hll], by omega, by unfold maxLen at hm; omega, fun hn => ?_⟩, fun z hz => ?_⟩
    · obtain ⟨b, o, spot⟩ := a
      have h0 := (hlp 0 _ (List.getElem?_eq_getElem hn)).2 0 hpos
      have hv0 : ∃ u, (c l[0])[0]? = some u := ⟨_, List.getElem?_eq_getElem (by rw [hc]; exact hpos)⟩
      obtain ⟨u0, hu0⟩ := hv0
      rw [hu0] at h0
      have hspot : spot = none := by simpa [Addr.add] using World.cell?_spot h0
      subst hspot
      have hlt := cell_lt h0
      rw [addr_add, addr_add] at hlt
      refine ⟨b, o, rfl, .inl hlt, hlt, fun j u hu => ?_⟩
      have hj : j < l.length * sz := by
        rw [← flat_len c sz hc l]
        rcases Nat.lt_or_ge j (l.flatMap c).length with h | h
        · exact h
        · rw [List.getElem?_eq_none h] at hu; cases hu
      have hq : j / sz < l.length := Nat.div_lt_of_lt_mul (by rw [Nat.mul_comm]; exact hj)
      have hr : j % sz < sz := Nat.mod_lt _ hpos
      have hdm : j / sz * sz + j % sz = j := by rw [Nat.mul_comm]; exact Nat.div_add_mod j sz
      have hq2 : l[j / sz]? = some l[j / sz] := List.getElem?_eq_getElem hq
      have h1 := flat_get c sz hc l (j / sz) (j % sz) _ hq2 hr
      have h2 := (hlp _ _ hq2).2 (j % sz) hr
      rw [hdm] at h1
      rw [← h1, hu, addr_add, addr_add, Nat.add_assoc, hdm] at h2
      exact h2
    · obtain ⟨i, hi⟩ := List.getElem?_of_mem hz
      exact (hlp i z hi).1

set_option maxRecDepth 100000 in
theorem ints_of {H : Type} {enc : TypeId × Value → H} {W : World} {base : Nat} {v : Value} {d : DataW H} {p : List MemPlace}
    (hval : Value.okWide Try.prog W .any base 34 v) (h : DataW.Trod enc Try.prog W 0 (fun _ => true) true 34 v d p) : ∃ l, Ints W.heap.size W v l ∧ ∀ n ∈ l, -9223372036854775808 ≤ n ∧ n ≤ 9223372036854775807 := by
  obtain ⟨a0, len, cap, rfl⟩ := okWide_slice Try.underlying34 hval
  obtain ⟨fuel, hf⟩ := h
  obtain ⟨l, h1, h2⟩ := slice_trod Try.underlying34 (by kernel_rfl) (show 0 < 1 by omega) (fun n : Int => [.int .i64 n]) (fun _ => rfl) (fun n => -9223372036854775808 ≤ n ∧ n ≤ 9223372036854775807)
    (fun n cs y hy => by
      obtain ⟨n', h, _, hw⟩ := DataW.trod_int Try.underlying3 hy
      refine ⟨n', h, ?_⟩
      simp [Lit.wf, IntKind.min, IntKind.max, IntKind.signed, IntKind.bits] at hw
      omega) hf
  exact ⟨l, by rw [flat_one] at h1; exact h1, h2⟩
set_option maxRecDepth 100000 in
theorem ent_trod {H : Type} {enc : TypeId × Value → H} {W : World} {n : Nat} {cs : List Value} {y : DataW H × List MemPlace} (h : DataW.trod enc Try.prog W 0 (fun _ => true) true n 25 cs = some y) : ∃ e : Ent, cs = e.cells ∧ EntOk e := by
  have hs := Try.underlying25
  obtain ⟨ys, n', _, _, hlen, hyl, hf⟩ := DataW.trod_struct hs h
  have c9 : Try.prog.cellsOf 9 = 1 := by kernel_rfl
  have c4 : Try.prog.cellsOf 4 = 1 := by kernel_rfl
  have c35 : Try.prog.cellsOf 25 = 3 := by kernel_rfl
  have h0 : DataW.trod enc Try.prog W 0 _ true n' 9 ((cs.drop 0).take (Try.prog.cellsOf 9)) = ys[0]? := hf 0 _ rfl
  have h1 : DataW.trod enc Try.prog W 0 _ true n' 9 ((cs.drop 1).take (Try.prog.cellsOf 9)) = ys[1]? := hf 1 _ rfl
  have h2 : DataW.trod enc Try.prog W 0 _ true n' 4 ((cs.drop 2).take (Try.prog.cellsOf 4)) = ys[2]? := hf 2 _ rfl
  rw [c35] at hlen
  rw [c9] at h0 h1
  rw [c4] at h2
  match cs, hlen with
  | [v0, v1, v2], _ =>
    have hl3 : ys.length = 3 := hyl
    match ys, hl3 with
    | [y0, y1, y2], _ =>
      obtain ⟨s0, e0, _, b0⟩ := DataW.trod_string Try.underlying9 (show DataW.trod enc Try.prog W 0 _ true n' _ [v0] = some y0 from h0)
      obtain ⟨s1, e1, _, b1⟩ := DataW.trod_string Try.underlying9 (show DataW.trod enc Try.prog W 0 _ true n' _ [v1] = some y1 from h1)
      obtain ⟨g, e2, _⟩ := DataW.trod_bool Try.underlying4 (show DataW.trod enc Try.prog W 0 _ true n' _ [v2] = some y2 from h2)
      simp at e0 e1 e2
      subst e0; subst e1; subst e2
      unfold maxLen at b0 b1
      exact ⟨⟨s0, s1, g⟩, rfl, by omega, by omega⟩
theorem ents_trod {H : Type} {enc : TypeId × Value → H} {W : World} {fuel : Nat} {v : Value} {x : DataW H × List MemPlace} (h : DataW.trod enc Try.prog W 0 (fun _ => true) true fuel 22 [v] = some x) : ∃ l, Ents W.heap.size W v l := by
  obtain ⟨l, h1, h2⟩ := slice_trod Try.underlying22 (by kernel_rfl) (show 0 < 3 by omega) Ent.cells (fun _ => rfl) EntOk (fun n cs y => ent_trod) h
  exact ⟨l, h1, h2⟩
set_option maxRecDepth 100000 in
theorem ents_of {H : Type} {enc : TypeId × Value → H} {W : World} {base : Nat} {v : Value} {d : DataW H} {p : List MemPlace}
    (hval : Value.okWide Try.prog W .any base 22 v) (h : DataW.Trod enc Try.prog W 0 (fun _ => true) true 22 v d p) : ∃ l, Ents W.heap.size W v l := by
  obtain ⟨a0, len, cap, rfl⟩ := okWide_slice Try.underlying22 hval
  obtain ⟨fuel, hf⟩ := h
  exact ents_trod hf
set_option maxRecDepth 100000 in
theorem lss_of {H : Type} {enc : TypeId × Value → H} {W : World} {base : Nat} {v : Value} {d : DataW H} {p : List MemPlace}
    (hval : Value.okWide Try.prog W .any base 29 v) (h : DataW.Trod enc Try.prog W 0 (fun _ => true) true 29 v d p) : ∃ ls, Lss W.heap.size W v ls := by
  obtain ⟨a0, len, cap, rfl⟩ := okWide_slice Try.underlying29 hval
  obtain ⟨fuel, hf⟩ := h
  obtain ⟨l, h1, h2⟩ := slice_trod Try.underlying29 (by kernel_rfl) (show 0 < 1 by omega) (fun z : Value × List Ent => [z.1]) (fun _ => rfl) (fun z => Ents W.heap.size W z.1 z.2)
    (fun n cs y hy => by
      have hl := Go.Deep.open_slice Try.underlying22 hy
      have hc : ∃ u, cs = [u] := by
        rcases hl with ⟨hcs, _⟩ | ⟨a, len, cap, m, n, D, Pl, hcs, _⟩ <;> exact ⟨_, hcs⟩
      obtain ⟨u, rfl⟩ := hc
      obtain ⟨l, hl⟩ := ents_trod hy
      exact ⟨(u, l), rfl, hl⟩) hf
  refine ⟨l.map (·.2), l.map (·.1), by simp, ?_, fun i u m hu hm => ?_⟩
  · rw [flat_one] at h1
    simpa using h1
  · rw [List.getElem?_map] at hu hm
    cases hz : l[i]? with
    | none => rw [hz] at hu; cases hu
    | some z =>
      rw [hz] at hu hm
      simp at hu hm
      subst hu; subst hm
      exact h2 z (List.mem_of_getElem? hz)
end Go.Proofs.Ytaepdbkfaoiimab
/- The contracts of store.free, blank and Format. Conditions: none but those that each names. -/
set_option linter.unusedVariables false
set_option linter.unusedSimpArgs false
namespace Go.Proofs.Ytaepdbkfaoiimab
open Go.RowKit
attribute [local go_sem ↓] eql_err eql_nilerr neq_err neq_nilerr guard_err guard_nilerr guardn_err guardn_nilerr
theorem inL_eq (l : List Int) (x : Int) : inL l x = l.contains x := rfl
theorem freeTo_rng (c : Chip) (used : List Int) (k : Nat) : freeTo c used k = -1 ∨ ∃ b : Nat, freeTo c used k = b ∧ b < k + 2 := by
  rcases freeTo_spec c used k with ⟨h, _⟩ | ⟨b, h, _, h2, _⟩
  · exact .inl h
  · exact .inr ⟨b, h, h2⟩
set_option maxRecDepth 20000 in
set_option maxHeartbeats 2000000 in
theorem free_any (B p : Nat) (c : Chip) (v : Value) (used : List Int) (w : World) (h : ChipR B w p c) (hu : Ints B w v used) :
    Calls Try.prog 115 #[.pointer (some ⟨p, 0, none⟩), v] w fun e w' => e = .returned (.int .i64 (freeM c used)) ∧ w = w' := by
  have HB : Hid (∀ k : Nat, k < 22 → Calls Try.prog 118 #[.pointer (some ⟨p, 0, none⟩), .int .i64 ((k : Int) + 2)] w fun e w' => e = .returned (.bool (c.b (k + 2)).bad) ∧ w = w') := fun k hk => by
    have := bad_any B p c ((k : Int) + 2) w h (by omega) (by omega)
    rw [show ((k : Int) + 2).toNat = k + 2 from by omega] at this
    exact this
  have HW : Hid (∀ k : Nat, k < 22 → Calls Try.prog 38 #[.pointer (some ⟨p, 0, none⟩), .int .i64 ((k : Int) + 2)] w fun e w' => e = .returned (.int .i64 (c.b (k + 2)).wear) ∧ w = w') := fun k hk => by
    have := wear_any B p c ((k : Int) + 2) w h (by omega) (by omega)
    rw [show ((k : Int) + 2).toNat = k + 2 from by omega] at this
    exact this
  have HW2 : Hid (∀ b : Nat, b < 24 → Calls Try.prog 38 #[.pointer (some ⟨p, 0, none⟩), .int .i64 (b : Int)] w fun e w' => e = .returned (.int .i64 (c.b b).wear) ∧ w = w') := fun b hb => by
    have := wear_any B p c (b : Int) w h (by omega) (by omega)
    rw [Int.toNat_natCast] at this
    exact this
  have HC : Hid (∀ x, Calls Try.prog 60 #[v, .int .i64 x] w fun e w' => e = .returned (.bool (used.contains x)) ∧ w = w') := fun x => by
    have := contains_any B v used x w hu
    rw [inL_eq] at this
    exact this
  clear h hu
  go_enter Try.func115, Try.ntmps115
  go_wp2_with fail
  go_loop [5, 6] (fun best b => ∃ k : Nat, k ≤ 22 ∧ b = .int .i64 ((k : Int) + 2) ∧ best = .int .i64 (freeTo c used k)) (fun _ b => 24 - (intOf b).toNat)
  case atStart => exact ⟨0, by omega, rfl, rfl⟩
  case round =>
    obtain ⟨k, hk, rfl, rfl⟩ := hrel
    by_cases hlt : k < 22
    · have t1 : decide ((k : Int) + 2 < 24) = true := decide_eq_true (by omega)
      have hbad := HB.out k hlt
      have hcon := HC.out ((k : Int) + 2)
      have hwr := HW.out k hlt
      have HN : Hid (freeTo c used (k + 1) = if (c.b (k + 2)).bad = false ∧ used.contains ((k + 2 : Nat) : Int) = false ∧ (freeTo c used k < 0 ∨ (c.b (k + 2)).wear < (c.b (freeTo c used k).toNat).wear) then ((k + 2 : Nat) : Int) else freeTo c used k) := rfl
      have hcast : ((k + 2 : Nat) : Int) = (k : Int) + 2 := by omega
      rw [hcast] at HN
      have hrg := freeTo_rng c used k
      have HW3 : Hid (∀ b : Nat, freeTo c used k = b → Calls Try.prog 38 #[.pointer (some ⟨p, 0, none⟩), .int .i64 (b : Int)] w fun e w' => e = .returned (.int .i64 (c.b b).wear) ∧ w = w') := fun b hb => HW2.out b (by
        rcases hrg with h | ⟨b', h, h'⟩ <;> omega)
      generalize (c.b (k + 2)).bad = z1 at *
      generalize used.contains ((k : Int) + 2) = z2 at *
      generalize (c.b (k + 2)).wear = wk at *
      clear hcast HB HW HW2 HC
      cases z1
      · cases z2
        · rcases hrg with hb | ⟨b, hb, hbl⟩
          · rw [hb] at HN ⊢
            have t2 : decide ((-1 : Int) < 0) = true := by decide
            have HN' : Hid (freeTo c used (k + 1) = (k : Int) + 2) := by rw [Hid, HN.out, if_pos ⟨rfl, rfl, .inl (by omega)⟩]
            have HBD := Lib.hid hbad
            have HCO := Lib.hid hcon
            clear HN hb hwr HW3 hbad hcon
            go_wp2_with (first | (go_at_call 118; refine HBD.out.mono ?_; rintro e w' ⟨rfl, rfl⟩) | (go_at_call 60; refine HCO.out.mono ?_; rintro e w' ⟨rfl, rfl⟩))
            go_round
            case rel => exact ⟨k + 1, by omega, by go_num, by rw [HN'.out]⟩
            case measure => simp [intOf] <;> omega
          · have HW4 := Lib.hid (HW3.out b hb)
            have HWK := Lib.hid hwr
            have HBD := Lib.hid hbad
            have HCO := Lib.hid hcon
            rw [hb] at HN ⊢
            rw [Int.toNat_natCast] at HN
            generalize (c.b b).wear = wb at *
            have t2 : decide ((b : Int) < 0) = false := decide_eq_false (by omega)
            clear hb hwr HW3 hbad hcon
            by_cases hlw : wk < wb
            · have t3 : decide (wk < wb) = true := decide_eq_true hlw
              have HN' : Hid (freeTo c used (k + 1) = (k : Int) + 2) := by rw [Hid, HN.out, if_pos ⟨rfl, rfl, .inr hlw⟩]
              clear HN hlw
              go_wp2_with (first | (go_at_call 118; refine HBD.out.mono ?_; rintro e w' ⟨rfl, rfl⟩) | (go_at_call 60; refine HCO.out.mono ?_; rintro e w' ⟨rfl, rfl⟩))
              refine HWK.out.mono ?_; rintro e w' ⟨rfl, rfl⟩
              go_wp2_with fail
              refine HW4.out.mono ?_; rintro e w' ⟨rfl, rfl⟩
              go_wp2_with fail
              go_round
              case rel => exact ⟨k + 1, by omega, by go_num, by rw [HN'.out]⟩
              case measure => simp [intOf] <;> omega
            · have t3 : decide (wk < wb) = false := decide_eq_false hlw
              have HN' : Hid (freeTo c used (k + 1) = (b : Int)) := by rw [Hid, HN.out, if_neg (by omega)]
              clear HN hlw
              go_wp2_with (first | (go_at_call 118; refine HBD.out.mono ?_; rintro e w' ⟨rfl, rfl⟩) | (go_at_call 60; refine HCO.out.mono ?_; rintro e w' ⟨rfl, rfl⟩))
              refine HWK.out.mono ?_; rintro e w' ⟨rfl, rfl⟩
              go_wp2_with fail
              refine HW4.out.mono ?_; rintro e w' ⟨rfl, rfl⟩
              go_wp2_with fail
              go_round
              case rel => exact ⟨k + 1, by omega, by go_num, by rw [HN'.out]⟩
              case measure => simp [intOf] <;> omega
        · have HN' : Hid (freeTo c used (k + 1) = freeTo c used k) := by rw [Hid, HN.out, if_neg (by simp)]
          generalize freeTo c used k = bb at *
          have HBD := Lib.hid hbad
          have HCO := Lib.hid hcon
          clear HN hwr HW3 hbad hcon hrg
          go_wp2_with (first | (go_at_call 118; refine HBD.out.mono ?_; rintro e w' ⟨rfl, rfl⟩) | (go_at_call 60; refine HCO.out.mono ?_; rintro e w' ⟨rfl, rfl⟩))
          go_round
          case rel => exact ⟨k + 1, by omega, by go_num, by rw [HN'.out]⟩
          case measure => simp [intOf] <;> omega
      · have HN' : Hid (freeTo c used (k + 1) = freeTo c used k) := by rw [Hid, HN.out, if_neg (by simp)]
        generalize freeTo c used k = bb at *
        have HBD := Lib.hid hbad
        clear HN hwr HW3 hbad hcon hrg
        go_wp2_with (first | (go_at_call 118; refine HBD.out.mono ?_; rintro e w' ⟨rfl, rfl⟩))
        go_round
        case rel => exact ⟨k + 1, by omega, by go_num, by rw [HN'.out]⟩
        case measure => simp [intOf] <;> omega
    · have hk22 : k = 22 := by omega
      subst hk22
      have t1 : decide (((22 : Nat) : Int) + 2 < 24) = false := by decide
      have HF : Hid (freeM c used = freeTo c used 22) := rfl
      generalize freeTo c used 22 = ff at *
      go_wp2_with fail
      go_ret
      exact ⟨by rw [HF.out]; rfl, rfl⟩
theorem errV_pos {n : Nat} (h : n ≠ 0) : errV n = .iface 107 (.int .i64 n) := if_neg h
/-- An erasing that tells of a bad block has spoilt it. -/
theorem erase_seven {c : Chip} (hc : CWf c) (hd : c.down = false) {b : Nat} (hb : b < 24) (hbad : (c.b b).bad = false) (h : (c.erase b).2 = 7) : (c.erase (b : Nat)).1 = c.spoil b ∧ (c.b b).weak = true := by
  cases hw : (c.b b).weak
  · obtain ⟨c', n, e, _, _, g⟩ := erase_calm hb hd hbad hw
    rw [e] at h
    rcases g with ⟨g, _⟩ | ⟨g, _⟩ <;> · simp only at h; omega
  · have := lays_erase.weak c b hc hd hb hbad hw
    exact ⟨by show (c.erase b).1 = _; rw [show c.erase b = _ from this], rfl⟩
set_option maxRecDepth 20000 in
set_option maxHeartbeats 2000000 in
theorem blank_any (B p : Nat) (c : Chip) (v : Value) (used : List Int) (w : World) (h : ChipR B w p c) (hu : Ints B w v used) (hd : c.down = false) :
    Calls Try.prog 104 #[.pointer (some ⟨p, 0, none⟩), v] w fun e w' => e = .returned (.tuple #[.int .i64 (blankM used c).2.1, errV (blankM used c).2.2]) ∧ ChipR B w' p (blankM used c).1 ∧ Fr B (· = p) w w' := by
  have fin : ∀ (wr : World) (tmps : Array Value) (b : Int) (f : Nat) (c' : Chip), (c', b, f) = blankM used c → ChipR B wr p c' → Fr B (· = p) w wr → tmps[4]? = some (.int .i64 b) → tmps[5]? = some (errV f) →
      bodyPost Try.prog Try.f104 (fun e w' => e = .returned (.tuple #[.int .i64 (blankM used c).2.1, errV (blankM used c).2.2]) ∧ ChipR B w' p (blankM used c).1 ∧ Fr B (· = p) w w') .ret { tmps := tmps, defers := [] } wr := by
    rintro wr tmps b f c' e hc hf t4 t5
    rw [← e]
    exact bodyPost_ret (v := .tuple #[.int .i64 b, errV f]) (by simp [results, Try.results104, go_sem, t4, t5]) rfl ⟨rfl, hc, hf⟩
  have FIN := Lib.hid fin
  have HU := Lib.hid hu
  have HR := Lib.hid h
  have hg0 : goods c < 25 := by have := goods_le c; omega
  have HS0 : Hid (seek (fun c b => c.erase b) used 25 c = blankM used c) := rfl
  have HD0 := Lib.hid hd
  clear fin hu h hd
  go_enter Try.func104, Try.ntmps104
  go_wp2_with fail
  go_loopg [6] 25 (fun g b wr => ∃ c' : Chip, Hid (ChipR B wr p c') ∧ Hid (Fr B (· = p) w wr) ∧ Hid (seek (fun c b => c.erase b) used g c' = blankM used c) ∧ goods c' < g ∧ Hid (c'.down = false))
  case atStart => exact ⟨c, HR.out, Fr.refl _ _ _, HS0.out, hg0, HD0.out⟩
  case round =>
    obtain ⟨c', hr, hf, hs, hg, hdn⟩ := hrel
    clear HR HS0 HD0 hg0
    obtain ⟨g, rfl⟩ : ∃ g, gk = g + 1 := ⟨gk - 1, by omega⟩
    have hsk := hs.out
    rw [seek] at hsk
    have HFR := Lib.hid (free_any B p c' v used wr hr.out (HU.out.fr hf.out))
    rcases freeM_spec c' used with ⟨hb, _⟩ | ⟨b, hb, b1, b2, b3, _⟩
    · rw [hb] at HFR hsk
      rw [if_pos (by omega)] at hsk
      have HS := Lib.hid hsk
      clear hb hsk hs
      have t1 : decide ((-1 : Int) < 0) = true := by decide
      go_wp2_with (go_at_call 115; refine HFR.out.mono ?_; rintro e w' ⟨rfl, rfl⟩)
      exact FIN.out _ _ 0 8 c' HS.out hr.out hf.out rfl rfl
    · rw [hb] at HFR hsk
      rw [if_neg (by omega)] at hsk
      have hce := cerase_any B p c' (b : Int) wr hr.out
      have h7 := erase_seven hr.out.wf hdn.out b2 b3
      have t1 : decide ((b : Int) < 0) = false := decide_eq_false (by omega)
      obtain ⟨⟨c2, n⟩, he⟩ : ∃ r, c'.erase (b : Int) = r := ⟨_, rfl⟩
      rw [he] at hsk hce h7
      simp only at hsk h7
      by_cases hn7 : n = 7
      · subst hn7
        rw [if_pos rfl] at hsk
        obtain ⟨h71, h72⟩ := h7 rfl
        subst h71
        have hg2 := goods_spoil b2 b3 h72
        rw [show errV ((c'.spoil b, 7) : Chip × Nat).2 = .iface 107 (.int .i64 7) from rfl] at hce
        have HS := Lib.hid hsk
        have HCE := Lib.hid hce
        have HDN : Hid ((c'.spoil b).down = false) := by rw [Hid, (spoil_rest c' b).1]; exact hdn.out
        clear hsk hce h7 he hb hs h72
        go_wp2_with (first | (go_at_call 115; refine HFR.out.mono ?_; rintro e w' ⟨rfl, rfl⟩) | (go_at_call 39; refine HCE.out.mono ?_; rintro e w2 ⟨rfl, hr2, hf2⟩; have HR2 := Lib.hid hr2; have HF2 := Lib.hid (hf.out.trans hf2 (fun _ _ => trivial)); clear hr2 hf2))
        go_roundg g
        case measure => omega
        case rel => exact ⟨_, HR2, HF2, HS, by omega, HDN⟩
      · rw [if_neg hn7] at hsk
        by_cases hn0 : n = 0
        · subst hn0
          rw [if_pos rfl] at hsk
          rw [show errV ((c2, 0) : Chip × Nat).2 = .nilIface from rfl] at hce
          have HS := Lib.hid hsk
          have HCE := Lib.hid hce
          clear hsk hce h7 he hb hs hn7
          go_wp2_with (first | (go_at_call 115; refine HFR.out.mono ?_; rintro e w' ⟨rfl, rfl⟩) | (go_at_call 39; refine HCE.out.mono ?_; rintro e w2 ⟨rfl, hr2, hf2⟩; have HR2 := Lib.hid hr2; have HF2 := Lib.hid (hf.out.trans hf2 (fun _ _ => trivial)); clear hr2 hf2))
          exact FIN.out _ _ b 0 c2 HS.out HR2.out HF2.out rfl rfl
        · rw [if_neg hn0] at hsk
          rw [show errV ((c2, n) : Chip × Nat).2 = _ from errV_pos hn0] at hce
          have HE := Lib.hid (errV_pos hn0)
          have t2 : (((n : Nat) : Int) == 7) = false := beq_eq_false_iff_ne.2 (by omega)
          have HS := Lib.hid hsk
          have HCE := Lib.hid hce
          clear hsk hce h7 he hb hs hn7 hn0
          go_wp2_with (first | (go_at_call 115; refine HFR.out.mono ?_; rintro e w' ⟨rfl, rfl⟩) | (go_at_call 39; refine HCE.out.mono ?_; rintro e w2 ⟨rfl, hr2, hf2⟩; have HR2 := Lib.hid hr2; have HF2 := Lib.hid (hf.out.trans hf2 (fun _ _ => trivial)); clear hr2 hf2))
          exact FIN.out _ _ 0 n c2 HS.out HR2.out HF2.out rfl (by rw [HE.out]; rfl)
end Go.Proofs.Ytaepdbkfaoiimab
/- Towers as they lie in memory, and the plain laws of putting a node in. Conditions: none but those that each law names. -/
set_option linter.unusedVariables false
set_option linter.unusedSimpArgs false
namespace Go.Proofs.Ytaepdbkfaoiimab
open Go.RowKit

/-- A node: its block, its entry, how high it is. -/
structure Nd where
  b : Nat
  e : Ent
  h : Nat
/-- The first node that is higher than f. -/
def nxt (f : Nat) : List Nd → Option Addr
  | [] => none
  | nd :: l => if f < nd.h then some ⟨nd.b, 0, none⟩ else nxt f l

/-- The cells: N b f is the pointer of block b on floor f. -/
structure TRep (w : World) (t : Nat) (ns : List Nd) (N : Nat → Nat → Option Addr) (cnt : Int) : Prop where
  head : Blk w t 103 #[.string ByteArray.empty, .string ByteArray.empty, .bool false, .pointer (N t 0), .pointer (N t 1), .pointer (N t 2), .pointer (N t 3), .int .i64 cnt]
  node : ∀ nd ∈ ns, Blk w nd.b 101 #[.string nd.e.k, .string nd.e.v, .bool nd.e.g, .pointer (N nd.b 0), .pointer (N nd.b 1), .pointer (N nd.b 2), .pointer (N nd.b 3)]
/-- The pointers are those of the floors. -/
structure TVal (t : Nat) (ns : List Nd) (N : Nat → Nat → Option Addr) : Prop where
  head : ∀ f, f < 4 → N t f = nxt f ns
  node : ∀ i nd, ns[i]? = some nd → ∀ f, f < nd.h → N nd.b f = nxt f (ns.drop (i + 1))
structure TOk (ns : List Nd) : Prop where
  nodup : (ns.map Nd.b).Nodup
  high : ∀ nd ∈ ns, 1 ≤ nd.h ∧ nd.h ≤ 4 ∧ EntOk nd.e
  rises : Rises (ns.map Nd.e)

/-- A tower at block t that has the entries l, over the blocks F. -/
def Tower (B : Nat) (w : World) (t : Nat) (l : List Ent) (F : List Nat) : Prop :=
  ∃ ns N, TRep w t ns N ns.length ∧ TVal t ns N ∧ TOk ns ∧ l = ns.map Nd.e ∧ F = t :: ns.map Nd.b ∧ ∀ b ∈ F, B ≤ b

section
variable {B : Nat} {M : Nat → Prop} {w w' : World} {t : Nat} {ns : List Nd} {N : Nat → Nat → Option Addr} {cnt : Int} {l : List Ent} {F : List Nat}
theorem TRep.keep (h : TRep w t ns N cnt) (hk : ∀ b, b < w.heap.size → (b = t ∨ b ∈ ns.map Nd.b) → w'.heap[b]? = w.heap[b]?) : TRep w' t ns N cnt :=
  ⟨(hk t h.head.lt (.inl rfl)).trans h.head, fun nd hnd => (hk nd.b (h.node nd hnd).lt (.inr (List.mem_map.2 ⟨nd, hnd, rfl⟩))).trans (h.node nd hnd)⟩
theorem TRep.below (h : TRep w t ns N cnt) (hb : Below w.heap.size w w') : TRep w' t ns N cnt := h.keep fun b hb' _ => hb.block b hb'
theorem Tower.below (h : Tower B w t l F) (hb : Below w.heap.size w w') : Tower B w' t l F := by
  obtain ⟨ns, N, h1, h2⟩ := h
  exact ⟨ns, N, h1.below hb, h2⟩
theorem Tower.fr (h : Tower B w t l F) (hf : Fr B M w w') (hM : ∀ b ∈ F, ¬ M b) : Tower B w' t l F := by
  obtain ⟨ns, N, h1, h2, h3, h4, rfl, h6⟩ := h
  refine ⟨ns, N, h1.keep fun b hb hm => hf.block b hb (.inr (.inl (hM b ?_))), h2, h3, h4, rfl, h6⟩
  rcases hm with rfl | hm
  · simp
  · simp [hm]
theorem Tower.lt (h : Tower B w t l F) : ∀ b ∈ F, b < w.heap.size := by
  obtain ⟨ns, N, h1, h2, h3, h4, rfl, h6⟩ := h
  intro b hb
  rcases List.mem_cons.1 hb with rfl | hb
  · exact h1.head.lt
  · obtain ⟨nd, hnd, rfl⟩ := List.mem_map.1 hb
    exact (h1.node nd hnd).lt
theorem Tower.mut (h : Tower B w t l F) : ∀ b ∈ F, ∃ cs T fz, w.heap[b]? = some (.cells cs T fz) ∧ mutT T = true := by
  obtain ⟨ns, N, h1, h2, h3, h4, rfl, h6⟩ := h
  intro b hb
  rcases List.mem_cons.1 hb with rfl | hb
  · exact ⟨_, _, _, h1.head, by decide⟩
  · obtain ⟨nd, hnd, rfl⟩ := List.mem_map.1 hb
    exact ⟨_, _, _, h1.node nd hnd, by decide⟩
theorem Tower.rises (h : Tower B w t l F) : Rises l := by
  obtain ⟨ns, N, h1, h2, h3, rfl, _⟩ := h; exact h3.rises
theorem Tower.ok (h : Tower B w t l F) : ∀ e ∈ l, EntOk e := by
  obtain ⟨ns, N, h1, h2, h3, rfl, _⟩ := h
  intro e he
  obtain ⟨nd, hnd, rfl⟩ := List.mem_map.1 he
  exact (h3.high nd hnd).2.2
theorem Tower.drewN (h : Tower B w t l F) (n : Nat) : Tower B (w.drewN n) t l F := by
  obtain ⟨ns, N, h1, h2⟩ := h
  exact ⟨ns, N, ⟨h1.head, h1.node⟩, h2⟩
theorem TRep.ne (h : TRep w t ns N cnt) : ∀ nd ∈ ns, nd.b ≠ t := by
  intro nd hnd e
  have h1 := h.node nd hnd
  have h2 := h.head
  unfold Blk at h1 h2
  rw [e, h2] at h1
  injection h1 with h1
  injection h1 with _ h1
  exact absurd h1 (by decide)
end

/-! ### the way to a key -/
/-- The pointer to position i: 0: the head; else the node ahead of it in number. -/
def blkOf (t : Nat) (ns : List Nd) (i : Nat) : Nat := if i = 0 then t else ((ns[i - 1]?).map Nd.b).getD 0
def hOf (ns : List Nd) (i : Nat) : Nat := if i = 0 then 4 else ((ns[i - 1]?).map Nd.h).getD 0
/-- Position i is the last one on floor f among the first m. -/
def IsLast (ns : List Nd) (m f i : Nat) : Prop := i ≤ m ∧ f < hOf ns i ∧ ∀ j, i < j → j ≤ m → hOf ns j ≤ f
theorem hOf_succ {ns : List Nd} {i : Nat} {nd : Nd} (h : ns[i]? = some nd) : hOf ns (i + 1) = nd.h := by simp [hOf, h]
theorem blkOf_succ {t : Nat} {ns : List Nd} {i : Nat} {nd : Nd} (h : ns[i]? = some nd) : blkOf t ns (i + 1) = nd.b := by simp [blkOf, h]
/-- What the pointer on floor f of position i is. -/
theorem TVal.at_ {t : Nat} {ns : List Nd} {N : Nat → Nat → Option Addr} (h : TVal t ns N) {i f : Nat} (hi : i ≤ ns.length) (hf : f < hOf ns i) (h4 : f < 4) : N (blkOf t ns i) f = nxt f (ns.drop i) := by
  cases i with
  | zero => simpa [blkOf] using h.head f h4
  | succ i =>
    obtain ⟨nd, hnd, _⟩ := getElem?_of_lt (show i < ns.length by omega)
    rw [hOf_succ hnd] at hf
    rw [blkOf_succ hnd, h.node i nd hnd f hf]
theorem nxt_none {f : Nat} : ∀ {l : List Nd}, nxt f l = none → ∀ nd ∈ l, nd.h ≤ f
  | [], _, nd, h => by cases h
  | x :: l, h, nd, hm => by
    unfold nxt at h
    split at h
    · cases h
    · rcases List.mem_cons.1 hm with rfl | hm
      · omega
      · exact nxt_none h nd hm
theorem nxt_some {f : Nat} {a : Addr} : ∀ {l : List Nd}, nxt f l = some a → ∃ (j : Nat) (nd : Nd), l[j]? = some nd ∧ f < nd.h ∧ a = ⟨nd.b, 0, none⟩ ∧ ∀ (j' : Nat) (nd' : Nd), j' < j → l[j']? = some nd' → nd'.h ≤ f
  | [], h => by cases h
  | x :: l, h => by
    unfold nxt at h
    split at h
    · rename_i hx
      exact ⟨0, x, rfl, hx, (Option.some.inj h).symm, fun j' nd' hj _ => by omega⟩
    · rename_i hx
      obtain ⟨j, nd, h1, h2, h3, h4⟩ := nxt_some h
      refine ⟨j + 1, nd, h1, h2, h3, fun j' nd' hj hnd => ?_⟩
      cases j' with
      | zero => simp at hnd; subst hnd; omega
      | succ j' => exact h4 j' nd' (by omega) hnd
theorem nxt_at {f : Nat} {l : List Nd} {j : Nat} {nd : Nd} (h1 : l[j]? = some nd) (h2 : f < nd.h) (h3 : ∀ (j' : Nat) (nd' : Nd), j' < j → l[j']? = some nd' → nd'.h ≤ f) : nxt f l = some ⟨nd.b, 0, none⟩ := by
  induction l generalizing j with
  | nil => simp at h1
  | cons x l ih =>
    unfold nxt
    cases j with
    | zero => simp at h1; subst h1; rw [if_pos h2]
    | succ j =>
      have hx := h3 0 x (by omega) rfl
      rw [if_neg (by omega)]
      exact ih (by simpa using h1) (fun j' nd' hj hnd => h3 (j' + 1) nd' (by omega) (by simpa using hnd))
theorem nxt_none_of {f : Nat} {l : List Nd} (h : ∀ nd ∈ l, nd.h ≤ f) : nxt f l = none := by
  induction l with
  | nil => rfl
  | cons x l ih =>
    unfold nxt
    rw [if_neg (by have := h x (by simp); omega)]
    exact ih fun nd hnd => h nd (by simp [hnd])

/-- How many entries are below a key. -/
def below (ns : List Nd) (k : ByteArray) : Nat := (ns.takeWhile fun nd => ltB nd.e.k k).length
theorem below_le (ns : List Nd) (k : ByteArray) : below ns k ≤ ns.length := by
  unfold below; exact (List.takeWhile_sublist _).length_le
theorem below_lt {ns : List Nd} (hr : Rises (ns.map Nd.e)) (k : ByteArray) : ∀ (i : Nat) (nd : Nd), ns[i]? = some nd → (ltB nd.e.k k = true ↔ i < below ns k) := by
  induction ns with
  | nil => intro i nd h; simp at h
  | cons x ns ih =>
    intro i nd h
    rw [List.map_cons, rises_cons] at hr
    unfold below
    cases hx : ltB x.e.k k
    · rw [List.takeWhile_cons, hx]
      simp only [Bool.false_eq_true, if_false, List.length_nil, Nat.not_lt_zero, iff_false]
      intro hlt
      cases i with
      | zero => simp at h; subst h; rw [hx] at hlt; cases hlt
      | succ i =>
        simp at h
        have := hr.1 nd.e (List.mem_map.2 ⟨nd, List.mem_of_getElem? h, rfl⟩)
        rw [ltB_trans this hlt] at hx
        cases hx
    · rw [List.takeWhile_cons, hx]
      simp only [if_true, List.length_cons]
      cases i with
      | zero => simp at h; subst h; simp [hx]
      | succ i =>
        simp at h
        rw [ih hr.2 i nd h]
        unfold below
        omega

/-! ### a node is put in -/
theorem nxt_append (f : Nat) (a b : List Nd) : nxt f (a ++ b) = (nxt f a).or (nxt f b) := by
  induction a with
  | nil => rfl
  | cons x a ih =>
    rw [List.cons_append, nxt, nxt]
    split
    · rfl
    · exact ih
theorem nxt_drop {f m i : Nat} {ns : List Nd} (hi : i ≤ m) (hm : m ≤ ns.length) : nxt f (ns.drop i) = (nxt f ((ns.take m).drop i)).or (nxt f (ns.drop m)) := by
  rw [← nxt_append]
  congr 1
  have h : ns = ns.take m ++ ns.drop m := (List.take_append_drop m ns).symm
  have h2 : (ns.take m ++ ns.drop m).drop i = (ns.take m).drop i ++ ns.drop m := by
    rw [List.drop_append, show i - (ns.take m).length = 0 by rw [List.length_take]; omega, List.drop_zero]
  rw [← h2, ← h]
theorem nxt_last_none {f m i : Nat} {ns : List Nd} (hm : m ≤ ns.length) (h : IsLast ns m f i) : nxt f ((ns.take m).drop i) = none := by
  refine nxt_none_of fun nd hnd => ?_
  obtain ⟨j, hj⟩ := List.getElem?_of_mem hnd
  rw [List.getElem?_drop, List.getElem?_take] at hj
  split at hj
  · rename_i hlt
    have h1 := h.2.2 (i + j + 1) (by omega) (by omega)
    rw [hOf_succ hj] at h1
    exact h1
  · cases hj
theorem nxt_before_some {f m i q : Nat} {ns : List Nd} (hm : m ≤ ns.length) (h : IsLast ns m f q) (hi : i < q) : ∃ a, nxt f ((ns.take m).drop i) = some a := by
  cases hx : nxt f ((ns.take m).drop i) with
  | some a => exact ⟨a, rfl⟩
  | none =>
    have hq := h.1
    obtain ⟨nd, hnd, _⟩ := getElem?_of_lt (show q - 1 < ns.length by omega)
    have h1 := hOf_succ hnd
    rw [show q - 1 + 1 = q by omega] at h1
    have h2 := nxt_none hx nd (by
      rw [List.mem_iff_getElem?]
      exact ⟨q - 1 - i, by rw [List.getElem?_drop, show i + (q - 1 - i) = q - 1 by omega, List.getElem?_take, if_pos (by omega)]; exact hnd⟩)
    have h3 := h.2.1
    omega
theorem last_le {f m i q : Nat} {ns : List Nd} (h : IsLast ns m f q) (hi : i ≤ m) (hf : f < hOf ns i) : i ≤ q := by
  rcases Nat.lt_or_ge q i with hlt | hge
  · have := h.2.2 i hlt hi; omega
  · exact hge
/-- Two positions of one block are one. -/
theorem blkOf_inj {t : Nat} {ns : List Nd} (hn : (t :: ns.map Nd.b).Nodup) {i j : Nat} (hi : i ≤ ns.length) (hj : j ≤ ns.length) (h : blkOf t ns i = blkOf t ns j) : i = j := by
  have e : ∀ k, k ≤ ns.length → (t :: ns.map Nd.b)[k]? = some (blkOf t ns k) := by
    intro k hk
    cases k with
    | zero => rfl
    | succ k =>
      obtain ⟨nd, hnd, _⟩ := getElem?_of_lt (show k < ns.length by omega)
      rw [blkOf_succ hnd, List.getElem?_cons_succ, List.getElem?_map, hnd]; rfl
  have h1 := e i hi
  have h2 := e j hj
  rw [h] at h1
  exact (List.getElem?_inj (show i < (t :: ns.map Nd.b).length by simp; omega) hn).1 (h1.trans h2.symm)
theorem blkOf_mem {t : Nat} {ns : List Nd} {i : Nat} (hi : i ≤ ns.length) : blkOf t ns i = t ∨ blkOf t ns i ∈ ns.map Nd.b := by
  cases i with
  | zero => exact .inl rfl
  | succ i =>
    obtain ⟨nd, hnd, _⟩ := getElem?_of_lt (show i < ns.length by omega)
    rw [blkOf_succ hnd]
    exact .inr (List.mem_map.2 ⟨nd, List.mem_of_getElem? hnd, rfl⟩)

/-- The pointers behind f floors of a node nb that is put in behind the blocks W. -/
def putN (N : Nat → Nat → Option Addr) (nb : Nat) (W : Nat → Nat) (f : Nat) : Nat → Nat → Option Addr :=
  fun b g => if g < f then (if b = nb then N (W g) g else if b = W g then some ⟨nb, 0, none⟩ else N b g) else if b = nb then none else N b g
def upd (N : Nat → Nat → Option Addr) (b f : Nat) (v : Option Addr) : Nat → Nat → Option Addr := fun b' g => if b' = b ∧ g = f then v else N b' g
theorem putN_succ (N : Nat → Nat → Option Addr) (nb : Nat) (W : Nat → Nat) (f : Nat) (hW : W f ≠ nb) : putN N nb W (f + 1) = upd (upd (putN N nb W f) nb f (N (W f) f)) (W f) f (some ⟨nb, 0, none⟩) := by
  funext b g
  unfold putN upd
  by_cases hg : g = f
  · subst hg
    by_cases hb : b = nb
    · subst hb; simp [Ne.symm hW]
    · by_cases hb2 : b = W g
      · subst hb2; simp [hW]
      · simp [hb, hb2]
  · have h1 : (g < f + 1) ↔ (g < f) := by omega
    simp [hg, h1]
theorem TRep.set_ {w : World} {t : Nat} {ns : List Nd} {N : Nat → Nat → Option Addr} {cnt : Int} (h : TRep w t ns N cnt) (hn : (t :: ns.map Nd.b).Nodup) {b f : Nat} (hb : b = t ∨ b ∈ ns.map Nd.b) (hf : f < 4) (v : Option Addr) :
    TRep (w.setCell ⟨b, 3 + f, none⟩ (.pointer v)) t ns (upd N b f v) cnt := by
  have hnd := List.nodup_cons.1 hn
  have hhead : ∀ c, (upd N b f v) c = if c = b then (fun g => if g = f then v else N b g) else N c := by
    intro c; funext g; unfold upd; by_cases hc : c = b
    · subst hc; simp
    · simp [hc]
  refine ⟨?_, fun nd hmem => ?_⟩
  · rw [hhead]
    by_cases hbt : b = t
    · subst hbt
      rw [if_pos rfl]
      have h1 := h.head.set_ (3 + f) (.pointer v)
      match f, hf with
      | 0, _ => exact h1
      | 1, _ => exact h1
      | 2, _ => exact h1
      | 3, _ => exact h1
    · rw [if_neg (Ne.symm hbt)]
      exact h.head.far (Ne.symm hbt) _
  · rw [hhead]
    by_cases hbn : b = nd.b
    · subst hbn
      rw [if_pos rfl]
      have h1 := (h.node nd hmem).set_ (3 + f) (.pointer v)
      match f, hf with
      | 0, _ => exact h1
      | 1, _ => exact h1
      | 2, _ => exact h1
      | 3, _ => exact h1
    · rw [if_neg (Ne.symm hbn)]
      exact (h.node nd hmem).far (Ne.symm hbn) _

theorem TVal.put {t : Nat} {ns : List Nd} {N : Nat → Nat → Option Addr} {m nb h : Nat} {e : Ent} {q : Nat → Nat} (hv : TVal t ns N) (ho : TOk ns) (hm : m ≤ ns.length) (hh : 1 ≤ h ∧ h ≤ 4) (hn : (t :: ns.map Nd.b).Nodup)
    (hnb : nb ≠ t ∧ nb ∉ ns.map Nd.b) (hq : ∀ f, f < 4 → IsLast ns m f (q f)) :
    TVal t (ns.take m ++ ⟨nb, e, h⟩ :: ns.drop m) (putN N nb (fun f => blkOf t ns (q f)) h) := by
  -- a position at or ahead of m
  have low : ∀ i f, i ≤ m → f < 4 → f < hOf ns i → putN N nb (fun f => blkOf t ns (q f)) h (blkOf t ns i) f = nxt f ((ns.take m).drop i ++ ⟨nb, e, h⟩ :: ns.drop m) := by
    intro i f hi hf4 hfi
    have hne : blkOf t ns i ≠ nb := by
      rcases blkOf_mem (t := t) (ns := ns) (i := i) (by omega) with h1 | h1
      · rw [h1]; exact fun e => hnb.1 e.symm
      · intro e; rw [e] at h1; exact hnb.2 h1
    have hat := hv.at_ (i := i) (f := f) (by omega) hfi hf4
    rw [nxt_append, nxt]
    unfold putN
    rw [if_neg hne, if_neg hne]
    by_cases hfh : f < h
    · rw [if_pos hfh, if_pos hfh]
      by_cases hiq : i = q f
      · subst hiq
        rw [if_pos rfl, nxt_last_none hm (hq f hf4)]; rfl
      · rw [if_neg (fun e => hiq (blkOf_inj hn (by omega) (by have := (hq f hf4).1; omega) e)), hat, nxt_drop hi hm]
        have hlt : i < q f := by have := last_le (hq f hf4) hi hfi; omega
        obtain ⟨a, ha⟩ := nxt_before_some hm (hq f hf4) hlt
        rw [ha]; rfl
    · rw [if_neg hfh, if_neg hfh, hat, nxt_drop hi hm]
  have htl : (ns.take m).length = m := by rw [List.length_take]; omega
  refine ⟨fun f hf => ?_, fun i nd hi f hf => ?_⟩
  · have := low 0 f (Nat.zero_le _) hf (by simpa [hOf] using hf)
    simpa [blkOf] using this
  · rcases Nat.lt_or_ge i m with hlt | hge
    · rw [List.getElem?_append_left (by omega), List.getElem?_take, if_pos hlt] at hi
      have h4 := (ho.high nd (List.mem_of_getElem? hi)).2.1
      have := low (i + 1) f (by omega) (by omega) (by rw [hOf_succ hi]; exact hf)
      rw [blkOf_succ hi] at this
      rw [this, List.drop_append, show i + 1 - (ns.take m).length = 0 by omega, List.drop_zero]
    · rw [List.getElem?_append_right (by omega), htl] at hi
      rcases Nat.eq_or_lt_of_le hge with heq | hgt
      · subst heq
        rw [Nat.sub_self, List.getElem?_cons_zero] at hi
        obtain rfl := Option.some.inj hi
        simp only at hf
        have hqm := hq f (by omega)
        unfold putN
        rw [if_pos hf, if_pos rfl, hv.at_ (by have := hqm.1; omega) hqm.2.1 (by omega), nxt_drop hqm.1 hm, nxt_last_none hm hqm]
        have hd : (ns.take m).drop (m + 1) = [] := List.drop_eq_nil_of_le (by omega)
        rw [List.drop_append, hd, htl, show m + 1 - m = 1 by omega]
        rfl
      · rw [show i - m = (i - m - 1) + 1 by omega, List.getElem?_cons_succ, List.getElem?_drop, show m + (i - m - 1) = i - 1 by omega] at hi
        have hne : nd.b ≠ nb := fun e => hnb.2 (List.mem_map.2 ⟨nd, List.mem_of_getElem? hi, e⟩)
        have hil : i - 1 < ns.length := (List.getElem?_eq_some_iff.1 hi).1
        have h4 := (ho.high nd (List.mem_of_getElem? hi)).2.1
        have hbl := blkOf_succ (t := t) hi
        rw [show i - 1 + 1 = i by omega] at hbl
        have hnW : nd.b ≠ blkOf t ns (q f) := by
          rw [← hbl]
          intro e
          have h1 := (hq f (by omega)).1
          have := blkOf_inj hn (by omega) (by omega) e
          omega
        have hval := hv.node (i - 1) nd hi f hf
        rw [show i - 1 + 1 = i by omega] at hval
        have hput : putN N nb (fun f => blkOf t ns (q f)) h nd.b f = N nd.b f := by
          unfold putN
          rw [if_neg hne, if_neg hne, if_neg hnW]
          split <;> rfl
        have hd : (ns.take m).drop (i + 1) = [] := List.drop_eq_nil_of_le (by omega)
        rw [hput, hval, List.drop_append, hd, htl, List.nil_append, show i + 1 - m = (i - m) + 1 by omega, List.drop_succ_cons, List.drop_drop, show m + (i - m) = i by omega]

/-! ### what putting makes of the entries -/
theorem merge2_at (e : Ent) : ∀ (l : List Ent), merge2 [e] l = l.takeWhile (fun x => ltB x.k e.k) ++ e :: (match l.dropWhile (fun x => ltB x.k e.k) with | [] => [] | x :: r => if x.k = e.k then r else x :: r)
  | [] => by simp [merge2]
  | x :: l => by
    rw [merge2]
    cases h1 : ltB e.k x.k
    · cases h2 : ltB x.k e.k
      · have hk := ltB_tri h1 h2
        rw [List.takeWhile_cons, h2, List.dropWhile_cons, h2]
        simp [hk, merge2]
      · rw [List.takeWhile_cons, h2, List.dropWhile_cons, h2]
        simp only [Bool.false_eq_true, if_false, if_true, List.cons_append]
        rw [merge2_at e l]
    · have h2 := ltB_asymm h1
      rw [List.takeWhile_cons, h2, List.dropWhile_cons, h2]
      have hk := (ltB_ne h1).symm
      simp [hk, merge2]
theorem takeWhile_map' (p : Ent → Bool) : ∀ ns : List Nd, (ns.map Nd.e).takeWhile p = (ns.takeWhile fun nd => p nd.e).map Nd.e
  | [] => rfl
  | x :: ns => by
    rw [List.map_cons, List.takeWhile_cons, List.takeWhile_cons]
    split
    · rw [takeWhile_map' p ns]; rfl
    · rfl
theorem dropWhile_map' (p : Ent → Bool) : ∀ ns : List Nd, (ns.map Nd.e).dropWhile p = (ns.dropWhile fun nd => p nd.e).map Nd.e
  | [] => rfl
  | x :: ns => by
    rw [List.map_cons, List.dropWhile_cons, List.dropWhile_cons]
    split
    · rw [dropWhile_map' p ns]
    · rfl
theorem take_while (p : Nd → Bool) : ∀ ns : List Nd, ns.takeWhile p = ns.take (ns.takeWhile p).length ∧ ns.dropWhile p = ns.drop (ns.takeWhile p).length
  | [] => ⟨rfl, rfl⟩
  | x :: ns => by
    rw [List.takeWhile_cons, List.dropWhile_cons]
    split
    · obtain ⟨h1, h2⟩ := take_while p ns
      exact ⟨by rw [List.length_cons, List.take_succ_cons, ← h1], by rw [List.length_cons, List.drop_succ_cons, ← h2]⟩
    · exact ⟨rfl, rfl⟩
theorem put_at {ns : List Nd} (hr : Rises (ns.map Nd.e)) (e : Ent) : putE (ns.map Nd.e) e = (ns.take (below ns e.k)).map Nd.e ++ e :: (match ns.drop (below ns e.k) with | [] => [] | x :: r => if x.e.k = e.k then r.map Nd.e else (x :: r).map Nd.e) := by
  obtain ⟨h1, h2⟩ := take_while (fun nd => ltB nd.e.k e.k) ns
  rw [putE_eq e _ hr, merge2_at, takeWhile_map', dropWhile_map', h1, h2]
  unfold below
  congr 2
  cases ns.drop (ns.takeWhile fun nd => ltB nd.e.k e.k).length with
  | nil => rfl
  | cons x r => simp only [List.map_cons]

/-! ### an entry takes another one's place -/
def sh (l : List Nd) : List (Nat × Nat) := l.map fun nd => (nd.b, nd.h)
theorem nxt_sh (f : Nat) : ∀ {a b : List Nd}, sh a = sh b → nxt f a = nxt f b
  | [], [], _ => rfl
  | [], y :: b, h => by simp [sh] at h
  | x :: a, [], h => by simp [sh] at h
  | x :: a, y :: b, h => by
    simp only [sh, List.map_cons, List.cons.injEq, Prod.mk.injEq] at h
    obtain ⟨⟨h1, h2⟩, h3⟩ := h
    rw [nxt, nxt, h1, h2, nxt_sh f h3]
theorem TVal.same {t : Nat} {ns ns' : List Nd} {N : Nat → Nat → Option Addr} (h : TVal t ns N) (hs : sh ns' = sh ns) : TVal t ns' N := by
  refine ⟨fun f hf => (h.head f hf).trans (nxt_sh f hs.symm), fun i nd hi f hf => ?_⟩
  have h1 : (sh ns')[i]? = some (nd.b, nd.h) := by rw [sh, List.getElem?_map, hi]; rfl
  rw [hs, sh, List.getElem?_map] at h1
  cases hx : ns[i]? with
  | none => rw [hx] at h1; cases h1
  | some nd' =>
    rw [hx] at h1
    simp at h1
    rw [← h1.1, h.node i nd' hx f (by omega)]
    refine nxt_sh f ?_
    have e : ∀ l : List Nd, sh (l.drop (i + 1)) = (sh l).drop (i + 1) := fun l => by rw [sh, sh, List.map_drop]
    rw [e, e, hs]
theorem split_at {ns : List Nd} {m : Nat} {nd : Nd} (h : ns[m]? = some nd) : ns = ns.take m ++ nd :: ns.drop (m + 1) := by
  have hlt : m < ns.length := (List.getElem?_eq_some_iff.1 h).1
  have h1 := List.drop_eq_getElem_cons hlt
  rw [(List.getElem?_eq_some_iff.1 h).2] at h1
  rw [← h1, List.take_append_drop]
theorem sh_put {ns : List Nd} {m : Nat} {nd : Nd} (h : ns[m]? = some nd) (e : Ent) : sh (ns.take m ++ ⟨nd.b, e, nd.h⟩ :: ns.drop (m + 1)) = sh ns := by
  have h1 : sh ns = sh (ns.take m ++ nd :: ns.drop (m + 1)) := by rw [← split_at h]
  rw [h1]; simp [sh]
theorem TRep.put_ {w : World} {t : Nat} {ns : List Nd} {N : Nat → Nat → Option Addr} {cnt : Int} (h : TRep w t ns N cnt) (hn : (t :: ns.map Nd.b).Nodup) {m : Nat} {nd : Nd} (hm : ns[m]? = some nd) (e : Ent) :
    TRep (((w.setCell ⟨nd.b, 0, none⟩ (.string e.k)).setCell ⟨nd.b, 1, none⟩ (.string e.v)).setCell ⟨nd.b, 2, none⟩ (.bool e.g)) t (ns.take m ++ ⟨nd.b, e, nd.h⟩ :: ns.drop (m + 1)) N cnt := by
  have hsp := split_at hm
  have hmem := List.mem_of_getElem? hm
  have hbt : nd.b ≠ t := by
    intro e'
    have := (List.nodup_cons.1 hn).1
    exact this (e' ▸ List.mem_map.2 ⟨nd, hmem, rfl⟩)
  have hfar : ∀ {g T cs}, g ≠ nd.b → Blk w g T cs → Blk (((w.setCell ⟨nd.b, 0, none⟩ (.string e.k)).setCell ⟨nd.b, 1, none⟩ (.string e.v)).setCell ⟨nd.b, 2, none⟩ (.bool e.g)) g T cs :=
    fun hg hb => ((hb.far hg _).far hg _).far hg _
  have hn2 := (List.nodup_cons.1 hn).2
  rw [hsp, List.map_append, List.map_cons, List.nodup_append] at hn2
  refine ⟨hfar (Ne.symm hbt) h.head, fun x hx => ?_⟩
  rcases List.mem_append.1 hx with hx | hx
  · have hne : x.b ≠ nd.b := hn2.2.2 x.b (List.mem_map.2 ⟨x, hx, rfl⟩) nd.b (by simp)
    exact hfar hne (h.node x (List.mem_of_mem_take hx))
  · rcases List.mem_cons.1 hx with rfl | hx
    · have h1 := (((h.node nd hmem).set_ 0 (.string e.k)).set_ 1 (.string e.v)).set_ 2 (.bool e.g)
      exact h1
    · have hne : x.b ≠ nd.b := by
        intro e'
        have := (List.nodup_cons.1 hn2.2.1).1
        exact this (e' ▸ List.mem_map.2 ⟨x, hx, rfl⟩)
      exact hfar hne (h.node x (List.mem_of_mem_drop hx))

theorem TRep.cell_ {w : World} {t : Nat} {ns : List Nd} {N : Nat → Nat → Option Addr} {cnt : Int} (h : TRep w t ns N cnt) {b f : Nat} (hb : b = t ∨ b ∈ ns.map Nd.b) (hf : f < 4) :
    w.cell? ⟨b, 3 + f, none⟩ = some (.pointer (N b f)) ∧ w.frozen? ⟨b, 3 + f, none⟩ = false := by
  rcases hb with rfl | hb
  · refine ⟨?_, h.head.frozen _⟩
    rw [h.head.cell]
    match f, hf with
    | 0, _ => rfl
    | 1, _ => rfl
    | 2, _ => rfl
    | 3, _ => rfl
  · obtain ⟨nd, hnd, rfl⟩ := List.mem_map.1 hb
    refine ⟨?_, (h.node nd hnd).frozen _⟩
    rw [(h.node nd hnd).cell]
    match f, hf with
    | 0, _ => rfl
    | 1, _ => rfl
    | 2, _ => rfl
    | 3, _ => rfl

/-- Four positions as a function of the floor. -/
def at4 (i0 i1 i2 i3 : Nat) : Nat → Nat
  | 0 => i0
  | 1 => i1
  | 2 => i2
  | _ => i3
/-- What holds when f floors of the new node are done. -/
structure TPut (B : Nat) (w wr : World) (t : Nat) (ns : List Nd) (N : Nat → Nat → Option Addr) (a nb : Nat) (T : TypeId) (q : Nat → Nat) (e : Ent) (h f : Nat) : Prop where
  rep : TRep wr t (⟨nb, e, h⟩ :: ns) (putN N nb (fun f => blkOf t ns (q f)) f) ns.length
  arr : Blk wr a T #[.pointer (some ⟨blkOf t ns (q 0), 0, none⟩), .pointer (some ⟨blkOf t ns (q 1), 0, none⟩), .pointer (some ⟨blkOf t ns (q 2), 0, none⟩), .pointer (some ⟨blkOf t ns (q 3), 0, none⟩)]
  fr : Fr B (· ∈ t :: ns.map Nd.b) w wr
  new : w.heap.size ≤ nb
section
variable {B : Nat} {w wr : World} {t : Nat} {ns : List Nd} {N : Nat → Nat → Option Addr} {a nb : Nat} {T : TypeId} {q : Nat → Nat} {e : Ent} {h f : Nat}
theorem TPut.nodup (hp : TPut B w wr t ns N a nb T q e h f) (hold : TRep w t ns N ns.length) (hn : (t :: ns.map Nd.b).Nodup) : (t :: (Nd.mk nb e h :: ns).map Nd.b).Nodup := by
  have h1 : ∀ b ∈ t :: ns.map Nd.b, b < w.heap.size := by
    intro b hb
    rcases List.mem_cons.1 hb with rfl | hb
    · exact hold.head.lt
    · obtain ⟨nd, hnd, rfl⟩ := List.mem_map.1 hb; exact (hold.node nd hnd).lt
  have h2 := hp.new
  have hnd := List.nodup_cons.1 hn
  rw [List.map_cons, List.nodup_cons, List.nodup_cons]
  refine ⟨?_, ?_, hnd.2⟩
  · intro hm
    rcases List.mem_cons.1 hm with e1 | hm
    · have := h1 t (by simp); simp at e1; omega
    · exact hnd.1 hm
  · intro hm
    have := h1 nb (List.mem_cons_of_mem _ hm); omega
theorem TPut.facts (hp : TPut B w wr t ns N a nb T q e h f) (hold : TRep w t ns N ns.length) (hq : q f ≤ ns.length) (hf : f < 4) :
    wr.cell? ⟨a, f, none⟩ = some (.pointer (some ⟨blkOf t ns (q f), 0, none⟩)) ∧ wr.cell? ⟨blkOf t ns (q f), 3 + f, none⟩ = some (.pointer (N (blkOf t ns (q f)) f)) ∧ wr.frozen? ⟨blkOf t ns (q f), 3 + f, none⟩ = false ∧
      (∃ v, wr.cell? ⟨nb, 3 + f, none⟩ = some v) ∧ wr.frozen? ⟨nb, 3 + f, none⟩ = false ∧ blkOf t ns (q f) ≠ nb ∧ blkOf t ns (q f) < w.heap.size := by
  have hlt : blkOf t ns (q f) < w.heap.size := by
    rcases blkOf_mem (t := t) hq with h1 | h1
    · rw [h1]; exact hold.head.lt
    · obtain ⟨nd, hnd, h2⟩ := List.mem_map.1 h1; rw [← h2]; exact (hold.node nd hnd).lt
  have hne : blkOf t ns (q f) ≠ nb := by have := hp.new; omega
  have hm : blkOf t ns (q f) = t ∨ blkOf t ns (q f) ∈ (Nd.mk nb e h :: ns).map Nd.b := by
    rcases blkOf_mem (t := t) hq with h1 | h1
    · exact .inl h1
    · exact .inr (List.mem_cons_of_mem _ h1)
  have h1 := hp.rep.cell_ hm hf
  have h2 := hp.rep.cell_ (b := nb) (.inr (by simp)) hf
  have h3 : putN N nb (fun f => blkOf t ns (q f)) f (blkOf t ns (q f)) f = N (blkOf t ns (q f)) f := by
    unfold putN; rw [if_neg (by omega), if_neg hne]
  rw [h3] at h1
  refine ⟨?_, h1.1, h1.2, ⟨_, h2.1⟩, h2.2, hne, hlt⟩
  rw [hp.arr.cell]
  match f, hf with
  | 0, _ => rfl
  | 1, _ => rfl
  | 2, _ => rfl
  | 3, _ => rfl
theorem TPut.step (hp : TPut B w wr t ns N a nb T q e h f) (hold : TRep w t ns N ns.length) (hn : (t :: ns.map Nd.b).Nodup) (hq : q f ≤ ns.length) (hf : f < 4) (hB : ∀ b ∈ t :: ns.map Nd.b, B ≤ b) (hBw : B ≤ w.heap.size) (ha : a ≠ nb ∧ w.heap.size ≤ a) :
    TPut B w ((wr.setCell ⟨nb, 3 + f, none⟩ (.pointer (N (blkOf t ns (q f)) f))).setCell ⟨blkOf t ns (q f), 3 + f, none⟩ (.pointer (some ⟨nb, 0, none⟩))) t ns N a nb T q e h (f + 1) := by
  obtain ⟨_, _, _, _, _, hne, hlt⟩ := hp.facts hold hq hf
  have hnd := hp.nodup hold hn
  have hmem : blkOf t ns (q f) ∈ t :: ns.map Nd.b := by
    rcases blkOf_mem (t := t) hq with h1 | h1
    · rw [h1]; simp
    · exact List.mem_cons_of_mem _ h1
  have hm : blkOf t ns (q f) = t ∨ blkOf t ns (q f) ∈ (Nd.mk nb e h :: ns).map Nd.b := by
    rcases blkOf_mem (t := t) hq with h1 | h1
    · exact .inl h1
    · exact .inr (List.mem_cons_of_mem _ h1)
  refine ⟨?_, (hp.arr.far (by exact ha.1) _).far (by simp; omega) _, ?_, hp.new⟩
  · rw [putN_succ N nb (fun f => blkOf t ns (q f)) f hne]
    exact (hp.rep.set_ hnd (.inr (by simp)) hf _).set_ hnd hm hf _
  · refine (hp.fr.setCell (p := ⟨nb, 3 + f, none⟩) (Nat.le_trans hBw hp.new) (.inr hp.new) (fun h => by have := hp.new; simp at h; omega) _).setCell (p := ⟨blkOf t ns (q f), 3 + f, none⟩) (hB _ hmem) (.inl hmem) (fun _ => ?_) _
    rcases blkOf_mem (t := t) hq with h1 | h1
    · simp only [h1]; exact ⟨_, _, _, hold.head, by decide⟩
    · obtain ⟨nd, hnd, h2⟩ := List.mem_map.1 h1
      simp only [← h2]; exact ⟨_, _, _, hold.node nd hnd, by decide⟩
theorem TPut.drew (hp : TPut B w wr t ns N a nb T q e h f) : TPut B w wr.drew t ns N a nb T q e h f :=
  ⟨⟨hp.rep.head, hp.rep.node⟩, hp.arr, ⟨hp.fr.os, hp.fr.tape, hp.fr.output, hp.fr.size, hp.fr.block⟩, hp.new⟩
theorem TPut.cnt (hp : TPut B w wr t ns N a nb T q e h f) : wr.cell? ⟨t, 7, none⟩ = some (.int .i64 ns.length) ∧ wr.frozen? ⟨t, 7, none⟩ = false := by
  refine ⟨?_, hp.rep.head.frozen _⟩
  rw [hp.rep.head.cell]; rfl
theorem TPut.done (hp : TPut B w wr t ns N a nb T q e h h) (hold : TRep w t ns N ns.length) (hv : TVal t ns N) (ho : TOk ns) (hn : (t :: ns.map Nd.b).Nodup) (hB : ∀ b ∈ t :: ns.map Nd.b, B ≤ b) (hBw : B ≤ w.heap.size) (hh : 1 ≤ h ∧ h ≤ 4) (he : EntOk e)
    {m : Nat} (hm : m ≤ ns.length) (hq : ∀ f, f < 4 → IsLast ns m f (q f)) (hput : putE (ns.map Nd.e) e = (ns.take m ++ ⟨nb, e, h⟩ :: ns.drop m).map Nd.e) :
    Tower B (wr.setCell ⟨t, 7, none⟩ (.int .i64 ((ns.length : Int) + 1))) t (putE (ns.map Nd.e) e) (t :: (ns.take m).map Nd.b ++ nb :: (ns.drop m).map Nd.b) ∧ Fr B (· ∈ t :: ns.map Nd.b) w (wr.setCell ⟨t, 7, none⟩ (.int .i64 ((ns.length : Int) + 1))) := by
  have hnd := hp.nodup hold hn
  have hlt : ∀ b ∈ t :: ns.map Nd.b, b < w.heap.size := by
    intro b hb
    rcases List.mem_cons.1 hb with rfl | hb
    · exact hold.head.lt
    · obtain ⟨nd, hnd, rfl⟩ := List.mem_map.1 hb; exact (hold.node nd hnd).lt
  have hnb := hp.new
  have hmem : ∀ x, x ∈ ns.take m ++ ⟨nb, e, h⟩ :: ns.drop m ↔ x ∈ Nd.mk nb e h :: ns := by
    intro x
    have h0 : x ∈ ns ↔ x ∈ ns.take m ∨ x ∈ ns.drop m := by rw [← List.mem_append, List.take_append_drop]
    rw [List.mem_append, List.mem_cons, List.mem_cons, h0]
    constructor
    · rintro (h | h | h) <;> simp [h]
    · rintro (h | h | h) <;> simp [h]
  have hbne : nb ≠ t ∧ nb ∉ ns.map Nd.b := ⟨fun e => by have := hlt t (by simp); omega, fun hm => by have := hlt nb (List.mem_cons_of_mem _ hm); omega⟩
  refine ⟨⟨ns.take m ++ ⟨nb, e, h⟩ :: ns.drop m, putN N nb (fun f => blkOf t ns (q f)) h, ?_, hv.put ho hm hh hn hbne hq, ⟨?_, ?_, ?_⟩, hput, ?_, ?_⟩, ?_⟩
  · have hlen : (ns.take m ++ ⟨nb, e, h⟩ :: ns.drop m).length = ns.length + 1 := by simp; omega
    rw [hlen]
    refine ⟨?_, fun nd hnd' => ?_⟩
    · have h1 := hp.rep.head.set_ 7 (.int .i64 ((ns.length : Int) + 1))
      simpa using h1
    · have h1 := (hmem nd).1 hnd'
      refine (hp.rep.node nd h1).far ?_ _
      intro e'
      have h2 := (List.nodup_cons.1 hnd).1
      exact h2 (List.mem_map.2 ⟨nd, h1, e'⟩)
  · have h1 : (ns.map Nd.b).Nodup := ho.nodup
    rw [List.map_append, List.map_cons]
    rw [← List.take_append_drop m ns, List.map_append, List.nodup_append] at h1
    rw [List.nodup_append, List.nodup_cons]
    have h2 : ∀ x, x ∈ ns.take m ∨ x ∈ ns.drop m → x.b ≠ nb := by
      intro x hx e'
      refine hbne.2 (e' ▸ List.mem_map.2 ⟨x, ?_, rfl⟩)
      rcases hx with hx | hx
      · exact List.mem_of_mem_take hx
      · exact List.mem_of_mem_drop hx
    refine ⟨h1.1, ⟨fun hx => ?_, h1.2.1⟩, fun x hx y hy => ?_⟩
    · obtain ⟨x, hx, e'⟩ := List.mem_map.1 hx; exact h2 x (.inr hx) e'
    · rcases List.mem_cons.1 hy with rfl | hy
      · intro e'; obtain ⟨x', hx', e2⟩ := List.mem_map.1 hx; exact h2 x' (.inl hx') (e2.trans e')
      · exact h1.2.2 x hx y hy
  · intro nd hnd'
    rcases List.mem_cons.1 ((hmem nd).1 hnd') with rfl | h1
    · exact ⟨hh.1, hh.2, he⟩
    · exact ho.high nd h1
  · rw [← hput]; exact rises_put ho.rises e
  · simp
  · intro b hb
    simp only [List.cons_append, List.mem_cons, List.mem_append] at hb
    have h2 : ∀ b, b ∈ (ns.take m).map Nd.b ∨ b ∈ (ns.drop m).map Nd.b → B ≤ b := by
      intro b hb
      refine hB b (List.mem_cons_of_mem _ ?_)
      rcases hb with hb | hb
      · obtain ⟨x, hx, rfl⟩ := List.mem_map.1 hb; exact List.mem_map.2 ⟨x, List.mem_of_mem_take hx, rfl⟩
      · obtain ⟨x, hx, rfl⟩ := List.mem_map.1 hb; exact List.mem_map.2 ⟨x, List.mem_of_mem_drop hx, rfl⟩
    rcases hb with rfl | hb | rfl | hb
    · exact hB _ (by simp)
    · exact h2 b (.inl hb)
    · omega
    · exact h2 b (.inr hb)
  · exact hp.fr.setCell (p := ⟨t, 7, none⟩) (hB t (by simp)) (.inl (by simp)) (fun _ => ⟨_, _, _, hold.head, by decide⟩) _
end
end Go.Proofs.Ytaepdbkfaoiimab
