/- Several texts of this proof, one behind the other: walks and plain laws that the statement rests on. Conditions: none but those that each lemma names. -/
import Derived.Test.YtaepdbkfaoiimabGreatDoorGe
import Derived.Test.YtaepdbkfaoiimabGreatDoorGg
import Derived.Test.YtaepdbkfaoiimabGreatDoorGa
/- Plain: the newest manifest of the two first blocks, and what noting one leaves, behind a fall, too. Conditions: none but those that each names. -/
set_option linter.unusedVariables false
set_option linter.unusedSimpArgs false
namespace Go.Proofs.YtaepdbkfaoiimabGreatDoor
open Go.RowKit

/-- The manifest of a sheet. -/
def manS (s : Sheet) : Option Man := if s.t then none else manOf s.d
theorem fStep_eq (b : Int) (st : Man × Int) (s : Sheet) : fStep b st s = match manS s with | none => st | some m => if st.1.ep < m.ep then (m, b) else st := by
  unfold fStep manS
  cases s.t <;> rfl
theorem scan_le (b : Int) : ∀ (l : List Sheet) (st : Man × Int), st.1.ep ≤ (l.foldl (fStep b) st).1.ep ∧ ∀ s ∈ l, ∀ m, manS s = some m → m.ep ≤ (l.foldl (fStep b) st).1.ep
  | [], st => ⟨Int.le_refl _, fun s hs => by cases hs⟩
  | s :: l, st => by
    obtain ⟨h1, h2⟩ := scan_le b l (fStep b st s)
    have h3 : st.1.ep ≤ (fStep b st s).1.ep ∧ ∀ m, manS s = some m → m.ep ≤ (fStep b st s).1.ep := by
      rw [fStep_eq]
      cases hm : manS s with
      | none => exact ⟨Int.le_refl _, fun m h => by cases h⟩
      | some m =>
        have h : st.1.ep ≤ (if st.1.ep < m.ep then (m, b) else st).1.ep ∧ m.ep ≤ (if st.1.ep < m.ep then (m, b) else st).1.ep := by
          split
          · rename_i h; exact ⟨by show st.1.ep ≤ m.ep; omega, Int.le_refl _⟩
          · rename_i h; exact ⟨Int.le_refl _, by omega⟩
        exact ⟨h.1, fun x hx => by cases hx; exact h.2⟩
    refine ⟨Int.le_trans h3.1 h1, fun x hx m hm => ?_⟩
    rcases List.mem_cons.1 hx with rfl | hx
    · exact Int.le_trans (h3.2 m hm) h1
    · exact h2 x hx m hm
theorem scan_stay (b : Int) : ∀ (l : List Sheet) (st : Man × Int), (∀ s ∈ l, ∀ m, manS s = some m → m.ep ≤ st.1.ep) → l.foldl (fStep b) st = st
  | [], st, _ => rfl
  | s :: l, st, h => by
    have h1 : fStep b st s = st := by
      rw [fStep_eq]
      cases hm : manS s with
      | none => rfl
      | some m =>
        have := h s (by simp) m hm
        show (if st.1.ep < m.ep then (m, b) else st) = st
        rw [if_neg (by omega)]
    rw [List.foldl_cons, h1]
    exact scan_stay b l st fun x hx => h x (by simp [hx])
theorem scan_tag (b : Int) : ∀ (l : List Sheet) (st : Man × Int), l.foldl (fStep b) st = st ∨ (l.foldl (fStep b) st).2 = b
  | [], st => .inl rfl
  | s :: l, st => by
    rw [List.foldl_cons]
    rcases scan_tag b l (fStep b st s) with h | h
    · rw [h, fStep_eq]
      cases hm : manS s with
      | none => exact .inl rfl
      | some m =>
        show (if st.1.ep < m.ep then (m, b) else st) = st ∨ (if st.1.ep < m.ep then (m, b) else st).2 = b
        split
        · exact .inr rfl
        · exact .inl rfl
    · exact .inr h
/-- Where the scan has moved, a lower start moves to the same. -/
theorem scan_low (b : Int) : ∀ (l : List Sheet) (st st0 : Man × Int), st.2 ≠ b → (l.foldl (fStep b) st).2 = b → st0.1.ep ≤ st.1.ep → l.foldl (fStep b) st0 = l.foldl (fStep b) st
  | [], st, st0, h1, h2, _ => absurd h2 h1
  | s :: l, st, st0, h1, h2, h3 => by
    rw [List.foldl_cons] at h2
    rw [List.foldl_cons, List.foldl_cons]
    rw [fStep_eq] at h2
    rw [fStep_eq, fStep_eq]
    cases hm : manS s with
    | none => rw [hm] at h2; exact scan_low b l st st0 h1 h2 h3
    | some m =>
      rw [hm] at h2
      simp only at h2 ⊢
      by_cases hlt : st.1.ep < m.ep
      · rw [if_pos hlt, if_pos (by omega)]
      · rw [if_neg hlt] at h2 ⊢
        by_cases hlt0 : st0.1.ep < m.ep
        · rw [if_pos hlt0]
          exact scan_low b l st (m, b) h1 h2 (by show m.ep ≤ st.1.ep; omega)
        · rw [if_neg hlt0]
          exact scan_low b l st st0 h1 h2 h3

/-- The newest manifest of a chip, and in which of the two first blocks. -/
structure Head (c : Chip) (m : Man) (a : Int) : Prop where
  find : findM c = (m, a)
  at_ : a = 0 ∨ a = 1
theorem Head.le {c : Chip} {m : Man} {a : Int} (h : Head c m a) : (∀ s ∈ (c.b 0).l, ∀ x, manS s = some x → x.ep ≤ m.ep) ∧ ∀ s ∈ (c.b 1).l, ∀ x, manS s = some x → x.ep ≤ m.ep := by
  have h1 := scan_le 0 (c.b 0).l (Man.zero, -1)
  have h2 := scan_le 1 (c.b 1).l ((c.b 0).l.foldl (fStep 0) (Man.zero, -1))
  have e : (c.b 1).l.foldl (fStep 1) ((c.b 0).l.foldl (fStep 0) (Man.zero, -1)) = (m, a) := h.find
  rw [e] at h2
  exact ⟨fun s hs x hx => Int.le_trans (h1.2 s hs x hx) h2.1, h2.2⟩
theorem Head.same {c c' : Chip} {m : Man} {a : Int} (h : Head c m a) (h0 : (c'.b 0).l = (c.b 0).l) (h1 : (c'.b 1).l = (c.b 1).l) : Head c' m a :=
  ⟨by have := h.find; unfold findM at this ⊢; rw [h0, h1]; exact this, h.at_⟩
theorem Head.ep {c : Chip} {m : Man} {a : Int} (h : Head c m a) : 0 ≤ m.ep := by
  have h1 := scan_le 0 (c.b 0).l (Man.zero, -1)
  have h2 := scan_le 1 (c.b 1).l ((c.b 0).l.foldl (fStep 0) (Man.zero, -1))
  have e : (c.b 1).l.foldl (fStep 1) ((c.b 0).l.foldl (fStep 0) (Man.zero, -1)) = (m, a) := h.find
  rw [e] at h2
  exact Int.le_trans h1.1 h2.1
/-- A page without a manifest is laid behind those of the block. -/
theorem Head.idle {c c' : Chip} {m : Man} {a : Int} (h : Head c m a) {x : Sheet} (hx : manS x = none) (h1 : (c'.b a.toNat).l = (c.b a.toNat).l ++ [x]) (h2 : (c'.b (1 - a).toNat).l = (c.b (1 - a).toNat).l) : Head c' m a := by
  have e := h.find
  refine ⟨?_, h.at_⟩
  unfold findM at e ⊢
  rcases h.at_ with rfl | rfl
  · have h1 : (c'.b 0).l = (c.b 0).l ++ [x] := h1
    have h2 : (c'.b 1).l = (c.b 1).l := h2
    rw [h1, h2, List.foldl_append, List.foldl_cons, List.foldl_nil, fStep_eq, hx]
    exact e
  · have h1 : (c'.b 1).l = (c.b 1).l ++ [x] := h1
    have h2 : (c'.b 0).l = (c.b 0).l := h2
    rw [h1, h2, List.foldl_append, List.foldl_cons, List.foldl_nil, fStep_eq, hx]
    exact e
/-- A newer manifest is laid behind those of the block. -/
theorem Head.next {c c' : Chip} {m n : Man} {a : Int} (h : Head c m a) {x : Sheet} (hx : manS x = some n) (hn : m.ep < n.ep) (h1 : (c'.b a.toNat).l = (c.b a.toNat).l ++ [x]) (h2 : (c'.b (1 - a).toNat).l = (c.b (1 - a).toNat).l) : Head c' n a := by
  have e := h.find
  have hle := h.le
  refine ⟨?_, h.at_⟩
  unfold findM at e ⊢
  rcases h.at_ with rfl | rfl
  · have h1 : (c'.b 0).l = (c.b 0).l ++ [x] := h1
    have h2 : (c'.b 1).l = (c.b 1).l := h2
    have h3 := scan_le 1 (c.b 1).l ((c.b 0).l.foldl (fStep 0) (Man.zero, -1))
    rw [e] at h3
    rw [h1, h2, List.foldl_append, List.foldl_cons, List.foldl_nil, fStep_eq, hx]
    show (c.b 1).l.foldl (fStep 1) (if _ < n.ep then (n, 0) else _) = _
    rw [if_pos (Int.lt_of_le_of_lt h3.1 hn)]
    exact scan_stay 1 _ _ fun s hs y hy => by have := hle.2 s hs y hy; show y.ep ≤ n.ep; omega
  · have h1 : (c'.b 1).l = (c.b 1).l ++ [x] := h1
    have h2 : (c'.b 0).l = (c.b 0).l := h2
    rw [h1, h2, List.foldl_append, List.foldl_cons, List.foldl_nil, fStep_eq, hx, e]
    show (if m.ep < n.ep then (n, (1 : Int)) else (m, 1)) = _
    rw [if_pos hn]
/-- The other block has pages without manifests alone. -/
theorem Head.other {c c' : Chip} {m : Man} {a : Int} (h : Head c m a) (h1 : (c'.b a.toNat).l = (c.b a.toNat).l) (h2 : ∀ s ∈ (c'.b (1 - a).toNat).l, manS s = none) : Head c' m a := by
  have e := h.find
  have hle := h.le
  refine ⟨?_, h.at_⟩
  unfold findM at e ⊢
  rcases h.at_ with rfl | rfl
  · have h1 : (c'.b 0).l = (c.b 0).l := h1
    have h2 : ∀ s ∈ (c'.b 1).l, manS s = none := h2
    rw [h1, scan_stay 1 _ _ (fun s hs y hy => by rw [h2 s hs] at hy; cases hy)]
    rcases scan_tag 1 (c.b 1).l ((c.b 0).l.foldl (fStep 0) (Man.zero, -1)) with h3 | h3
    · rw [← h3]; exact e
    · rw [e] at h3; cases h3
  · have h1 : (c'.b 1).l = (c.b 1).l := h1
    have h2 : ∀ s ∈ (c'.b 0).l, manS s = none := h2
    rw [h1, scan_stay 0 _ _ (fun s hs y hy => by rw [h2 s hs] at hy; cases hy)]
    have h3 := scan_low 1 (c.b 1).l ((c.b 0).l.foldl (fStep 0) (Man.zero, -1)) (Man.zero, -1) ?_ (by rw [e]) ?_
    · rw [h3]; exact e
    · rcases scan_tag 0 (c.b 0).l (Man.zero, -1) with h4 | h4
      · rw [h4]; decide
      · rw [h4]; decide
    · exact (scan_le 0 (c.b 0).l (Man.zero, -1)).1
/-- The other block has a newer manifest alone. -/
theorem Head.turn {c c' : Chip} {m n : Man} {a : Int} (h : Head c m a) {x : Sheet} (hx : manS x = some n) (hn : m.ep < n.ep) (h1 : (c'.b a.toNat).l = (c.b a.toNat).l) (h2 : (c'.b (1 - a).toNat).l = [x]) : Head c' n (1 - a) := by
  have e := h.find
  have hle := h.le
  have hep := h.ep
  refine ⟨?_, by have := h.at_; omega⟩
  unfold findM at e ⊢
  rcases h.at_ with rfl | rfl
  · have h1 : (c'.b 0).l = (c.b 0).l := h1
    have h2 : (c'.b 1).l = [x] := h2
    rw [h1, h2, List.foldl_cons, List.foldl_nil, fStep_eq, hx]
    have h3 := scan_le 1 (c.b 1).l ((c.b 0).l.foldl (fStep 0) (Man.zero, -1))
    rw [e] at h3
    show (if _ < n.ep then (n, (1 : Int)) else _) = _
    rw [if_pos (Int.lt_of_le_of_lt h3.1 hn)]
    rfl
  · have h1 : (c'.b 1).l = (c.b 1).l := h1
    have h2 : (c'.b 0).l = [x] := h2
    rw [h1, h2, List.foldl_cons, List.foldl_nil, fStep_eq, hx]
    show (c.b 1).l.foldl (fStep 1) (if (0 : Int) < n.ep then (n, 0) else _) = _
    rw [if_pos (by omega)]
    exact scan_stay 1 _ _ fun s hs y hy => by have := hle.2 s hs y hy; show y.ep ≤ n.ep; omega

theorem man_sheet {m : Man} (hf : m.fault = 0) : manS ⟨pad m.bytes, false⟩ = some m := man_bytes hf (k := 64 - m.bytes.size) pad_data
theorem torn_sheet : manS torn = none := rfl
theorem mansize {m : Man} (hf : m.fault = 0) : m.bytes.size ≤ 64 := by
  have hal := all_len hf
  unfold Man.bytes
  rw [strOfNums_size]
  simp [Man.all] at hal ⊢
  omega
theorem undone_cases {c : Chip} {p : Pend} (h : c.pend = some p) (how : Int) : c.undone how = c ∨ c.undone how = halfP c p ∨ c.undone how = doP c p := by
  unfold Chip.undone
  rw [h]
  simp only
  split
  · exact .inr (.inl rfl)
  · split
    · exact .inr (.inr rfl)
    · exact .inl rfl
/-- Behind a fall of the machine the blocks but the one of the step are as they were. -/
theorem restart_far {c : Chip} {p : Pend} (h : c.pend = some p) (how : Int) {i : Nat} (hi : i ≠ p.blk) : (c.restart how).b i = c.b i := by
  show (c.undone how).b i = c.b i
  rcases undone_cases h how with e | e | e <;> rw [e]
  · exact halfP_far c p hi
  · exact doP_far c p hi
theorem restart_b (c : Chip) (how : Int) : (c.restart how).b = (c.undone how).b := rfl
theorem restart_flags (c : Chip) (how : Int) (i : Nat) : ((c.restart how).b i).weak = (c.b i).weak ∧ ((c.restart how).b i).bad = (c.b i).bad := by
  show ((c.undone how).b i).weak = _ ∧ ((c.undone how).b i).bad = _
  unfold Chip.undone
  split
  · exact ⟨rfl, rfl⟩
  · split
    · exact halfP_flags c _ i
    · split
      · exact doP_flags c _ i
      · exact ⟨rfl, rfl⟩
theorem restart_calm {c : Chip} (h : c.pend = none) (how : Int) : (c.restart how).b = c.b := by
  show (c.undone how).b = c.b
  unfold Chip.undone
  rw [h]
/-- What noting a manifest leaves. -/
theorem note_calm {c : Chip} {m n : Man} {a : Int} (hc : CWf c) (hd : c.down = false) (h : Head c m a) (hf : n.fault = 0) (hn : m.ep < n.ep) :
    ∃ c' a' k, noteR c a n = (c', a', k) ∧ CWf c' ∧ (∀ i, 2 ≤ i → c'.b i = c.b i) ∧ (∀ i, (c'.b i).weak = (c.b i).weak ∧ (c'.b i).bad = (c.b i).bad) ∧ (c.fuse < 0 → k = 0 ∧ c'.fuse < 0) ∧
      ((k = 0 ∧ c'.down = false ∧ Head c' n a') ∨ (k = 9 ∧ c'.down = true ∧ ∀ how, (∀ i, 2 ≤ i → (c'.restart how).b i = c.b i) ∧ (Head (c'.restart how) m a ∨ ∃ a2, Head (c'.restart how) n a2))) := by
  have hflag : ∀ i, i < 2 → (c.b i).weak = false ∧ (c.b i).bad = false := fun i hi => by
    have h1 : (c.b i).weak = false := by
      cases e : (c.b i).weak
      · rfl
      · have := hc.weak i e; omega
    refine ⟨h1, ?_⟩
    cases e : (c.b i).bad
    · rfl
    · have := hc.bad i e; rw [h1] at this; cases this
  have hsz := mansize hf
  have hsh := man_sheet hf
  obtain ⟨q, rfl⟩ : ∃ q : Nat, a = q := ⟨a.toNat, by have := h.at_; omega⟩
  have hq : q < 2 := by have := h.at_; omega
  have hat : ((q : Nat) : Int).toNat = q := Int.toNat_natCast q
  have ho : ((1 : Int) - q).toNat = 1 - q := by omega
  have hoi : ((1 - q : Nat) : Int) = 1 - (q : Int) := by omega
  unfold noteR
  rw [if_neg (by simpa using hf), hat]
  have hlen := hc.len q (by omega)
  by_cases h8 : (c.b q).l.length = 8
  · rw [if_pos h8, ← hoi]
    obtain ⟨c1, n1, e1, s1, f1, g1⟩ := erase_calm (c := c) (b := 1 - q) (by omega) hd (hflag _ (by omega)).2 (hflag _ (by omega)).1
    have w1 : CWf c1 := by have := hc.erase_ ((1 - q : Nat) : Int); rw [e1] at this; exact this
    rw [e1]
    simp only
    rcases g1 with ⟨rfl, d1, p1, l1, x1⟩ | ⟨rfl, d1, p1, b1⟩
    · rw [if_neg (by simp)]
      obtain ⟨c2, n2, e2, s2, f2, g2⟩ := write_calm (c := c1) (b := 1 - q) (d := n.bytes) (by omega) d1 (s1.bad.trans (hflag _ (by omega)).2) (s1.weak.trans (hflag _ (by omega)).1) hsz (by rw [l1]; simp)
      have w2 : CWf c2 := by have := w1.write_ ((1 - q : Nat) : Int) n.bytes; rw [e2] at this; exact this
      rw [e2]
      simp only
      have hb2 : ∀ i, i ≠ 1 - q → c2.b i = c.b i := fun i hi => (s2.other i hi).trans (s1.other i hi)
      have hfl : ∀ i, (c2.b i).weak = (c.b i).weak ∧ (c2.b i).bad = (c.b i).bad := fun i => by
        by_cases hi : i = 1 - q
        · subst hi; exact ⟨s2.weak.trans s1.weak, s2.bad.trans s1.bad⟩
        · rw [hb2 i hi]; exact ⟨rfl, rfl⟩
      rcases g2 with ⟨rfl, d2, p2, l2, x2⟩ | ⟨rfl, d2, p2, b2⟩
      · rw [if_neg (by simp)]
        refine ⟨_, _, _, rfl, w2, fun i hi => hb2 i (by omega), hfl, fun hfu => f2 (f1 hfu).2, .inl ⟨rfl, d2, ?_⟩⟩
        rw [hoi]
        refine h.turn (x := ⟨pad n.bytes, false⟩) hsh hn ?_ ?_
        · rw [hat, hb2 q (by omega)]
        · rw [ho, l2, l1]; rfl
      · rw [if_pos (by simp)]
        refine ⟨_, _, _, rfl, w2, fun i hi => hb2 i (by omega), hfl, fun hfu => absurd (f2 (f1 hfu).2).1 (by omega), .inr ⟨rfl, d2, fun how => ⟨fun i hi => ?_, ?_⟩⟩⟩
        · rw [restart_far p2 how (show i ≠ 1 - q by omega)]; exact hb2 i (by omega)
        · have hq2 : (c2.restart how).b q = c.b q := by rw [restart_far p2 how (show q ≠ 1 - q by omega)]; exact hb2 q (by omega)
          have hl2 : (c2.b (1 - q)).l = [] := by rw [b2]; exact l1
          rcases undone_cases p2 how with e | e | e
          · refine .inl (h.other (by rw [hat, hq2]) ?_)
            rw [ho, restart_b, e, hl2]; simp
          · refine .inl (h.other (by rw [hat, hq2]) ?_)
            rw [ho, restart_b, e]
            simp only [halfP, Chip.set_same, hl2, List.nil_append]
            intro s hs
            simp at hs; subst hs; exact torn_sheet
          · refine .inr ⟨1 - (q : Int), h.turn (x := ⟨pad n.bytes, false⟩) hsh hn (by rw [hat, hq2]) ?_⟩
            rw [ho, restart_b, e]
            simp only [doP, Chip.set_same, hl2, List.nil_append]
    · rw [if_pos (by simp)]
      have hfl : ∀ i, (c1.b i).weak = (c.b i).weak ∧ (c1.b i).bad = (c.b i).bad := fun i => by rw [b1]; exact ⟨rfl, rfl⟩
      refine ⟨_, _, _, rfl, w1, fun i hi => by rw [b1], hfl, fun hfu => absurd (f1 hfu).1 (by omega), .inr ⟨rfl, d1, fun how => ⟨fun i hi => ?_, ?_⟩⟩⟩
      · rw [restart_far p1 how (show i ≠ 1 - q by omega), b1]
      · have hq2 : (c1.restart how).b q = c.b q := by rw [restart_far p1 how (show q ≠ 1 - q by omega), b1]
        rcases undone_cases p1 how with e | e | e
        · refine .inl (h.same ?_ ?_) <;> rw [restart_b, e, b1]
        · refine .inl (h.other (by rw [hat, hq2]) ?_)
          rw [ho, restart_b, e]
          simp only [halfP, Chip.set_same]
          intro s hs
          have := List.eq_of_mem_replicate hs; subst this; exact torn_sheet
        · refine .inl (h.other (by rw [hat, hq2]) ?_)
          rw [ho, restart_b, e]
          simp [doP, Chip.set_same]
  · rw [if_neg h8]
    obtain ⟨c2, n2, e2, s2, f2, g2⟩ := write_calm (c := c) (b := q) (d := n.bytes) (by omega) hd (hflag _ hq).2 (hflag _ hq).1 hsz (by omega)
    have w2 : CWf c2 := by have := hc.write_ (q : Int) n.bytes; rw [e2] at this; exact this
    rw [e2]
    simp only
    have hfl : ∀ i, (c2.b i).weak = (c.b i).weak ∧ (c2.b i).bad = (c.b i).bad := fun i => by
      by_cases hi : i = q
      · subst hi; exact ⟨s2.weak, s2.bad⟩
      · rw [s2.other i hi]; exact ⟨rfl, rfl⟩
    rcases g2 with ⟨rfl, d2, p2, l2, x2⟩ | ⟨rfl, d2, p2, b2⟩
    · rw [if_neg (by simp)]
      refine ⟨_, _, _, rfl, w2, fun i hi => s2.other i (by omega), hfl, fun hfu => f2 hfu, .inl ⟨rfl, d2, ?_⟩⟩
      refine h.next (x := ⟨pad n.bytes, false⟩) hsh hn ?_ ?_
      · rw [hat, l2]
      · rw [ho, s2.other _ (by omega)]
    · rw [if_pos (by simp)]
      refine ⟨_, _, _, rfl, w2, fun i hi => s2.other i (by omega), hfl, fun hfu => absurd (f2 hfu).1 (by omega), .inr ⟨rfl, d2, fun how => ⟨fun i hi => ?_, ?_⟩⟩⟩
      · rw [restart_far p2 how (show i ≠ q by omega), b2]
      · have ho2 : (c2.restart how).b (1 - q) = c.b (1 - q) := by rw [restart_far p2 how (show 1 - q ≠ q by omega), b2]
        rcases undone_cases p2 how with e | e | e
        · refine .inl (h.same ?_ ?_) <;> rw [restart_b, e, b2]
        · refine .inl (h.idle torn_sheet ?_ (by rw [ho, ho2]))
          rw [hat, restart_b, e]
          simp only [halfP, Chip.set_same, b2]
        · refine .inr ⟨q, h.next (x := ⟨pad n.bytes, false⟩) hsh hn ?_ (by rw [ho, ho2])⟩
          rw [hat, restart_b, e]
          simp only [doP, Chip.set_same, b2]
end Go.Proofs.YtaepdbkfaoiimabGreatDoor
/- Plain: a free block is sought and erased, or written as a table; tables one behind the other. Conditions: none but those that each names. -/
set_option linter.unusedVariables false
set_option linter.unusedSimpArgs false
namespace Go.Proofs.YtaepdbkfaoiimabGreatDoor
open Go.RowKit

/-- A block is looked at: the free one that was erased least often yet. -/
def freeS (c : Chip) (used : List Int) (best : Int) (b : Nat) : Int :=
  if (c.b b).bad = false ∧ used.contains (b : Int) = false ∧ (best < 0 ∨ (c.b b).wear < (c.b best.toNat).wear) then b else best
def freeTo (c : Chip) (used : List Int) : Nat → Int
  | 0 => -1
  | k + 1 => freeS c used (freeTo c used k) (k + 2)
def freeM (c : Chip) (used : List Int) : Int := freeTo c used 22
theorem freeTo_spec (c : Chip) (used : List Int) : ∀ k, (freeTo c used k = -1 ∧ ∀ i, 2 ≤ i → i < k + 2 → (c.b i).bad = true ∨ (i : Int) ∈ used) ∨ ∃ b : Nat, freeTo c used k = b ∧ 2 ≤ b ∧ b < k + 2 ∧ (c.b b).bad = false ∧ (b : Int) ∉ used
  | 0 => .inl ⟨rfl, fun i h1 h2 => by omega⟩
  | k + 1 => by
    rw [freeTo]
    unfold freeS
    by_cases hb : (c.b (k + 2)).bad = false ∧ used.contains ((k + 2 : Nat) : Int) = false ∧ (freeTo c used k < 0 ∨ (c.b (k + 2)).wear < (c.b (freeTo c used k).toNat).wear)
    · rw [if_pos hb]
      exact .inr ⟨k + 2, rfl, by omega, by omega, hb.1, by have := hb.2.1; simpa using this⟩
    · rw [if_neg hb]
      rcases freeTo_spec c used k with ⟨h1, h2⟩ | ⟨b, h1, h2, h3, h4⟩
      · refine .inl ⟨h1, fun i hi hi2 => ?_⟩
        rcases Nat.lt_or_ge i (k + 2) with h | h
        · exact h2 i hi h
        · have : i = k + 2 := by omega
          subst this
          cases hbad : (c.b (k + 2)).bad
          · right
            cases hc : used.contains ((k + 2 : Nat) : Int)
            · exact absurd ⟨hbad, hc, .inl (by rw [h1]; decide)⟩ hb
            · simpa using hc
          · exact .inl rfl
      · exact .inr ⟨b, h1, h2, by omega, h4⟩
theorem freeM_spec (c : Chip) (used : List Int) : (freeM c used = -1 ∧ ∀ i, 2 ≤ i → i < 24 → (c.b i).bad = true ∨ (i : Int) ∈ used) ∨ ∃ b : Nat, freeM c used = b ∧ 2 ≤ b ∧ b < 24 ∧ (c.b b).bad = false ∧ (b : Int) ∉ used :=
  freeTo_spec c used 22

/-- A step is done on free blocks, till one goes well, or otherwise wrong. -/
def seek (f : Chip → Int → Chip × Nat) (used : List Int) : Nat → Chip → Chip × Int × Nat
  | 0, c => (c, 0, 8)
  | k + 1, c =>
    if freeM c used < 0 then (c, 0, 8)
    else if (f c (freeM c used)).2 = 7 then seek f used k (f c (freeM c used)).1
    else if (f c (freeM c used)).2 = 0 then ((f c (freeM c used)).1, freeM c used, 0)
    else ((f c (freeM c used)).1, 0, (f c (freeM c used)).2)
/-- Such a step: on a weak block it goes bad; else it is done, or the machine falls in it. -/
structure Lays (f : Chip → Int → Chip × Nat) (G : Chip → Nat → Prop) : Prop where
  weak : ∀ c b, CWf c → c.down = false → b < 24 → (c.b b).bad = false → (c.b b).weak = true → f c (b : Nat) = (c.spoil b, 7)
  calm : ∀ c b, CWf c → c.down = false → b < 24 → (c.b b).bad = false → (c.b b).weak = false → ∃ c' n, f c (b : Nat) = (c', n) ∧ CWf c' ∧ SameBut b c c' ∧ (c.fuse < 0 → n = 0 ∧ c'.fuse < 0) ∧
    ((n = 0 ∧ c'.down = false ∧ c'.pend = c.pend ∧ G c' b ∧ (c'.b b).wear = wrap64 ((c.b b).wear + 1)) ∨ (n = 9 ∧ c'.down = true ∧ ∃ p, c'.pend = some p ∧ p.blk = b))
theorem lays_erase : Lays (fun c b => c.erase b) (fun c b => (c.b b).l = []) := by
  refine ⟨fun c b hc hd hb hbad hw => ?_, fun c b hc hd hb hbad hw => ?_⟩
  · have hr : c.ready b = 0 := by unfold Chip.ready; rw [hd, if_neg (by simp), if_neg (by omega), Int.toNat_natCast, hbad]; simp
    show c.erase b = _
    unfold Chip.erase
    rw [if_neg (by simp [hr]), Int.toNat_natCast, hw, if_pos rfl]
  · obtain ⟨c', n, e, s, f, g⟩ := erase_calm hb hd hbad hw
    refine ⟨c', n, e, by have := hc.erase_ b; rw [e] at this; exact this, s, f, ?_⟩
    rcases g with ⟨h1, h2, h3, h4, h5⟩ | ⟨h1, h2, h3, h4⟩
    · exact .inl ⟨h1, h2, h3, h4, h5⟩
    · exact .inr ⟨h1, h2, _, h3, rfl⟩
theorem tabWrite_wf {c : Chip} (h : CWf c) (b : Int) (l : List Ent) : CWf (tabWrite c b l).1 := by
  unfold tabWrite
  have h0 := h.erase_ b
  generalize c.erase b = st at h0
  generalize rawPages l = ds
  induction ds generalizing st with
  | nil => exact h0
  | cons d ds ih =>
    rw [List.foldl_cons]
    refine ih _ ?_
    unfold pStepW
    split
    · exact h0.write_ b d
    · exact h0
theorem lays_table {l : List Ent} (ht : tabF l = 0) : Lays (fun c b => tabWrite c b l) (fun c b => TabAt c b l) := by
  refine ⟨fun c b hc hd hb hbad hw => ?_, fun c b hc hd hb hbad hw => ?_⟩
  · have := lays_erase.weak c b hc hd hb hbad hw
    show tabWrite c b l = _
    unfold tabWrite
    rw [show c.erase b = _ from this, fold_stuck (by simp)]
  · obtain ⟨c', n, e, s, f, g⟩ := tabWrite_calm hb hd hbad hw ht
    exact ⟨c', n, e, by have := tabWrite_wf hc b l; rw [e] at this; exact this, s, f, g⟩

/-- From c to c' blocks that are free have turned alone: none of those that are used, nor of the two first ones. -/
structure Ext (used : List Int) (c c' : Chip) : Prop where
  keep : ∀ i : Nat, (i : Int) ∈ used ∨ i < 2 → c'.b i = c.b i
  weak : ∀ i, (c'.b i).weak = (c.b i).weak
  bad : ∀ i, (c.b i).bad = true → (c'.b i).bad = true
theorem Ext.refl (used : List Int) (c : Chip) : Ext used c c := ⟨fun _ _ => rfl, fun _ => rfl, fun _ h => h⟩
theorem Ext.trans {used used' : List Int} {c c' c2 : Chip} (h : Ext used c c') (k : Ext used' c' c2) (hu : ∀ i ∈ used, i ∈ used') : Ext used c c2 :=
  ⟨fun i hi => (k.keep i (hi.imp (hu _) id)).trans (h.keep i hi), fun i => (k.weak i).trans (h.weak i), fun i hi => k.bad i (h.bad i hi)⟩
theorem spoil_far (c : Chip) (b : Nat) {i : Nat} (h : i ≠ b) : (c.spoil b).b i = c.b i := by
  unfold Chip.spoil
  split
  · exact Chip.set_far c _ h
  · rfl
theorem spoil_same {c : Chip} {b : Nat} (h : (c.b b).weak = true) : ((c.spoil b).b b) = { c.b b with bad := true } := by
  unfold Chip.spoil
  rw [if_pos h, Chip.set_same]
theorem spoil_flags (c : Chip) (b i : Nat) : ((c.spoil b).b i).weak = (c.b i).weak ∧ ((c.spoil b).b i).wear = (c.b i).wear ∧ ((c.b i).bad = true → ((c.spoil b).b i).bad = true) ∧ ((c.spoil b).b i).l = (c.b i).l := by
  by_cases h : i = b
  · subst h
    unfold Chip.spoil
    split
    · rw [Chip.set_same]; exact ⟨rfl, rfl, fun _ => rfl, rfl⟩
    · exact ⟨rfl, rfl, id, rfl⟩
  · rw [spoil_far c b h]; exact ⟨rfl, rfl, id, rfl⟩
theorem spoil_rest (c : Chip) (b : Nat) : (c.spoil b).down = c.down ∧ (c.spoil b).pend = c.pend ∧ (c.spoil b).fuse = c.fuse := by
  unfold Chip.spoil; split <;> exact ⟨rfl, rfl, rfl⟩
/-- How many blocks are not bad. -/
def goods (c : Chip) : Nat := (List.range 24).countP (fun i => !(c.b i).bad)
theorem countP_lt {α : Type} (p q : α → Bool) : ∀ (l : List α) (a : α), a ∈ l → p a = true → q a = false → (∀ x ∈ l, q x = true → p x = true) → l.countP q < l.countP p
  | [], a, h, _, _, _ => by cases h
  | x :: l, a, h, h1, h2, h3 => by
    have hle : l.countP q ≤ l.countP p := List.countP_mono_left fun y hy hq => h3 y (by simp [hy]) hq
    rw [List.countP_cons, List.countP_cons]
    rcases List.mem_cons.1 h with rfl | h
    · rw [if_neg (by simp [h2]), if_pos h1]; omega
    · have := countP_lt p q l a h h1 h2 fun y hy => h3 y (by simp [hy])
      by_cases hq : q x = true
      · rw [if_pos hq, if_pos (h3 x (by simp) hq)]; omega
      · rw [if_neg hq]; split <;> omega
theorem goods_spoil {c : Chip} {b : Nat} (hb : b < 24) (h : (c.b b).bad = false) (hw : (c.b b).weak = true) : goods (c.spoil b) < goods c := by
  refine countP_lt _ _ _ b (by simpa using hb) (by simp [h]) (by rw [spoil_same hw]; rfl) fun i hi hq => ?_
  have := (spoil_flags c b i).2.2.1
  cases hx : (c.b i).bad
  · rfl
  · rw [this hx] at hq; simp at hq
theorem goods_le (c : Chip) : goods c ≤ 24 := by
  have := List.countP_le_length (p := fun i => !(c.b i).bad) (l := List.range 24)
  simpa [goods] using this
/-- What seeking leaves, where a block is left that is neither used nor weak. -/
theorem seek_calm {f : Chip → Int → Chip × Nat} {G : Chip → Nat → Prop} (hf : Lays f G) (used : List Int) : ∀ (k : Nat) (c : Chip), goods c < k → CWf c → c.down = false → (∃ i : Nat, 2 ≤ i ∧ i < 24 ∧ (c.b i).weak = false ∧ (i : Int) ∉ used) →
    ∃ c' b n, seek f used k c = (c', b, n) ∧ CWf c' ∧ Ext used c c' ∧ (c.fuse < 0 → n = 0 ∧ c'.fuse < 0) ∧
      ((n = 0 ∧ c'.down = false ∧ c'.pend = c.pend ∧ ∃ q : Nat, b = q ∧ 2 ≤ q ∧ q < 24 ∧ (q : Int) ∉ used ∧ G c' q ∧ (c.b q).bad = false ∧ (c'.b q).weak = false ∧ ∀ i, (c'.b i).wear = if i = q then wrap64 ((c.b i).wear + 1) else (c.b i).wear) ∨
       (n = 9 ∧ c'.down = true ∧ ∃ p, c'.pend = some p ∧ (p.blk : Int) ∉ used ∧ 2 ≤ p.blk))
  | 0, c, h, _, _, _ => by omega
  | k + 1, c, hk, hc, hd, hg => by
    obtain ⟨g, g1, g2, g3, g4⟩ := hg
    rcases freeM_spec c used with ⟨_, h⟩ | ⟨b, e, b1, b2, b3, b4⟩
    · rcases h g g1 g2 with h | h
      · have := hc.bad g h; rw [g3] at this; cases this
      · exact absurd h g4
    · rw [seek, e, if_neg (by omega)]
      cases hw : (c.b b).weak
      · obtain ⟨c', n, e1, w1, s1, f1, h1⟩ := hf.calm c b hc hd b2 b3 hw
        rw [e1]
        have hext : Ext used c c' := by
          refine ⟨fun i hi => s1.other i ?_, fun i => ?_, fun i h => ?_⟩
          · rintro rfl; rcases hi with hi | hi
            · exact b4 hi
            · omega
          · by_cases hi : i = b
            · subst hi; exact s1.weak
            · rw [s1.other i hi]
          · by_cases hi : i = b
            · subst hi; rw [s1.bad]; exact h
            · rw [s1.other i hi]; exact h
        rcases h1 with ⟨rfl, d1, p1, q1, x1⟩ | ⟨rfl, d1, p, p1, p2⟩
        · rw [if_neg (by simp), if_pos rfl]
          refine ⟨_, _, _, rfl, w1, hext, f1, .inl ⟨rfl, d1, p1, b, rfl, b1, b2, b4, q1, b3, by rw [s1.weak]; exact hw, fun i => ?_⟩⟩
          by_cases hi : i = b
          · subst hi; rw [if_pos rfl]; exact x1
          · rw [if_neg hi, s1.other i hi]
        · rw [if_neg (by simp), if_neg (by simp)]
          exact ⟨_, _, _, rfl, w1, hext, f1, .inr ⟨rfl, d1, p, p1, by rw [p2]; exact b4, by omega⟩⟩
      · rw [hf.weak c b hc hd b2 b3 hw, if_pos rfl]
        obtain ⟨r1, r2, r3⟩ := spoil_rest c b
        obtain ⟨c', b', n, e1, w1, x1, f1, h1⟩ := seek_calm hf used k (c.spoil b) (by have := goods_spoil b2 b3 hw; omega) (hc.spoil_ b hd) (by rw [r1]; exact hd) ⟨g, g1, g2, by rw [(spoil_flags c b g).1]; exact g3, g4⟩
        have hx : Ext used c c' := by
          refine ⟨fun i hi => ?_, fun i => ?_, fun i h => ?_⟩
          · rw [x1.keep i hi]
            exact spoil_far c b (by rintro rfl; exact hi.elim b4 (fun h => by omega))
          · rw [x1.weak, (spoil_flags c b i).1]
          · exact x1.bad i ((spoil_flags c b i).2.2.1 h)
        refine ⟨c', b', n, e1, w1, hx, by rw [r3] at f1; exact f1, ?_⟩
        rcases h1 with ⟨h1, h2, h3, q, h4, h5, h6, h7, h8, h9, h10, h11⟩ | h1
        · refine .inl ⟨h1, h2, by rw [h3, r2], q, h4, h5, h6, h7, h8, ?_, h10, fun i => by rw [h11 i, (spoil_flags c b i).2.1]⟩
          cases hb : (c.b q).bad
          · rfl
          · rw [(spoil_flags c b q).2.2.1 hb] at h9; cases h9
        · exact .inr h1
end Go.Proofs.YtaepdbkfaoiimabGreatDoor
/- Rows: what is at hand and tables, put together; the plain laws, with no program in sight. Conditions: none but those that each law names. -/
set_option linter.unusedVariables false
set_option linter.unusedSimpArgs false
namespace Go.Proofs.YtaepdbkfaoiimabGreatDoor
open Go.RowKit

/-- All rows: what is at hand over the tables, the newest first. -/
def rowsOf (mem : List Ent) (tabs : List (List Ent)) : List Ent := liveE (mergeAll (mem :: tabs))
/-- What a list has of a key last. -/
def lastE (l : List Ent) (k : ByteArray) : Option Ent := getE l.reverse k

theorem getE_append (a b : List Ent) (k : ByteArray) : getE (a ++ b) k = (getE a k).or (getE b k) := by
  unfold getE; rw [List.find?_append]
theorem get_mergeAll_cons {l : List Ent} {ls : List (List Ent)} (hl : Rises l) (h : ∀ l ∈ ls, Rises l) (k : ByteArray) : getE (mergeAll (l :: ls)) k = (getE l k).or (getE (mergeAll ls) k) :=
  get_merge2 hl (rises_mergeAll h) k
theorem rises_append {a b : List Ent} : Rises (a ++ b) ↔ Rises a ∧ Rises b ∧ ∀ x ∈ a, ∀ y ∈ b, ltB x.k y.k = true := List.pairwise_append
theorem rises_flat {ps : List (List Ent)} (h : Rises ps.flatten) : ∀ p ∈ ps, Rises p := by
  induction ps with
  | nil => simp
  | cons q ps ih =>
    rw [List.flatten_cons, rises_append] at h
    intro p hp
    rcases List.mem_cons.1 hp with rfl | hp
    · exact h.1
    · exact ih h.2.1 p hp
theorem get_chunks {ps ts : List (List Ent)} (h : Rises ps.flatten) (ht : ∀ l ∈ ts, Rises l) (k : ByteArray) : getE (mergeAll (ps ++ ts)) k = (getE ps.flatten k).or (getE (mergeAll ts) k) := by
  induction ps with
  | nil => rfl
  | cons p ps ih =>
    have hp := rises_flat h
    rw [List.flatten_cons, rises_append] at h
    rw [List.cons_append, get_mergeAll_cons h.1 (fun l hl => (List.mem_append.1 hl).elim (fun hl => hp l (List.mem_cons_of_mem _ hl)) (ht l)), ih h.2.1, List.flatten_cons, getE_append, Option.or_assoc]
theorem rises_all {mem : List Ent} {ts : List (List Ent)} (hm : Rises mem) (ht : ∀ l ∈ ts, Rises l) : ∀ l ∈ mem :: ts, Rises l := fun l hl => by
  rcases List.mem_cons.1 hl with rfl | hl
  · exact hm
  · exact ht l hl
theorem rises_chunks {ps ts : List (List Ent)} (h : Rises ps.flatten) (ht : ∀ l ∈ ts, Rises l) : ∀ l ∈ ps ++ ts, Rises l := fun l hl => by
  rcases List.mem_append.1 hl with hl | hl
  · exact rises_flat h l hl
  · exact ht l hl
theorem rises_nil : Rises [] := List.Pairwise.nil
theorem rises_rows {mem : List Ent} {ts : List (List Ent)} (hm : Rises mem) (ht : ∀ l ∈ ts, Rises l) : Rises (rowsOf mem ts) := rises_live (rises_mergeAll (rises_all hm ht))
/-- What is at hand is laid. -/
theorem rows_flush {mem : List Ent} {ps ts : List (List Ent)} (hm : Rises mem) (ht : ∀ l ∈ ts, Rises l) (hp : ps.flatten = mem) : mergeAll (ps ++ ts) = mergeAll (mem :: ts) := by
  subst hp
  refine rises_ext (rises_mergeAll (rises_chunks hm ht)) (rises_mergeAll (rises_all hm ht)) fun k => ?_
  rw [get_chunks hm ht, get_mergeAll_cons hm ht]
theorem rows_flush' {mem : List Ent} {ps ts : List (List Ent)} (hm : Rises mem) (ht : ∀ l ∈ ts, Rises l) (hp : ps.flatten = mem) : rowsOf [] (ps ++ ts) = rowsOf mem ts := by
  show liveE (merge2 [] (mergeAll (ps ++ ts))) = _
  rw [rows_flush hm ht hp, merge2]
  rfl
/-- Tables are put together. -/
theorem mergeAll_chunks {ps : List (List Ent)} (h : Rises ps.flatten) : mergeAll ps = ps.flatten := by
  have := rows_flush (mem := ps.flatten) (ts := []) h (by simp) rfl
  rw [List.append_nil] at this
  rw [this]
  show merge2 ps.flatten [] = _
  cases ps.flatten <;> simp [merge2]
theorem filter_or {x : Option Ent} {y : Option Ent} : (x.or (y.filter (fun e => !e.g))).filter (fun e => !e.g) = (x.or y).filter (fun e => !e.g) := by
  cases x with
  | none => cases y with
    | none => rfl
    | some e => cases h : e.g <;> simp [Option.filter, h]
  | some e => rfl
theorem rows_compact {mem : List Ent} {ps ts : List (List Ent)} (hm : Rises mem) (ht : ∀ l ∈ ts, Rises l) (hp : ps.flatten = liveE (mergeAll ts)) : rowsOf mem ps = rowsOf mem ts := by
  have hr := rises_live (rises_mergeAll ht)
  have hps : Rises ps.flatten := by rw [hp]; exact hr
  refine rises_ext (rises_rows hm (rises_flat hps)) (rises_rows hm ht) fun k => ?_
  unfold rowsOf
  rw [get_live (rises_mergeAll (rises_all hm (rises_flat hps))), get_live (rises_mergeAll (rises_all hm ht)), get_mergeAll_cons hm (rises_flat hps), get_mergeAll_cons hm ht, mergeAll_chunks hps, hp, get_live (rises_mergeAll ht), filter_or]
theorem live_live (l : List Ent) : liveE (liveE l) = liveE l := by unfold liveE; rw [List.filter_filter]; simp
theorem live_mem {l : List Ent} {e : Ent} (h : e ∈ liveE l) : e ∈ l ∧ e.g = false := by
  unfold liveE at h; rw [List.mem_filter] at h; simpa using h
/-- Changes are put among others. -/
theorem rises_puts (l : List Ent) {acc : List Ent} (ha : Rises acc) : Rises (l.foldl putE acc) := by
  induction l generalizing acc with
  | nil => exact ha
  | cons x l ih => exact ih (rises_put ha x)
theorem get_puts (l : List Ent) {acc : List Ent} (ha : Rises acc) (k : ByteArray) : getE (l.foldl putE acc) k = (lastE l k).or (getE acc k) := by
  induction l generalizing acc with
  | nil => rfl
  | cons x l ih =>
    rw [List.foldl_cons, ih (rises_put ha x), get_put ha]
    unfold lastE
    rw [List.reverse_cons, getE_append, Option.or_assoc]
    congr 1
    rw [getE_cons]
    split <;> rfl
theorem rows_write {mem : List Ent} {ts : List (List Ent)} (l : List Ent) (hm : Rises mem) (ht : ∀ l ∈ ts, Rises l) : rowsOf (l.foldl putE mem) ts = liveE (l.foldl putE (rowsOf mem ts)) := by
  have hr := rises_rows hm ht
  refine rises_ext (rises_rows (rises_puts l hm) ht) (rises_live (rises_puts l hr)) fun k => ?_
  rw [get_live (rises_puts l hr), get_puts l hr]
  unfold rowsOf
  rw [get_live (rises_mergeAll (rises_all (rises_puts l hm) ht)), get_live (rises_mergeAll (rises_all hm ht)), get_mergeAll_cons (rises_puts l hm) ht, get_mergeAll_cons hm ht, get_puts l hm, filter_or, Option.or_assoc]
theorem puts_mem {l : List Ent} {acc : List Ent} (ha : Rises acc) {e : Ent} (h : e ∈ l.foldl putE acc) : e ∈ l ∨ e ∈ acc := by
  have hr := rises_puts l ha
  have h1 := getE_of_mem hr h
  rw [get_puts l ha] at h1
  cases h2 : lastE l e.k with
  | none => rw [h2, Option.none_or] at h1; exact .inr (getE_mem h1).1
  | some x => rw [h2, Option.some_or] at h1; have := Option.some.inj h1; subst this; have := (getE_mem h2).1; exact .inl (by simpa using this)
theorem puts_len (l acc : List Ent) : (l.foldl putE acc).length ≤ acc.length + l.length := by
  induction l generalizing acc with
  | nil => simp
  | cons x l ih =>
    have := ih (putE acc x)
    have := putE_len acc x
    simp only [List.foldl_cons, List.length_cons]
    omega
theorem merge_mem {ls : List (List Ent)} {e : Ent} (h : e ∈ mergeAll ls) : ∃ l ∈ ls, e ∈ l := by
  induction ls with
  | nil => cases h
  | cons l ls ih =>
    rcases mem_merge2 e _ l (mergeAll ls) (Nat.le_refl _) h with h | h
    · exact ⟨l, by simp, h⟩
    · obtain ⟨x, hx, he⟩ := ih h
      exact ⟨x, by simp [hx], he⟩
/-- Fewer keys, fewer rows. -/
theorem rises_nodup {l : List Ent} (h : Rises l) : (l.map Ent.k).Nodup := by
  unfold List.Nodup
  rw [List.pairwise_map]
  exact h.imp (fun h => ltB_ne h)
theorem rows_get {mem : List Ent} {ts : List (List Ent)} (hm : Rises mem) (ht : ∀ l ∈ ts, Rises l) (k : ByteArray) : getE (rowsOf mem ts) k = ((getE mem k).or (getE (mergeAll ts) k)).filter (fun e => !e.g) := by
  unfold rowsOf
  rw [get_live (rises_mergeAll (rises_all hm ht)), get_mergeAll_cons hm ht]
end Go.Proofs.YtaepdbkfaoiimabGreatDoor
/- The plain model of a store: what each of its functions does to the chip and to what is at hand. Conditions: none. -/
set_option linter.unusedVariables false
set_option linter.unusedSimpArgs false
namespace Go.Proofs.YtaepdbkfaoiimabGreatDoor
open Go.RowKit

/-- A store: its manifest, in which block that is, what is at hand, what the tables hold. -/
structure SM where
  m : Man
  at_ : Int
  mem : List Ent
  tabs : List (List Ent)
def SM.rows (s : SM) : List Ent := rowsOf s.mem s.tabs
/-- Parts of so many entries each. -/
def parts (n : Nat) (l : List Ent) : List (List Ent) := (List.range ((l.length + (n - 1)) / n)).map (fun k => (l.drop (n * k)).take n)
/-- Tables are written one behind the other. -/
def tablesM (used : List Int) : List (List Ent) → Chip → List Int → Chip × List Int × Nat
  | [], c, out => (c, out, 0)
  | p :: ps, c, out =>
    let r := seek (fun c b => tabWrite c b p) (used ++ out) 25 c
    if r.2.2 = 0 then tablesM used ps r.1 (out ++ [r.2.1]) else (r.1, [], r.2.2)
def blankM (used : List Int) (c : Chip) : Chip × Int × Nat := seek (fun c b => c.erase b) used 25 c
def noteM (c : Chip) (s : SM) (m : Man) : Chip × SM × Nat :=
  let r := noteR c s.at_ { m with ep := s.m.ep + 1 }
  if r.2.2 = 0 then (r.1, { s with m := { m with ep := s.m.ep + 1 }, at_ := r.2.1 }, 0) else (r.1, s, r.2.2)
/-- What is at hand is laid. -/
def layM (c : Chip) (s : SM) : Chip × SM × Nat :=
  let t := tablesM s.m.all (parts 14 s.mem) c []
  if t.2.2 ≠ 0 then (t.1, s, t.2.2) else
  let b := blankM (s.m.all ++ t.2.1) t.1
  if b.2.2 ≠ 0 then (b.1, s, b.2.2) else
  let r := noteM b.1 s ⟨0, b.2.1, t.2.1 ++ s.m.nw, s.m.od⟩
  if r.2.2 = 0 then (r.1, { r.2.1 with mem := [], tabs := parts 14 s.mem ++ s.tabs }, 0) else r
/-- Tables are put together. -/
def compM (c : Chip) (s : SM) : Chip × SM × Nat :=
  let t := tablesM s.m.all (parts 14 (liveE (mergeAll s.tabs))) c []
  if t.2.2 ≠ 0 then (t.1, s, t.2.2) else
  let r := noteM t.1 s ⟨0, s.m.log, [], t.2.1⟩
  if r.2.2 = 0 then (r.1, { r.2.1 with tabs := parts 14 (liveE (mergeAll s.tabs)) }, 0) else r
def fewM (c : Chip) (s : SM) : Chip × SM × Nat := if s.m.nw.length < 3 then (c, s, 0) else compM c s
def flushM (c : Chip) (s : SM) : Chip × SM × Nat :=
  let a := fewM c s
  if a.2.2 ≠ 0 then a else
  let b := layM a.1 a.2.1
  if b.2.2 ≠ 0 then b else fewM b.1 b.2.1
/-- What is wrong with a batch of changes. -/
def checkM (s : SM) (l : List Ent) : Nat :=
  if l.length = 0 ∨ 4 < l.length then 2
  else if bytesF l ≠ 0 then bytesF l
  else if 40 < (liveE (l.foldl putE s.rows)).length then 8 else 0
def roomM (c : Chip) (s : SM) : Chip × SM × Nat := if (c.b s.m.log.toNat).l.length < 8 then (c, s, 0) else flushM c s
/-- A page is noted in the log; where that is bad, it is done anew. -/
def logM (d : ByteArray) : Nat → Chip → SM → Chip × SM × Nat
  | 0, c, s => (c, s, 7)
  | k + 1, c, s =>
    let r := roomM c s
    if r.2.2 ≠ 0 then r else
    let e := r.1.write r.2.1.m.log d
    if e.2 ≠ 7 then (e.1, r.2.1, e.2) else
    let f := flushM e.1 r.2.1
    if f.2.2 ≠ 0 then f else logM d k f.1 f.2.1
def writeM (c : Chip) (s : SM) (l : List Ent) : Chip × SM × Nat :=
  if checkM s l ≠ 0 then (c, s, checkM s l) else
  let r := logM (bytesL l.length l) 2 c s
  if r.2.2 = 0 then (r.1, { r.2.1 with mem := l.foldl putE r.2.1.mem }, 0) else r

/-! ### what is so of a store -/
/-- What the pages of a log have. -/
def logE : List Sheet → Option (List Ent)
  | [] => some []
  | x :: l => if x.t then logE l else match parseR x.d, logE l with
    | some es, some fs => some (es ++ fs)
    | _, _ => none
/-- What is at hand stands in the log. -/
structure LogAt (c : Chip) (b : Nat) (mem : List Ent) (es : List Ent) : Prop where
  read : logE (c.b b).l = some es
  mem : mem = es.foldl putE []
  few : es.length ≤ 4 * (c.b b).l.length
  ok : ∀ e ∈ es, faultE e = 0
/-- In each of these blocks stands its table. -/
def TabsAt (c : Chip) : List Int → List (List Ent) → Prop
  | [], [] => True
  | b :: bs, l :: ls => TabAt c b.toNat l ∧ TabsAt c bs ls
  | _, _ => False
def weaks (c : Chip) : Nat := (List.range 24).countP (fun i => (c.b i).weak)
/-- What the blocks hold, but for the two first ones. -/
structure Body (c : Chip) (s : SM) : Prop where
  fault : s.m.fault = 0
  tabs : TabsAt c (s.m.nw ++ s.m.od) s.tabs
  log : ∃ es, LogAt c s.m.log.toNat s.mem es
  weak : weaks c ≤ 6
  nwl : s.m.nw.length ≤ 5
  odl : s.m.od.length ≤ 3
  old : Rises (s.tabs.drop s.m.nw.length).flatten ∧ ∀ e ∈ (s.tabs.drop s.m.nw.length).flatten, e.g = false
  rows : s.rows.length ≤ 40
  trows : (liveE (mergeAll s.tabs)).length ≤ 40
structure Inv (c : Chip) (s : SM) : Prop where
  wf : CWf c
  up : c.down = false
  head : Head c s.m s.at_
  body : Body c s
/-- The machine has fallen: whatever becomes of the step, there is a store that has the rows a or b. -/
structure Fallen (ep : Int) (a b : List Ent) (c : Chip) : Prop where
  wf : CWf c
  down : c.down = true
  back : ∀ how, ∃ s, Inv (c.restart how) s ∧ (s.rows = a ∨ s.rows = b) ∧ s.m.ep ≤ ep

section
variable {c c' : Chip}
theorem tabsAt_len : ∀ {bs : List Int} {ls : List (List Ent)}, TabsAt c bs ls → bs.length = ls.length
  | [], [], _ => rfl
  | b :: bs, l :: ls, h => by rw [List.length_cons, List.length_cons, tabsAt_len h.2]
  | [], _ :: _, h => h.elim
  | _ :: _, [], h => h.elim
theorem tabsAt_at : ∀ {bs : List Int} {ls : List (List Ent)}, TabsAt c bs ls → ∀ (i : Nat) (b : Int), bs[i]? = some b → ∃ l, ls[i]? = some l ∧ TabAt c b.toNat l
  | [], [], _, i, b, h => by simp at h
  | x :: bs, l :: ls, h, 0, b, hb => by simp at hb; subst hb; exact ⟨l, rfl, h.1⟩
  | x :: bs, l :: ls, h, i + 1, b, hb => tabsAt_at h.2 i b hb
  | [], _ :: _, h, _, _, _ => h.elim
  | _ :: _, [], h, _, _, _ => h.elim
theorem tabsAt_app : ∀ {bs bs' : List Int} {ls ls' : List (List Ent)}, TabsAt c bs ls → TabsAt c bs' ls' → TabsAt c (bs ++ bs') (ls ++ ls')
  | [], _, [], _, _, h => h
  | b :: bs, _, l :: ls, _, h, h' => ⟨h.1, tabsAt_app h.2 h'⟩
  | [], _, _ :: _, _, h, _ => h.elim
  | _ :: _, _, [], _, h, _ => h.elim
theorem tabsAt_keep : ∀ {bs : List Int} {ls : List (List Ent)}, TabsAt c bs ls → (∀ b ∈ bs, (c'.b b.toNat).l = (c.b b.toNat).l) → TabsAt c' bs ls
  | [], [], _, _ => trivial
  | b :: bs, l :: ls, h, hk => ⟨⟨(hk b (by simp)).trans h.1.pages, h.1.ok⟩, tabsAt_keep h.2 fun x hx => hk x (by simp [hx])⟩
  | [], _ :: _, h, _ => h.elim
  | _ :: _, [], h, _ => h.elim
theorem tabsAt_ok : ∀ {bs : List Int} {ls : List (List Ent)}, TabsAt c bs ls → ∀ l ∈ ls, tabF l = 0
  | [], [], _, l, h => by cases h
  | b :: bs, x :: ls, h, l, hl => by
    rcases List.mem_cons.1 hl with rfl | hl
    · exact h.1.ok
    · exact tabsAt_ok h.2 l hl
  | [], _ :: _, h, _, _ => h.elim
  | _ :: _, [], h, _, _ => h.elim
end
end Go.Proofs.YtaepdbkfaoiimabGreatDoor
/- Plain: tables, laying, putting together, noting: what they leave. Conditions: none but those that each names. -/
set_option linter.unusedVariables false
set_option linter.unusedSimpArgs false
namespace Go.Proofs.YtaepdbkfaoiimabGreatDoor
open Go.RowKit

/-! ### there is a block left -/
theorem cover_len {α : Type} (l : List α) (p : α → Bool) (q : α → Bool) (h : ∀ x ∈ l, p x = true ∨ q x = true) : l.length ≤ l.countP p + l.countP q := by
  induction l with
  | nil => simp
  | cons x l ih =>
    have := ih fun y hy => h y (by simp [hy])
    rw [List.countP_cons, List.countP_cons, List.length_cons]
    rcases h x (by simp) with h | h <;> simp [h] <;> omega
theorem count_le_len : ∀ (l : List Nat) (u : List Int), l.Nodup → l.countP (fun i : Nat => decide ((i : Int) ∈ u)) ≤ u.length
  | l, [], _ => by
    have : l.countP (fun i : Nat => decide ((i : Int) ∈ ([] : List Int))) = 0 := by rw [List.countP_eq_zero]; simp
    omega
  | l, b :: u, hn => by
    have h1 := count_le_len l u hn
    have h2 : l.countP (fun i : Nat => decide ((i : Int) ∈ b :: u)) ≤ l.countP (fun i : Nat => decide ((i : Int) = b)) + l.countP (fun i : Nat => decide ((i : Int) ∈ u)) := by
      clear h1 hn
      induction l with
      | nil => simp
      | cons x l ih =>
        rw [List.countP_cons, List.countP_cons, List.countP_cons]
        by_cases e1 : (x : Int) = b <;> by_cases e2 : (x : Int) ∈ u <;> simp [e1, e2] <;> (simp at ih; omega)
    have h3 : l.countP (fun i : Nat => decide ((i : Int) = b)) ≤ 1 := by
      clear h1 h2
      induction l with
      | nil => simp
      | cons x l ih =>
        have hn' := List.nodup_cons.1 hn
        rw [List.countP_cons]
        by_cases e : (x : Int) = b
        · have h0 : l.countP (fun i : Nat => decide ((i : Int) = b)) = 0 := by
            rw [List.countP_eq_zero]
            intro y hy
            simp only [decide_eq_true_eq]
            intro e2
            have : y = x := by omega
            subst this
            exact hn'.1 hy
          rw [h0]; split <;> omega
        · have := ih hn'.2
          simp [e]; exact this
    rw [List.length_cons]; omega
theorem block_left {c : Chip} (hc : CWf c) {u : List Int} (hw : weaks c ≤ 6) (hu : u.length < 16) : ∃ i : Nat, 2 ≤ i ∧ i < 24 ∧ (c.b i).weak = false ∧ (i : Int) ∉ u := by
  apply Classical.byContradiction
  intro hno
  have h1 : ∀ i ∈ List.range' 2 22, (c.b i).weak = true ∨ decide ((i : Int) ∈ u) = true := by
    intro i hi
    rw [List.mem_range'_1] at hi
    cases hx : (c.b i).weak
    · right
      rw [decide_eq_true_eq]
      apply Classical.byContradiction
      intro hm
      exact hno ⟨i, by omega, by omega, hx, hm⟩
    · exact .inl rfl
  have h2 := cover_len (List.range' 2 22) (fun i => (c.b i).weak) (fun i : Nat => decide ((i : Int) ∈ u)) h1
  have h3 := count_le_len (List.range' 2 22) u (List.nodup_range' (step := 1) (by omega))
  have h4 : (List.range' 2 22).countP (fun i => (c.b i).weak) ≤ weaks c := by
    unfold weaks
    rw [show List.range 24 = [0, 1] ++ List.range' 2 22 from by decide, List.countP_append]
    omega
  rw [List.length_range'] at h2
  omega

/-! ### tables -/
theorem ext_snoc {used : List Int} {c c' : Chip} {b : Int} (h : Ext (used ++ [b]) c c') : Ext used c c' := ⟨fun i hi => h.keep i (hi.imp (fun h => by simp [h]) id), h.weak, h.bad⟩
theorem weaks_ext {used : List Int} {c c' : Chip} (h : Ext used c c') : weaks c' = weaks c := by
  unfold weaks
  congr 1
  funext i
  rw [h.weak]
/-- By one at most. -/
def Wear1 (c c' : Chip) : Prop := ∀ i, (c'.b i).wear = (c.b i).wear ∨ (c'.b i).wear = wrap64 ((c.b i).wear + 1)
theorem tables_calm (used : List Int) : ∀ (ps : List (List Ent)) (c : Chip) (out : List Int), CWf c → c.down = false → weaks c ≤ 6 → used.length + out.length + ps.length ≤ 15 → (∀ p ∈ ps, tabF p = 0) →
    ∃ c' o n, tablesM used ps c out = (c', o, n) ∧ CWf c' ∧ Ext (used ++ out) c c' ∧ (c.fuse < 0 → n = 0 ∧ c'.fuse < 0) ∧
      ((n = 0 ∧ c'.down = false ∧ ∃ nw, o = out ++ nw ∧ TabsAt c' nw ps ∧ nw.Nodup ∧ (∀ b ∈ nw, b ∉ used ++ out ∧ 2 ≤ b ∧ b < 24 ∧ (c.b b.toNat).bad = false) ∧ (∀ i : Nat, (i : Int) ∉ nw → (c'.b i).wear = (c.b i).wear) ∧ Wear1 c c') ∨
       (n = 9 ∧ c'.down = true ∧ ∃ p, c'.pend = some p ∧ (p.blk : Int) ∉ used ∧ 2 ≤ p.blk))
  | [], c, out, hc, hd, _, _, _ => ⟨c, out, 0, rfl, hc, .refl _ _, fun h => ⟨rfl, h⟩, .inl ⟨rfl, hd, [], by simp, trivial, by simp, by simp, fun _ _ => rfl, fun _ => .inl rfl⟩⟩
  | p :: ps, c, out, hc, hd, hw, hl, ht => by
    rw [List.length_cons] at hl
    obtain ⟨c1, b, n1, e1, w1, x1, f1, g1⟩ := seek_calm (lays_table (ht p (by simp))) (used ++ out) 25 c (by have := goods_le c; omega) hc hd (block_left hc hw (by rw [List.length_append]; omega))
    rw [tablesM, e1]
    simp only
    rcases g1 with ⟨rfl, d1, p1, q, rfl, q1, q2, q3, q4, q5, q6, q7⟩ | ⟨rfl, d1, y, p1, p2, p3⟩
    · rw [if_pos rfl]
      obtain ⟨c2, o, n2, e2, w2, x2, f2, g2⟩ := tables_calm used ps c1 (out ++ [(q : Int)]) w1 d1 (by rw [weaks_ext x1]; exact hw) (by rw [List.length_append]; simp; omega) (fun y hy => ht y (by simp [hy]))
      refine ⟨c2, o, n2, e2, w2, x1.trans x2 (fun i hi => by rw [← List.append_assoc, List.mem_append]; exact .inl hi), fun h => f2 (f1 h).2, ?_⟩
      have hx1 : Wear1 c c1 := fun i => by
        rw [q7 i]; split
        · exact .inr rfl
        · exact .inl rfl
      rcases g2 with ⟨rfl, d2, nw, rfl, t2, n2, m2, v2, u2⟩ | g2
      · have hqn : (q : Int) ∉ nw := fun h => by have := (m2 _ h).1; simp at this
        refine .inl ⟨rfl, d2, (q : Int) :: nw, by simp, ⟨?_, t2⟩, List.nodup_cons.2 ⟨hqn, n2⟩, fun b hb => ?_, fun i hi => ?_, fun i => ?_⟩
        · have := x2.keep q (.inl (by simp))
          rw [Int.toNat_natCast]
          exact ⟨by rw [this]; exact q4.pages, q4.ok⟩
        · rcases List.mem_cons.1 hb with rfl | hb
          · exact ⟨q3, by omega, by omega, by rw [Int.toNat_natCast]; exact q5⟩
          · obtain ⟨m3, m4, m5, m6⟩ := m2 b hb
            refine ⟨fun h => m3 (by rw [← List.append_assoc]; simp at h ⊢; rcases h with h | h <;> simp [h]), m4, m5, ?_⟩
            cases hbd : (c.b b.toNat).bad
            · rfl
            · rw [x1.bad _ hbd] at m6; cases m6
        · rw [v2 i (fun h => hi (by simp [h])), q7 i, if_neg (fun h => hi (by simp [h]))]
        · by_cases hi : (i : Int) ∈ nw
          · have : i ≠ q := fun h => hqn (h ▸ hi)
            have h1 := u2 i
            rw [q7 i, if_neg this] at h1
            exact h1
          · rw [v2 i hi]; exact hx1 i
      · exact .inr g2
    · rw [if_neg (by simp)]
      exact ⟨c1, [], 9, rfl, w1, x1, fun h => absurd (f1 h).1 (by omega), .inr ⟨rfl, d1, y, p1, fun h => p2 (by simp [h]), p3⟩⟩

/-! ### parts -/
theorem parts_len (n : Nat) (l : List Ent) : (parts n l).length = (l.length + (n - 1)) / n := by simp [parts]
theorem parts_flat {n : Nat} (hn : 0 < n) (l : List Ent) : (parts n l).flatten = l := by
  have key : ∀ k, ((List.range k).map (fun k => (l.drop (n * k)).take n)).flatten = l.take (n * k) := by
    intro k
    induction k with
    | zero => simp
    | succ k ih =>
      rw [List.range_succ, List.map_append, List.flatten_append, ih, List.map_singleton, List.flatten_singleton, Nat.mul_succ, List.take_add]
  unfold parts
  rw [key, List.take_of_length_le]
  have := Nat.div_add_mod (l.length + (n - 1)) n
  have h2 := Nat.mod_lt (l.length + (n - 1)) hn
  omega
theorem parts_mem {n : Nat} (hn : 0 < n) {l p : List Ent} (h : p ∈ parts n l) : 0 < p.length ∧ p.length ≤ n ∧ ∃ k, p = (l.drop k).take n := by
  obtain ⟨k, hk, rfl⟩ := List.mem_map.1 h
  rw [List.mem_range] at hk
  refine ⟨?_, List.length_take_le _ _, _, rfl⟩
  rw [List.length_take, List.length_drop]
  have := Nat.div_mul_le_self (l.length + (n - 1)) n
  have h2 : n * (k + 1) ≤ (l.length + (n - 1)) / n * n := by rw [Nat.mul_comm]; exact Nat.mul_le_mul_right n hk
  rw [Nat.mul_succ] at h2
  omega
theorem chkT_cons (p : Option ByteArray) (e : Ent) (l : List Ent) (hf : faultE e = 0) (hp : ∀ k, p = some k → ltB k e.k = true) : chkT p (e :: l) = chkT (some e.k) l := by
  cases p with
  | none => rw [chkT]; simp [hf]
  | some k => have := hp k rfl; rw [chkT]; simp [hf, leB_eq, this]
theorem chkT_of : ∀ (l : List Ent) (p : Option ByteArray), Rises l → (∀ e ∈ l, faultE e = 0) → (∀ k, p = some k → ∀ e ∈ l, ltB k e.k = true) → chkT p l = 0
  | [], _, _, _, _ => rfl
  | e :: l, p, hr, hf, hp => by
    have hr' := rises_cons.1 hr
    rw [chkT_cons p e l (hf e (by simp)) (fun k hk => hp k hk e (by simp))]
    exact chkT_of l (some e.k) hr'.2 (fun x hx => hf x (by simp [hx])) fun k hk x hx => by cases hk; exact hr'.1 x hx
theorem parts_ok {l : List Ent} (hr : Rises l) (hf : ∀ e ∈ l, faultE e = 0) : ∀ p ∈ parts 14 l, tabF p = 0 := by
  intro p hp
  obtain ⟨h1, h2, k, rfl⟩ := parts_mem (by omega) hp
  unfold tabF
  rw [if_neg (by omega)]
  have hs : ((l.drop k).take 14).Sublist l := (List.take_sublist _ _).trans (List.drop_sublist _ _)
  exact chkT_of _ _ (List.Pairwise.sublist hs hr) (fun e he => hf e (hs.subset he)) (fun k hk => by cases hk)

/-! ### what is so of what is there -/
theorem tab_rises {l : List Ent} (h : tabF l = 0) : Rises l := (chkT_rises (tabF_parts h).2.2).1
theorem LogAt.rises {c : Chip} {b : Nat} {mem es : List Ent} (h : LogAt c b mem es) : Rises mem := by rw [h.mem]; exact rises_puts es rises_nil
theorem LogAt.fault {c : Chip} {b : Nat} {mem es : List Ent} (h : LogAt c b mem es) : ∀ e ∈ mem, faultE e = 0 := by
  intro e he
  rw [h.mem] at he
  rcases puts_mem rises_nil he with he | he
  · exact h.ok e he
  · cases he
theorem LogAt.len {c : Chip} {b : Nat} {mem es : List Ent} (h : LogAt c b mem es) (hc : CWf c) (hb : b < 24) : mem.length ≤ 32 := by
  have h1 := puts_len es []
  rw [← h.mem] at h1
  have := h.few
  have := hc.len b hb
  simp at h1
  omega
theorem LogAt.keep {c c' : Chip} {b : Nat} {mem es : List Ent} (h : LogAt c b mem es) (hk : (c'.b b).l = (c.b b).l) : LogAt c' b mem es :=
  ⟨by rw [hk]; exact h.read, h.mem, by rw [hk]; exact h.few, h.ok⟩
section
variable {c c' : Chip} {s : SM}
theorem Body.tab (h : Body c s) : ∀ l ∈ s.tabs, Rises l := fun l hl => tab_rises (tabsAt_ok h.tabs l hl)
theorem Body.mem (h : Body c s) : Rises s.mem := by obtain ⟨es, h⟩ := h.log; exact h.rises
theorem Body.rng (h : Body c s) : ∀ b ∈ s.m.all, 2 ≤ b ∧ b < 24 := (fault_zero.1 h.fault).2.2.1
theorem Body.keep (h : Body c s) (hk : ∀ b : Nat, (b : Int) ∈ s.m.all → (c'.b b).l = (c.b b).l) (hw : weaks c' ≤ 6) : Body c' s := by
  have hr := h.rng
  have hk' : ∀ b : Int, b ∈ s.m.all → (c'.b b.toNat).l = (c.b b.toNat).l := fun b hb => by
    have := hr b hb
    obtain ⟨n, rfl⟩ := Int.eq_ofNat_of_zero_le (show 0 ≤ b by omega)
    exact hk n hb
  obtain ⟨es, hl⟩ := h.log
  exact ⟨h.fault, tabsAt_keep h.tabs fun b hb => hk' b (by simp only [Man.all, List.mem_cons]; exact .inr hb), ⟨es, hl.keep (hk' _ (by simp [Man.all]))⟩, hw, h.nwl, h.odl, h.old, h.rows, h.trows⟩
theorem Body.at_ (h : Body c s) (a : Int) : Body c { s with at_ := a } := ⟨h.fault, h.tabs, h.log, h.weak, h.nwl, h.odl, h.old, h.rows, h.trows⟩
theorem Inv.rises (h : Inv c s) : Rises s.rows := rises_rows h.body.mem h.body.tab
theorem weaks_restart (c : Chip) (how : Int) : weaks (c.restart how) = weaks c := by
  unfold weaks
  congr 1
  funext i
  rw [(restart_flags c how i).1]
/-- A fall in a block that is free changes nothing of the store. -/
theorem fall_free {c c' : Chip} {s : SM} (h : Inv c s) (hw : CWf c') (hx : Ext s.m.all c c') (hd : c'.down = true) {p : Pend} (hp : c'.pend = some p) (h1 : (p.blk : Int) ∉ s.m.all) (h2 : 2 ≤ p.blk) (b : List Ent) : Fallen s.m.ep s.rows b c' := by
  refine ⟨hw, hd, fun how => ⟨s, ⟨hw.restart_ how, rfl, ?_, ?_⟩, .inl rfl, Int.le_refl _⟩⟩
  · exact h.head.same (by rw [restart_far hp how (show 0 ≠ p.blk by omega), hx.keep 0 (.inr (by omega))]) (by rw [restart_far hp how (show 1 ≠ p.blk by omega), hx.keep 1 (.inr (by omega))])
  · refine h.body.keep (fun i hi => ?_) ?_
    · rw [restart_far hp how (fun e => h1 (by rw [← e]; exact hi)), hx.keep i (.inl hi)]
    · rw [weaks_restart, weaks_ext hx]; exact h.body.weak
end
end Go.Proofs.YtaepdbkfaoiimabGreatDoor
/- Plain: what each of a store's functions leaves: done, or fallen. Conditions: none but those that each names. -/
set_option linter.unusedVariables false
set_option linter.unusedSimpArgs false
namespace Go.Proofs.YtaepdbkfaoiimabGreatDoor
open Go.RowKit

/-- Blocks stay weak, or not; what is bad stays so; wear grows by so much at most. -/
structure Grew (c c' : Chip) (K : Int) : Prop where
  weak : ∀ i, (c'.b i).weak = (c.b i).weak
  bad : ∀ i, (c.b i).bad = true → (c'.b i).bad = true
  wear : ∀ X, 0 ≤ X → X + K ≤ 1000000000 → (∀ i, 2 ≤ i → 0 ≤ (c.b i).wear ∧ (c.b i).wear ≤ X) → ∀ i, 2 ≤ i → 0 ≤ (c'.b i).wear ∧ (c'.b i).wear ≤ X + K
section
variable {c c' c2 : Chip} {K L : Int}
theorem Grew.refl (c : Chip) : Grew c c 0 := ⟨fun _ => rfl, fun _ h => h, fun X h0 h1 h i hi => by have := h i hi; omega⟩
theorem Grew.mono (h : Grew c c' K) (hK : K ≤ L) : Grew c c' L := ⟨h.weak, h.bad, fun X h0 h1 hx i hi => by have := h.wear X h0 (by omega) hx i hi; omega⟩
theorem Grew.trans (h : Grew c c' K) (k : Grew c' c2 L) (h0 : 0 ≤ K) (h1 : 0 ≤ L) : Grew c c2 (K + L) :=
  ⟨fun i => (k.weak i).trans (h.weak i), fun i hi => k.bad i (h.bad i hi), fun X hX hb hx i hi => by
    have := k.wear (X + K) (by omega) (by omega) (h.wear X hX (by omega) hx) i hi
    omega⟩
theorem Grew.weaks (h : Grew c c' K) : weaks c' = Go.Proofs.YtaepdbkfaoiimabGreatDoor.weaks c := by
  unfold Go.Proofs.YtaepdbkfaoiimabGreatDoor.weaks
  congr 1
  funext i
  rw [h.weak]
theorem grew_wear1 {used : List Int} (h : Ext used c c') (hw : Wear1 c c') : Grew c c' 1 :=
  ⟨h.weak, h.bad, fun X h0 h1 hx i hi => by
    have := hx i hi
    rcases hw i with e | e
    · rw [e]; omega
    · rw [e, w64 _ (by omega) (by omega)]; omega⟩
/-- Blocks from the third one on are as they were. -/
theorem grew_same (hw : ∀ i, (c'.b i).weak = (c.b i).weak ∧ (c'.b i).bad = (c.b i).bad) (h2 : ∀ i, 2 ≤ i → c'.b i = c.b i) : Grew c c' 0 :=
  ⟨fun i => (hw i).1, fun i h => by rw [(hw i).2]; exact h, fun X h0 h1 hx i hi => by rw [h2 i hi]; have := hx i hi; omega⟩
theorem Fallen.mono {ep ep' : Int} {a b : List Ent} (h : Fallen ep a b c) (he : ep ≤ ep') : Fallen ep' a b c :=
  ⟨h.wf, h.down, fun how => by obtain ⟨s, h1, h2, h3⟩ := h.back how; exact ⟨s, h1, h2, by omega⟩⟩
theorem Fallen.or {ep : Int} {a : List Ent} (h : Fallen ep a a c) (b : List Ent) : Fallen ep a b c :=
  ⟨h.wf, h.down, fun how => by obtain ⟨s, h1, h2, h3⟩ := h.back how; exact ⟨s, h1, .inl (h2.elim id id), h3⟩⟩
end

/-- A manifest is noted, of what stands in the blocks. -/
theorem noted {c c1 : Chip} {s : SM} {m0 : Man} {mem' : List Ent} {tabs' : List (List Ent)} (h : Inv c s) (w1 : CWf c1) (d1 : c1.down = false) (x : Ext s.m.all c c1) (hb1 : Body c1 ⟨{ m0 with ep := s.m.ep + 1 }, 0, mem', tabs'⟩) :
    ∃ c2 s2 n, noteM c1 s m0 = (c2, s2, n) ∧ (c1.fuse < 0 → n = 0 ∧ c2.fuse < 0) ∧
      ((n = 0 ∧ ∃ a, s2 = { s with m := { m0 with ep := s.m.ep + 1 }, at_ := a } ∧ Inv c2 ⟨{ m0 with ep := s.m.ep + 1 }, a, mem', tabs'⟩ ∧ (∀ i, 2 ≤ i → c2.b i = c1.b i) ∧ Grew c1 c2 0) ∨
       (n = 9 ∧ Fallen (s.m.ep + 1) s.rows (rowsOf mem' tabs') c2)) := by
  have hd1 : Head c1 s.m s.at_ := h.head.same (by rw [x.keep 0 (.inr (by omega))]) (by rw [x.keep 1 (.inr (by omega))])
  obtain ⟨c2, a, k, e, w2, k2, f2, u2, g2⟩ := note_calm w1 d1 hd1 hb1.fault (show s.m.ep < s.m.ep + 1 by omega)
  have hg : Grew c1 c2 0 := grew_same f2 k2
  have hwk : weaks c2 ≤ 6 := by rw [hg.weaks]; exact hb1.weak
  unfold noteM
  rw [e]
  simp only
  rcases g2 with ⟨rfl, d2, h2⟩ | ⟨rfl, d2, h2⟩
  · rw [if_pos rfl]
    refine ⟨_, _, _, rfl, u2, .inl ⟨rfl, a, rfl, ⟨w2, d2, h2, ?_⟩, k2, hg⟩⟩
    refine (hb1.keep (fun i hi => ?_) hwk).at_ a
    have := hb1.rng _ hi
    rw [k2 i (by omega)]
  · rw [if_neg (by simp)]
    refine ⟨_, _, _, rfl, fun hf => absurd (u2 hf).1 (by omega), .inr ⟨rfl, w2, d2, fun how => ?_⟩⟩
    obtain ⟨h3, h4⟩ := h2 how
    rcases h4 with h4 | ⟨a2, h4⟩
    · refine ⟨s, ⟨w2.restart_ how, rfl, h4, ?_⟩, .inl rfl, by omega⟩
      refine h.body.keep (fun i hi => ?_) (by rw [weaks_restart]; exact hwk)
      have := h.body.rng _ hi
      rw [h3 i (by omega), x.keep i (.inl hi)]
    · refine ⟨⟨{ m0 with ep := s.m.ep + 1 }, a2, mem', tabs'⟩, ⟨w2.restart_ how, rfl, h4, ?_⟩, .inr rfl, Int.le_refl _⟩
      refine (hb1.keep (fun i hi => ?_) (by rw [weaks_restart]; exact hwk)).at_ a2
      have := hb1.rng _ hi
      rw [h3 i (by omega)]
theorem faults_live {c : Chip} {s : SM} (h : Body c s) : ∀ e ∈ liveE (mergeAll s.tabs), faultE e = 0 := by
  intro e he
  obtain ⟨l, hl, hel⟩ := merge_mem (live_mem he).1
  exact chkT_all (tabF_parts (tabsAt_ok h.tabs l hl)).2.2 e hel
theorem ext_nil {used : List Int} {c c' : Chip} (h : Ext (used ++ []) c c') : Ext used c c' := by rw [List.append_nil] at h; exact h
theorem all_split {m : Man} (h : m.fault = 0) : m.log ∉ m.nw ++ m.od ∧ (m.nw ++ m.od).Nodup := by
  have := (fault_zero.1 h).2.2.2
  exact List.nodup_cons.1 this
/-- **Compact.** -/
theorem comp_calm {c : Chip} {s : SM} (h : Inv c s) (hep : s.m.ep + 1 ≤ 100000) :
    ∃ c' s' n, compM c s = (c', s', n) ∧ (c.fuse < 0 → n = 0 ∧ c'.fuse < 0) ∧
      ((n = 0 ∧ Inv c' s' ∧ s'.rows = s.rows ∧ s'.m.ep = s.m.ep + 1 ∧ Grew c c' 1 ∧ s'.mem = s.mem ∧ s'.m.nw = [] ∧ s'.m.log = s.m.log ∧ (∀ i : Nat, (i : Int) = s.m.log → c'.b i = c.b i) ∧ s'.tabs = parts 14 (liveE (mergeAll s.tabs))) ∨
       (n = 9 ∧ Fallen (s.m.ep + 1) s.rows s.rows c')) := by
  have hb := h.body
  have hlr := rises_live (rises_mergeAll hb.tab)
  have hpl : (parts 14 (liveE (mergeAll s.tabs))).length ≤ 3 := by
    have := hb.trows
    rw [parts_len]
    omega
  obtain ⟨c1, o, n1, e1, w1, x1, f1, g1⟩ := tables_calm s.m.all (parts 14 (liveE (mergeAll s.tabs))) c [] h.wf h.up hb.weak (by
    have := hb.nwl; have := hb.odl
    simp [Man.all]; omega) (parts_ok hlr (faults_live hb))
  unfold compM
  rw [e1]
  simp only
  rcases g1 with ⟨rfl, d1, nw, hnwo, t1, u1, m1, v1, y1⟩ | ⟨rfl, d1, p, p1, p2, p3⟩
  · rw [if_neg (by simp)]
    have x1' := ext_nil x1
    rw [List.nil_append] at hnwo
    have hnwo := hnwo.symm
    subst hnwo
    have hf := fault_zero.1 hb.fault
    have hfl : (parts 14 (liveE (mergeAll s.tabs))).flatten = liveE (mergeAll s.tabs) := parts_flat (by omega) _
    have hb1 : Body c1 ⟨{ (⟨0, s.m.log, [], nw⟩ : Man) with ep := s.m.ep + 1 }, 0, s.mem, parts 14 (liveE (mergeAll s.tabs))⟩ := by
      obtain ⟨es, hl⟩ := hb.log
      refine ⟨fault_zero.2 ⟨by show 1 ≤ s.m.ep + 1; omega, hep, ?_, ?_⟩, t1, ⟨es, hl.keep ?_⟩, by rw [weaks_ext x1]; exact hb.weak, by simp, ?_, ⟨by simpa [hfl] using hlr, ?_⟩, ?_, ?_⟩
      · intro b hbm
        simp [Man.all] at hbm
        rcases hbm with rfl | hbm
        · exact hb.rng _ (by simp [Man.all])
        · exact ⟨(m1 b hbm).2.1, (m1 b hbm).2.2.1⟩
      · refine List.nodup_cons.2 ⟨fun hm => ?_, by simpa using u1⟩
        have := (m1 _ (by simpa using hm)).1
        simp [Man.all] at this
      · have := hb.rng s.m.log (by simp [Man.all])
        rw [x1'.keep s.m.log.toNat (.inl (by rw [Int.toNat_of_nonneg (by omega)]; simp [Man.all]))]
      · show nw.length ≤ 3
        rw [tabsAt_len t1]; exact hpl
      · show ∀ e ∈ (parts 14 (liveE (mergeAll s.tabs))).flatten, e.g = false
        rw [hfl]
        exact fun e he => (live_mem he).2
      · show (rowsOf s.mem (parts 14 (liveE (mergeAll s.tabs)))).length ≤ 40
        rw [rows_compact hb.mem hb.tab hfl]
        exact hb.rows
      · show (liveE (mergeAll (parts 14 (liveE (mergeAll s.tabs))))).length ≤ 40
        rw [mergeAll_chunks (by rw [hfl]; exact hlr), hfl, live_live]
        exact hb.trows
    obtain ⟨c2, s2, n2, e2, f2, g2⟩ := noted h w1 d1 x1' hb1
    rw [e2]
    simp only
    rcases g2 with ⟨rfl, a, rfl, i2, k2, r2⟩ | ⟨rfl, fl⟩
    · rw [if_pos rfl]
      refine ⟨_, _, _, rfl, fun hf => f2 (f1 hf).2, .inl ⟨rfl, i2, rows_compact hb.mem hb.tab hfl, rfl, ((grew_wear1 x1' y1).trans r2 (by omega) (by omega)).mono (by omega), rfl, rfl, rfl, fun i hi => ?_, rfl⟩⟩
      have := hb.rng s.m.log (by simp [Man.all])
      rw [k2 i (by omega), x1'.keep i (.inl (by rw [hi]; simp [Man.all]))]
    · rw [if_neg (by simp)]
      refine ⟨_, _, _, rfl, fun hf => absurd (f2 (f1 hf).2).1 (by omega), .inr ⟨rfl, ?_⟩⟩
      rw [rows_compact hb.mem hb.tab hfl] at fl
      exact fl
  · rw [if_pos (by simp)]
    exact ⟨_, _, _, rfl, fun hf => absurd (f1 hf).1 (by omega), .inr ⟨rfl, (fall_free h w1 (ext_nil x1) d1 p1 p2 p3 _).mono (by omega)⟩⟩
theorem Fallen.mem_len {c : Chip} {s : SM} (h : Inv c s) : s.mem.length ≤ 32 := by
  obtain ⟨es, hl⟩ := h.body.log
  have := h.body.rng s.m.log (by simp [Man.all])
  exact hl.len h.wf (by omega)
/-- **What is at hand is laid.** -/
theorem lay_calm {c : Chip} {s : SM} (h : Inv c s) (hep : s.m.ep + 1 ≤ 100000) (hnw : s.m.nw.length ≤ 2) :
    ∃ c' s' n, layM c s = (c', s', n) ∧ (c.fuse < 0 → n = 0 ∧ c'.fuse < 0) ∧
      ((n = 0 ∧ Inv c' s' ∧ s'.rows = s.rows ∧ s'.m.ep = s.m.ep + 1 ∧ Grew c c' 2 ∧ s'.mem = [] ∧ s'.tabs = parts 14 s.mem ++ s.tabs ∧
          (∃ q : Nat, s'.m.log = q ∧ (c'.b q).l = [] ∧ (c'.b q).weak = false ∧ (c.b q).bad = false) ∧ (∀ b ∈ s'.m.nw, b ∈ s.m.nw ∨ (c.b b.toNat).bad = false)) ∨
       (n = 9 ∧ Fallen (s.m.ep + 1) s.rows s.rows c')) := by
  have hb := h.body
  have hml := Fallen.mem_len h
  obtain ⟨es, hlog⟩ := hb.log
  have hpl : (parts 14 s.mem).length ≤ 3 := by rw [parts_len]; omega
  obtain ⟨c1, o, n1, e1, w1, x1, f1, g1⟩ := tables_calm s.m.all (parts 14 s.mem) c [] h.wf h.up hb.weak (by
    have := hb.odl
    simp [Man.all]; omega) (parts_ok hb.mem hlog.fault)
  unfold layM
  rw [e1]
  simp only
  rcases g1 with ⟨rfl, d1, nw, hnwo, t1, u1, m1, v1, y1⟩ | ⟨rfl, d1, p, p1, p2, p3⟩
  · rw [if_neg (by simp)]
    have x1' := ext_nil x1
    rw [List.nil_append] at hnwo
    have hnwo := hnwo.symm
    subst hnwo
    have hnl : nw.length ≤ 3 := by rw [tabsAt_len t1]; exact hpl
    have hwk1 : weaks c1 ≤ 6 := by rw [weaks_ext x1]; exact hb.weak
    obtain ⟨c2, b, n2, e2, w2, x2, f2, g2⟩ := seek_calm lays_erase (s.m.all ++ nw) 25 c1 (by have := goods_le c1; omega) w1 d1 (block_left w1 hwk1 (by
      have := hb.odl
      simp [Man.all]; omega))
    have x12 : Ext s.m.all c c2 := x1'.trans x2 (fun i hi => by simp [hi])
    unfold blankM
    rw [e2]
    simp only
    rcases g2 with ⟨rfl, d2, q2, q, rfl, q3, q4, q5, q6, q7, q8, q9⟩ | ⟨rfl, d2, p, p1, p2, p3⟩
    · rw [if_neg (by simp)]
      have hfl : (parts 14 s.mem).flatten = s.mem := parts_flat (by omega) _
      have hf := fault_zero.1 hb.fault
      have hsp := all_split hb.fault
      have hq1 : (q : Int) ∉ s.m.all := fun hm => q5 (by simp [hm])
      have hq2 : (q : Int) ∉ nw := fun hm => q5 (by simp [hm])
      have hqb : (c.b q).bad = false := by
        cases hbd : (c.b q).bad
        · rfl
        · rw [x1.bad _ hbd] at q7; cases q7
      have hg2 : Grew c1 c2 1 := grew_wear1 x2 (fun i => by
        rw [q9 i]; split
        · exact .inr rfl
        · exact .inl rfl)
      have hkeep : ∀ b ∈ nw, (c2.b b.toNat).l = (c1.b b.toNat).l := fun b hb' => by
        have := m1 b hb'
        rw [x2.keep b.toNat (.inl (by rw [Int.toNat_of_nonneg (by omega)]; simp [hb']))]
      have hkeep2 : ∀ b ∈ s.m.nw ++ s.m.od, (c2.b b.toNat).l = (c.b b.toNat).l := fun b hb' => by
        have hm : b ∈ s.m.all := by simp only [Man.all, List.mem_cons]; exact .inr hb'
        have := hb.rng b hm
        rw [x12.keep b.toNat (.inl (by rw [Int.toNat_of_nonneg (by omega)]; exact hm))]
      have hb2 : Body c2 ⟨{ (⟨0, (q : Int), nw ++ s.m.nw, s.m.od⟩ : Man) with ep := s.m.ep + 1 }, 0, [], parts 14 s.mem ++ s.tabs⟩ := by
        refine ⟨fault_zero.2 ⟨by show 1 ≤ s.m.ep + 1; omega, hep, ?_, ?_⟩, ?_, ⟨[], ?_, rfl, by simp, by simp⟩, by rw [weaks_ext x12]; exact hb.weak, ?_, hb.odl, ?_, ?_, ?_⟩
        · intro b hbm
          simp only [Man.all, List.mem_cons, List.mem_append] at hbm
          rcases hbm with rfl | (hbm | hbm) | hbm
          · omega
          · exact ⟨(m1 b hbm).2.1, (m1 b hbm).2.2.1⟩
          · exact hb.rng _ (by simp [Man.all, hbm])
          · exact hb.rng _ (by simp [Man.all, hbm])
        · refine List.nodup_cons.2 ⟨fun hm => ?_, ?_⟩
          · simp only [List.mem_append] at hm
            rcases hm with (hm | hm) | hm
            · exact hq2 hm
            · exact hq1 (by simp [Man.all, hm])
            · exact hq1 (by simp [Man.all, hm])
          · show ((nw ++ s.m.nw) ++ s.m.od).Nodup
            rw [List.append_assoc, List.nodup_append]
            refine ⟨u1, hsp.2, fun a ha b hb' e => ?_⟩
            subst e
            exact (m1 a ha).1 (by simp only [List.append_nil, Man.all, List.mem_cons]; exact .inr hb')
        · show TabsAt c2 ((nw ++ s.m.nw) ++ s.m.od) (parts 14 s.mem ++ s.tabs)
          rw [List.append_assoc]
          exact tabsAt_app (tabsAt_keep t1 hkeep) (tabsAt_keep hb.tabs hkeep2)
        · show logE (c2.b ((q : Int).toNat)).l = some []
          rw [Int.toNat_natCast, q6]; rfl
        · show (nw ++ s.m.nw).length ≤ 5
          rw [List.length_append]; omega
        · show Rises ((parts 14 s.mem ++ s.tabs).drop (nw ++ s.m.nw).length).flatten ∧ _
          have e : (parts 14 s.mem ++ s.tabs).drop (nw ++ s.m.nw).length = s.tabs.drop s.m.nw.length := by
            rw [List.length_append, tabsAt_len t1, ← List.drop_drop, List.drop_left]
          have e' : ∀ e' ∈ ((parts 14 s.mem ++ s.tabs).drop (nw ++ s.m.nw).length).flatten, e'.g = false := by rw [e]; exact hb.old.2
          exact ⟨by rw [e]; exact hb.old.1, e'⟩
        · show (rowsOf [] (parts 14 s.mem ++ s.tabs)).length ≤ 40
          rw [rows_flush' hb.mem hb.tab hfl]
          exact hb.rows
        · show (liveE (mergeAll (parts 14 s.mem ++ s.tabs))).length ≤ 40
          rw [rows_flush hb.mem hb.tab hfl]
          exact hb.rows
      obtain ⟨c3, s3, n3, e3, f3, g3⟩ := noted h w2 d2 x12 hb2
      rw [e3]
      simp only
      rcases g3 with ⟨rfl, a, rfl, i3, k3, r3⟩ | ⟨rfl, fl⟩
      · rw [if_pos rfl]
        refine ⟨_, _, _, rfl, fun hf => f3 (f2 (f1 hf).2).2, .inl ⟨rfl, i3, rows_flush' hb.mem hb.tab hfl, rfl, (((grew_wear1 x1' y1).trans hg2 (by omega) (by omega)).trans r3 (by omega) (by omega)).mono (by omega), rfl, rfl, ⟨q, rfl, by rw [k3 q q3, q6], by rw [k3 q q3, q8], hqb⟩, fun b hbm => ?_⟩⟩
        rcases List.mem_append.1 hbm with hbm | hbm
        · exact .inr (m1 b hbm).2.2.2
        · exact .inl hbm
      · rw [if_neg (by simp)]
        refine ⟨_, _, _, rfl, fun hf => absurd (f3 (f2 (f1 hf).2).2).1 (by omega), .inr ⟨rfl, ?_⟩⟩
        rw [rows_flush' hb.mem hb.tab hfl] at fl
        exact fl
    · rw [if_pos (by simp)]
      exact ⟨_, _, _, rfl, fun hf => absurd (f2 (f1 hf).2).1 (by omega), .inr ⟨rfl, (fall_free h w2 x12 d2 p1 (fun hm => p2 (by simp [hm])) p3 _).mono (by omega)⟩⟩
  · rw [if_pos (by simp)]
    exact ⟨_, _, _, rfl, fun hf => absurd (f1 hf).1 (by omega), .inr ⟨rfl, (fall_free h w1 (ext_nil x1) d1 p1 p2 p3 _).mono (by omega)⟩⟩
end Go.Proofs.YtaepdbkfaoiimabGreatDoor
/- Plain: Flush, Write, Format: what they leave. Conditions: none but those that each names. -/
set_option linter.unusedVariables false
set_option linter.unusedSimpArgs false
namespace Go.Proofs.YtaepdbkfaoiimabGreatDoor
open Go.RowKit

theorem few_calm {c : Chip} {s : SM} (h : Inv c s) (hep : s.m.ep + 1 ≤ 100000) :
    ∃ c' s' n, fewM c s = (c', s', n) ∧ (c.fuse < 0 → n = 0 ∧ c'.fuse < 0) ∧
      ((n = 0 ∧ Inv c' s' ∧ s'.rows = s.rows ∧ s.m.ep ≤ s'.m.ep ∧ s'.m.ep ≤ s.m.ep + 1 ∧ Grew c c' 1 ∧ s'.mem = s.mem ∧ s'.m.nw.length ≤ 2 ∧ (∀ b ∈ s'.m.nw, b ∈ s.m.nw) ∧ s'.m.log = s.m.log ∧ (∀ i : Nat, (i : Int) = s.m.log → c'.b i = c.b i)) ∨
       (n = 9 ∧ Fallen (s.m.ep + 1) s.rows s.rows c')) := by
  unfold fewM
  by_cases h3 : s.m.nw.length < 3
  · rw [if_pos h3]
    exact ⟨_, _, _, rfl, fun hf => ⟨rfl, hf⟩, .inl ⟨rfl, h, rfl, by omega, by omega, (Grew.refl c).mono (by omega), rfl, by omega, fun b hb => hb, rfl, fun _ _ => rfl⟩⟩
  · rw [if_neg h3]
    obtain ⟨c', s', n, e, f, g⟩ := comp_calm h hep
    refine ⟨c', s', n, e, f, ?_⟩
    rcases g with ⟨h1, h2, h3, h4, h5, h6, h7, h8, h9, h10⟩ | g
    · exact .inl ⟨h1, h2, h3, by omega, by omega, h5, h6, by rw [h7]; simp, by rw [h7]; simp, h8, h9⟩
    · exact .inr g
/-- **Flush.** -/
theorem flush_calm {c : Chip} {s : SM} (h : Inv c s) (hep : s.m.ep + 3 ≤ 100000) :
    ∃ c' s' n, flushM c s = (c', s', n) ∧ (c.fuse < 0 → n = 0 ∧ c'.fuse < 0) ∧
      ((n = 0 ∧ Inv c' s' ∧ s'.rows = s.rows ∧ s.m.ep ≤ s'.m.ep ∧ s'.m.ep ≤ s.m.ep + 3 ∧ Grew c c' 4 ∧ s'.mem = [] ∧ s'.m.nw.length ≤ 2 ∧
          (∃ q : Nat, s'.m.log = q ∧ (c'.b q).l = [] ∧ (c'.b q).weak = false ∧ (c.b q).bad = false) ∧ (∀ b ∈ s'.m.nw, b ∈ s.m.nw ∨ (c.b b.toNat).bad = false)) ∨
       (n = 9 ∧ Fallen (s.m.ep + 3) s.rows s.rows c')) := by
  obtain ⟨c1, s1, n1, e1, f1, g1⟩ := few_calm h (by omega)
  unfold flushM
  rw [e1]
  simp only
  rcases g1 with ⟨rfl, i1, r1, a1, b1, k1, m1, w1, v1, _, _⟩ | ⟨rfl, fl⟩
  · rw [if_neg (by simp)]
    obtain ⟨c2, s2, n2, e2, f2, g2⟩ := lay_calm i1 (by omega) w1
    rw [e2]
    simp only
    rcases g2 with ⟨rfl, i2, r2, a2, k2, m2, _, ⟨q, q1, q2, q3, q4⟩, v2⟩ | ⟨rfl, fl⟩
    · rw [if_neg (by simp)]
      obtain ⟨c3, s3, n3, e3, f3, g3⟩ := few_calm i2 (by omega)
      refine ⟨c3, s3, n3, e3, fun hf => f3 (f2 (f1 hf).2).2, ?_⟩
      rcases g3 with ⟨rfl, i3, r3, a3, b3, k3, m3, w3, v3, l3, o3⟩ | ⟨rfl, fl⟩
      · refine .inl ⟨rfl, i3, by rw [r3, r2, r1], by omega, by omega, ((k1.trans k2 (by omega) (by omega)).trans k3 (by omega) (by omega)).mono (by omega), by rw [m3, m2], w3, ⟨q, by rw [l3, q1], by rw [o3 q q1.symm, q2], by rw [o3 q q1.symm, q3], ?_⟩, fun b hb => ?_⟩
        · cases hb : (c.b q).bad
          · rfl
          · rw [k1.bad _ hb] at q4; cases q4
        · rcases v2 b (v3 b hb) with h' | h'
          · exact .inl (v1 b h')
          · right
            cases hb : (c.b b.toNat).bad
            · rfl
            · rw [k1.bad _ hb] at h'; cases h'
      · refine .inr ⟨rfl, ?_⟩
        rw [r2, r1] at fl
        exact fl.mono (by omega)
    · rw [if_pos (by simp)]
      refine ⟨_, _, _, rfl, fun hf => absurd (f2 (f1 hf).2).1 (by omega), .inr ⟨rfl, ?_⟩⟩
      rw [r1] at fl
      exact fl.mono (by omega)
  · rw [if_pos (by simp)]
    exact ⟨_, _, _, rfl, fun hf => absurd (f1 hf).1 (by omega), .inr ⟨rfl, fl.mono (by omega)⟩⟩
theorem room_calm {c : Chip} {s : SM} (h : Inv c s) (hep : s.m.ep + 3 ≤ 100000) :
    ∃ c' s' n, roomM c s = (c', s', n) ∧ (c.fuse < 0 → n = 0 ∧ c'.fuse < 0) ∧
      ((n = 0 ∧ Inv c' s' ∧ s'.rows = s.rows ∧ s.m.ep ≤ s'.m.ep ∧ s'.m.ep ≤ s.m.ep + 3 ∧ Grew c c' 4 ∧ (s.m.nw.length ≤ 2 → s'.m.nw.length ≤ 2) ∧ (c'.b s'.m.log.toNat).l.length < 8 ∧ ((c.b s.m.log.toNat).weak = false → (c'.b s'.m.log.toNat).weak = false)) ∨
       (n = 9 ∧ Fallen (s.m.ep + 3) s.rows s.rows c')) := by
  unfold roomM
  by_cases h8 : (c.b s.m.log.toNat).l.length < 8
  · rw [if_pos h8]
    exact ⟨_, _, _, rfl, fun hf => ⟨rfl, hf⟩, .inl ⟨rfl, h, rfl, by omega, by omega, (Grew.refl c).mono (by omega), id, h8, id⟩⟩
  · rw [if_neg h8]
    obtain ⟨c', s', n, e, f, g⟩ := flush_calm h hep
    refine ⟨c', s', n, e, f, ?_⟩
    rcases g with ⟨h1, h2, h3, h4, h5, h6, h7, h8, ⟨q, q1, q2, q3, q4⟩, h10⟩ | g
    · exact .inl ⟨h1, h2, h3, h4, h5, h6, fun _ => h8, by rw [q1, Int.toNat_natCast, q2]; simp, fun _ => by rw [q1, Int.toNat_natCast, q3]⟩
    · exact .inr g

theorem logE_snoc : ∀ (l : List Sheet) (x : Sheet) (es fs : List Ent), logE l = some es → logE [x] = some fs → logE (l ++ [x]) = some (es ++ fs)
  | [], x, es, fs, h1, h2 => by cases h1; exact h2
  | y :: l, x, es, fs, h1, h2 => by
    rw [List.cons_append]
    unfold logE at h1 ⊢
    split
    · rename_i ht
      rw [if_pos ht] at h1
      exact logE_snoc l x es fs h1 h2
    · rename_i ht
      rw [if_neg ht] at h1
      cases hp : parseR y.d with
      | none => rw [hp] at h1; simp at h1
      | some gs =>
        cases hl : logE l with
        | none => rw [hp, hl] at h1; simp at h1
        | some hs =>
          rw [hp, hl] at h1
          cases h1
          rw [logE_snoc l x hs fs hl h2, List.append_assoc]
theorem log_torn (l : List Sheet) (es : List Ent) (h : logE l = some es) : logE (l ++ [torn]) = some es := by
  have := logE_snoc l torn es [] h rfl
  rw [List.append_nil] at this
  exact this
theorem bytesF_parts {l : List Ent} (h : bytesF l = 0) : (∀ e ∈ l, faultE e = 0) ∧ (bytesL l.length l).size ≤ 64 := by
  unfold bytesF at h
  have hff : ff l = 0 := by
    by_cases h0 : ff l = 0
    · exact h0
    · rw [if_neg h0] at h; exact h
  rw [if_pos hff] at h
  refine ⟨?_, ?_⟩
  · clear h
    induction l with
    | nil => simp
    | cons e l ih =>
      unfold ff at hff
      split at hff
      · rename_i he
        intro x hx
        rcases List.mem_cons.1 hx with rfl | hx
        · exact he
        · exact ih hff x hx
      · rename_i he; exact absurd hff he
  · split at h
    · cases h
    · omega
theorem log_data {l : List Ent} (h : bytesF l = 0) (hl : l.length ≤ 4) : logE [⟨pad (bytesL l.length l), false⟩] = some l := by
  have := parse_bytes l (bytesF_parts h).1 (by omega) (s := pad (bytesL l.length l)) (k := 64 - (bytesL l.length l).size) pad_data
  unfold logE
  rw [if_neg (by simp), this, logE]
  simp
/-- A batch stands in the log. -/
theorem log_next {c c' : Chip} {s : SM} {l : List Ent} (h : Body c s) (hl : l.length ≤ 4) (hf : bytesF l = 0) (hnew : (liveE (l.foldl putE s.rows)).length ≤ 40)
    (hk : ∀ b : Nat, (b : Int) ∈ s.m.all → (b : Int) ≠ s.m.log → (c'.b b).l = (c.b b).l) (hlog : (c'.b s.m.log.toNat).l = (c.b s.m.log.toNat).l ++ [⟨pad (bytesL l.length l), false⟩]) (hw : weaks c' ≤ 6) : Body c' { s with mem := l.foldl putE s.mem } := by
  obtain ⟨es, hes⟩ := h.log
  have hsp := all_split h.fault
  refine ⟨h.fault, tabsAt_keep h.tabs fun b hb => ?_, ⟨es ++ l, ?_, ?_, ?_, ?_⟩, hw, h.nwl, h.odl, h.old, ?_, h.trows⟩
  · have hm : b ∈ s.m.all := by simp only [Man.all, List.mem_cons]; exact .inr hb
    have := h.rng b hm
    obtain ⟨n, rfl⟩ := Int.eq_ofNat_of_zero_le (show 0 ≤ b by omega)
    exact hk n hm fun e => hsp.1 (e ▸ hb)
  · show logE (c'.b s.m.log.toNat).l = _
    rw [hlog]
    exact logE_snoc _ _ _ _ hes.read (log_data hf hl)
  · show l.foldl putE s.mem = _
    rw [hes.mem, List.foldl_append]
  · show (es ++ l).length ≤ 4 * (c'.b s.m.log.toNat).l.length
    rw [hlog, List.length_append, List.length_append, List.length_singleton]
    have := hes.few
    omega
  · intro e he
    rcases List.mem_append.1 he with he | he
    · exact hes.ok e he
    · exact (bytesF_parts hf).1 e he
  · show (rowsOf (l.foldl putE s.mem) s.tabs).length ≤ 40
    rw [rows_write l h.mem h.tab]
    exact hnew
theorem log_half {c c' : Chip} {s : SM} (h : Body c s)
    (hk : ∀ b : Nat, (b : Int) ∈ s.m.all → (b : Int) ≠ s.m.log → (c'.b b).l = (c.b b).l) (hlog : (c'.b s.m.log.toNat).l = (c.b s.m.log.toNat).l ++ [torn]) (hw : weaks c' ≤ 6) : Body c' s := by
  obtain ⟨es, hes⟩ := h.log
  have hsp := all_split h.fault
  refine ⟨h.fault, tabsAt_keep h.tabs fun b hb => ?_, ⟨es, ?_, hes.mem, ?_, hes.ok⟩, hw, h.nwl, h.odl, h.old, h.rows, h.trows⟩
  · have hm : b ∈ s.m.all := by simp only [Man.all, List.mem_cons]; exact .inr hb
    have := h.rng b hm
    obtain ⟨n, rfl⟩ := Int.eq_ofNat_of_zero_le (show 0 ≤ b by omega)
    exact hk n hm fun e => hsp.1 (e ▸ hb)
  · rw [hlog]; exact log_torn _ _ hes.read
  · rw [hlog, List.length_append, List.length_singleton]
    have := hes.few
    omega
/-- What the step on the log leaves, where it has room. -/
theorem logw_calm {c : Chip} {s : SM} {l : List Ent} (h : Inv c s) (hl : l.length ≤ 4) (hf : bytesF l = 0) (hnew : (liveE (l.foldl putE s.rows)).length ≤ 40) (h8 : (c.b s.m.log.toNat).l.length < 8) :
    ∃ c' n, c.write s.m.log (bytesL l.length l) = (c', n) ∧ (c.fuse < 0 → n ≠ 9 ∧ c'.fuse < 0) ∧
      ((n = 0 ∧ Inv c' { s with mem := l.foldl putE s.mem } ∧ Grew c c' 0 ) ∨ (n = 7 ∧ (c.b s.m.log.toNat).weak = true ∧ Inv c' s ∧ Grew c c' 0) ∨ (n = 9 ∧ Fallen s.m.ep s.rows (liveE (l.foldl putE s.rows)) c')) := by
  have hr := h.body.rng s.m.log (by simp [Man.all])
  obtain ⟨q, hq⟩ := Int.eq_ofNat_of_zero_le (show 0 ≤ s.m.log by omega)
  rw [hq] at hr
  rw [hq, Int.toNat_natCast] at h8
  have hqt : s.m.log.toNat = q := by rw [hq]; rfl
  have hsz := (bytesF_parts hf).2
  rw [hqt, hq]
  by_cases hbad : (c.b q).bad = true
  · have e : c.write q (bytesL l.length l) = (c, 7) := by
      have hrd : c.ready q = 7 := by unfold Chip.ready; rw [h.up, if_neg (by simp), if_neg (by omega), Int.toNat_natCast, hbad, if_pos rfl]
      unfold Chip.write
      rw [hrd, if_pos (by simp)]
    exact ⟨_, _, e, fun hfu => ⟨by simp, hfu⟩, .inr (.inl ⟨rfl, h.wf.bad q hbad, h, Grew.refl c⟩)⟩
  · have hbad : (c.b q).bad = false := by simpa using hbad
    cases hwk : (c.b q).weak
    · obtain ⟨c', n, e, s1, f1, g1⟩ := write_calm (c := c) (b := q) (by omega) h.up hbad hwk hsz h8
      have w1 : CWf c' := by have := h.wf.write_ (q : Int) (bytesL l.length l); rw [e] at this; exact this
      have hflag : ∀ i, (c'.b i).weak = (c.b i).weak ∧ (c'.b i).bad = (c.b i).bad := fun i => by
        by_cases hi : i = q
        · subst hi; exact ⟨s1.weak, s1.bad⟩
        · rw [s1.other i hi]; exact ⟨rfl, rfl⟩
      have hwks : ∀ {c2 : Chip}, (∀ i, (c2.b i).weak = (c.b i).weak) → weaks c2 ≤ 6 := fun {c2} h2 => by
        have e2 : weaks c2 = weaks c := by unfold weaks; congr 1; funext i; rw [h2]
        rw [e2]; exact h.body.weak
      refine ⟨c', n, e, fun hfu => ⟨by rw [(f1 hfu).1]; simp, (f1 hfu).2⟩, ?_⟩
      rcases g1 with ⟨rfl, d1, p1, l1, x1⟩ | ⟨rfl, d1, p1, b1⟩
      · refine .inl ⟨rfl, ⟨w1, d1, h.head.same (by rw [s1.other 0 (by omega)]) (by rw [s1.other 1 (by omega)]), ?_⟩, ⟨fun i => (hflag i).1, fun i hi => by rw [(hflag i).2]; exact hi, fun X hX hK hx i hi => ?_⟩⟩
        · refine log_next h.body hl hf hnew (fun b hb hne => ?_) (by rw [hqt]; exact l1) (hwks fun i => (hflag i).1)
          rw [s1.other b (fun e => hne (by rw [e, hq]))]
        · by_cases hi' : i = q
          · subst hi'; rw [x1]; have := hx i hi; omega
          · rw [s1.other i hi']; have := hx i hi; omega
      · refine .inr (.inr ⟨rfl, w1, d1, fun how => ?_⟩)
        have hfar : ∀ i, i ≠ q → (c'.restart how).b i = c.b i := fun i hi => by rw [restart_far p1 how hi, b1]
        have hrw : ∀ i, ((c'.restart how).b i).weak = (c.b i).weak := fun i => by rw [(restart_flags c' how i).1, b1]
        have hhead : Head (c'.restart how) s.m s.at_ := h.head.same (by rw [hfar 0 (by omega)]) (by rw [hfar 1 (by omega)])
        have hk : ∀ b : Nat, (b : Int) ∈ s.m.all → (b : Int) ≠ s.m.log → ((c'.restart how).b b).l = (c.b b).l := fun b hb hne => by rw [hfar b (fun e => hne (by rw [e, hq]))]
        rcases undone_cases p1 how with e2 | e2 | e2
        · refine ⟨s, ⟨w1.restart_ how, rfl, hhead, ?_⟩, .inl rfl, Int.le_refl _⟩
          exact h.body.keep (fun b hb => by rw [restart_b, e2, b1]) (hwks hrw)
        · refine ⟨s, ⟨w1.restart_ how, rfl, hhead, ?_⟩, .inl rfl, Int.le_refl _⟩
          refine log_half h.body hk ?_ (hwks hrw)
          rw [hqt, restart_b, e2]
          simp only [halfP, Chip.set_same, b1]
        · refine ⟨{ s with mem := l.foldl putE s.mem }, ⟨w1.restart_ how, rfl, hhead, ?_⟩, .inr (rows_write l h.body.mem h.body.tab), Int.le_refl _⟩
          refine log_next h.body hl hf hnew hk ?_ (hwks hrw)
          rw [hqt, restart_b, e2]
          simp only [doP, Chip.set_same, b1]
    · have e : c.write q (bytesL l.length l) = (c.spoil q, 7) := by
        have hrd : c.ready q = 0 := by unfold Chip.ready; rw [h.up, if_neg (by simp), if_neg (by omega), Int.toNat_natCast, hbad]; simp
        unfold Chip.write
        rw [hrd, if_neg (by simp), if_neg (by omega), Int.toNat_natCast, if_neg (by omega), hwk, if_pos rfl]
      obtain ⟨r1, r2, r3⟩ := spoil_rest c q
      have hl : ∀ i, ((c.spoil q).b i).l = (c.b i).l := fun i => (spoil_flags c q i).2.2.2
      have hg : Grew c (c.spoil q) 0 := ⟨fun i => (spoil_flags c q i).1, fun i => (spoil_flags c q i).2.2.1, fun X h0 h1 hx i hi => by rw [(spoil_flags c q i).2.1]; have := hx i hi; omega⟩
      exact ⟨_, _, e, fun hfu => ⟨by simp, by rw [r3]; exact hfu⟩, .inr (.inl ⟨rfl, rfl, ⟨h.wf.spoil_ q h.up, by rw [r1]; exact h.up, h.head.same (hl 0) (hl 1), h.body.keep (fun b _ => hl b) (by rw [hg.weaks]; exact h.body.weak)⟩, hg⟩)⟩
/-- A batch is noted. -/
theorem log_calm {c : Chip} {s : SM} {l : List Ent} (h : Inv c s) (hl : l.length ≤ 4) (hf : bytesF l = 0) (hnew : (liveE (l.foldl putE s.rows)).length ≤ 40) (hep : s.m.ep + 9 ≤ 100000) :
    ∃ c' s' n, logM (bytesL l.length l) 2 c s = (c', s', n) ∧ (c.fuse < 0 → n = 0 ∧ c'.fuse < 0) ∧
      ((n = 0 ∧ Inv c' { s' with mem := l.foldl putE s'.mem } ∧ rowsOf (l.foldl putE s'.mem) s'.tabs = liveE (l.foldl putE s.rows) ∧ s.m.ep ≤ s'.m.ep ∧ s'.m.ep ≤ s.m.ep + 9 ∧ Grew c c' 12 ∧ (s.m.nw.length ≤ 2 → s'.m.nw.length ≤ 2)) ∨
       (n = 9 ∧ Fallen (s.m.ep + 9) s.rows (liveE (l.foldl putE s.rows)) c')) := by
  obtain ⟨c1, s1, n1, e1, f1, g1⟩ := room_calm h (by omega)
  unfold logM
  rw [e1]
  simp only
  rcases g1 with ⟨rfl, i1, r1, a1, b1, k1, w1, l1, _⟩ | ⟨rfl, fl⟩
  · rw [if_neg (by simp)]
    obtain ⟨c2, n2, e2, f2, g2⟩ := logw_calm i1 hl hf (by rw [r1]; exact hnew) l1
    rw [e2]
    simp only
    rcases g2 with ⟨rfl, i2, k2⟩ | ⟨rfl, hw2, i2, k2⟩ | ⟨rfl, fl⟩
    · rw [if_pos (by simp)]
      refine ⟨_, _, _, rfl, fun hfu => ⟨rfl, (f2 (f1 hfu).2).2⟩, .inl ⟨rfl, i2, ?_, a1, by omega, (k1.trans k2 (by omega) (by omega)).mono (by omega), w1⟩⟩
      rw [rows_write l i1.body.mem i1.body.tab, ← r1]; rfl
    · rw [if_neg (by simp)]
      obtain ⟨c3, s3, n3, e3, f3, g3⟩ := flush_calm i2 (by omega)
      rw [e3]
      simp only
      rcases g3 with ⟨rfl, i3, r3, a3, b3, k3, m3, w3, ⟨q, q1, q2, q3, q4⟩, _⟩ | ⟨rfl, fl⟩
      · rw [if_neg (by simp)]
        unfold logM
        have e4 : roomM c3 s3 = (c3, s3, 0) := by unfold roomM; rw [q1, Int.toNat_natCast, q2, if_pos (by simp)]
        rw [e4]
        simp only
        rw [if_neg (by simp)]
        obtain ⟨c5, n5, e5, f5, g5⟩ := logw_calm i3 hl hf (by rw [r3, r1]; exact hnew) (by rw [q1, Int.toNat_natCast, q2]; simp)
        rw [e5]
        simp only
        rcases g5 with ⟨rfl, i5, k5⟩ | ⟨rfl, hw5, i5, k5⟩ | ⟨rfl, fl⟩
        · rw [if_pos (by simp)]
          refine ⟨_, _, _, rfl, fun hfu => ⟨rfl, (f5 (f3 (f2 (f1 hfu).2).2).2).2⟩, .inl ⟨rfl, i5, ?_, by omega, by omega, (((k1.trans k2 (by omega) (by omega)).trans k3 (by omega) (by omega)).trans k5 (by omega) (by omega)).mono (by omega), fun _ => w3⟩⟩
          rw [rows_write l i3.body.mem i3.body.tab, ← r1, ← r3]; rfl
        · rw [q1, Int.toNat_natCast, q3] at hw5; cases hw5
        · rw [if_pos (by simp)]
          refine ⟨_, _, _, rfl, fun hfu => absurd rfl (f5 (f3 (f2 (f1 hfu).2).2).2).1, .inr ⟨rfl, ?_⟩⟩
          rw [r3, r1] at fl
          exact fl.mono (by omega)
      · rw [if_pos (by simp)]
        refine ⟨_, _, _, rfl, fun hfu => absurd (f3 (f2 (f1 hfu).2).2).1 (by omega), .inr ⟨rfl, ?_⟩⟩
        rw [r1] at fl
        exact (fl.or _).mono (by omega)
    · rw [if_pos (by simp)]
      refine ⟨_, _, _, rfl, fun hfu => absurd rfl (f2 (f1 hfu).2).1, .inr ⟨rfl, ?_⟩⟩
      rw [r1] at fl
      exact fl.mono (by omega)
  · rw [if_pos (by simp)]
    exact ⟨_, _, _, rfl, fun hfu => absurd (f1 hfu).1 (by omega), .inr ⟨rfl, (fl.or _).mono (by omega)⟩⟩
theorem checkM_zero {s : SM} {l : List Ent} (h : checkM s l = 0) : 0 < l.length ∧ l.length ≤ 4 ∧ bytesF l = 0 ∧ (liveE (l.foldl putE s.rows)).length ≤ 40 := by
  unfold checkM at h
  split at h
  · cases h
  · split at h
    · rename_i h1; exact absurd h h1
    · split at h
      · cases h
      · rename_i h1 h2 h3
        exact ⟨by omega, by omega, Classical.byContradiction h2, by omega⟩
/-- **Write.** -/
theorem write_store {c : Chip} {s : SM} {l : List Ent} (h : Inv c s) (hep : s.m.ep + 9 ≤ 100000) (hc : checkM s l = 0) :
    ∃ c' s' n, writeM c s l = (c', s', n) ∧ (c.fuse < 0 → n = 0 ∧ c'.fuse < 0) ∧
      ((n = 0 ∧ Inv c' s' ∧ s'.rows = liveE (l.foldl putE s.rows) ∧ s.m.ep ≤ s'.m.ep ∧ s'.m.ep ≤ s.m.ep + 9 ∧ Grew c c' 12 ∧ (s.m.nw.length ≤ 2 → s'.m.nw.length ≤ 2)) ∨
       (n = 9 ∧ Fallen (s.m.ep + 9) s.rows (liveE (l.foldl putE s.rows)) c')) := by
  obtain ⟨h1, h2, h3, h4⟩ := checkM_zero hc
  obtain ⟨c', s', n, e, f, g⟩ := log_calm h h2 h3 h4 hep
  unfold writeM
  rw [if_neg (by simp [hc]), e]
  simp only
  rcases g with ⟨rfl, g⟩ | ⟨rfl, fl⟩
  · rw [if_pos rfl]
    exact ⟨_, _, _, rfl, f, .inl ⟨rfl, g⟩⟩
  · rw [if_neg (by simp)]
    exact ⟨_, _, _, rfl, fun hfu => absurd (f hfu).1 (by omega), .inr ⟨rfl, fl⟩⟩
end Go.Proofs.YtaepdbkfaoiimabGreatDoor
/- Noting manifests on a chip, from a new one on. Plain laws; conditions: none but those that each names. -/
set_option linter.unusedVariables false
set_option linter.unusedSimpArgs false
namespace Go.Proofs.YtaepdbkfaoiimabGreatDoor
open Go.RowKit

theorem Head.found {c : Chip} {m : Man} {a : Int} (h : Head c m a) (hd : c.down = false) : findR c = (m, a, 0) := by
  unfold findR
  rw [hd, if_neg (by simp), h.find]
  have := h.at_
  rw [if_neg (by simp only; omega)]
theorem note_new {n : Man} (hf : n.fault = 0) : ∃ c1, noteR Chip.new 0 n = (c1, 0, 0) ∧ CWf c1 ∧ c1.down = false ∧ c1.fuse < 0 ∧ Head c1 n 0 := by
  obtain ⟨c2, n2, e2, s2, f2, g2⟩ := write_calm (c := Chip.new) (b := 0) (d := n.bytes) (by decide) rfl rfl rfl (mansize hf) (by simp [Chip.new])
  have w2 : CWf c2 := by have := CWf.new.write_ ((0 : Nat) : Int) n.bytes; rw [e2] at this; exact this
  obtain ⟨hn, hfu⟩ := f2 (by decide)
  subst hn
  rcases g2 with ⟨_, d2, p2, l2, x2⟩ | ⟨h, _⟩
  · refine ⟨c2, ?_, w2, d2, hfu, ?_, .inl rfl⟩
    · unfold noteR
      rw [if_neg (by simpa using hf), if_neg (by simp [Chip.new])]
      rw [show ((0 : Nat) : Int) = 0 from rfl] at e2
      rw [e2]
      simp
    · unfold findM
      rw [l2, s2.other 1 (by decide)]
      show [].foldl (fStep 1) ([⟨pad n.bytes, false⟩].foldl (fStep 0) (Man.zero, -1)) = _
      rw [List.foldl_nil, List.foldl_cons, List.foldl_nil, fStep_eq, man_sheet hf]
      have := (fault_zero.1 hf).1
      show (if (0 : Int) < n.ep then (n, (0 : Int)) else (Man.zero, -1)) = (n, 0)
      rw [if_pos (by omega)]
  · cases h
/-- A chip, maybe new, with the newest manifest. -/
structure Sit (c : Chip) (m : Man) (a : Int) : Prop where
  wf : CWf c
  up : c.down = false
  calm : c.fuse < 0
  what : (c = Chip.new ∧ m = Man.zero ∧ a = 0) ∨ Head c m a
theorem Sit.new : Sit Chip.new Man.zero 0 := ⟨CWf.new, rfl, by decide, .inl ⟨rfl, rfl, rfl⟩⟩
theorem Sit.at_ {c : Chip} {m : Man} {a : Int} (h : Sit c m a) : a = 0 ∨ a = 1 := by
  rcases h.what with ⟨_, _, h⟩ | h
  · exact .inl h
  · exact h.at_
theorem Sit.note {c : Chip} {m n : Man} {a : Int} (h : Sit c m a) (hf : n.fault = 0) (hn : m.ep < n.ep) : ∃ c' a', noteR c a n = (c', a', 0) ∧ Sit c' n a' ∧ Head c' n a' := by
  rcases h.what with ⟨rfl, rfl, rfl⟩ | hh
  · obtain ⟨c1, e, w1, d1, f1, h1⟩ := note_new hf
    exact ⟨c1, 0, e, ⟨w1, d1, f1, .inr h1⟩, h1⟩
  · obtain ⟨c', a', k, h1, h2, h3, h4, h5, h6⟩ := note_calm h.wf h.up hh hf hn
    obtain ⟨hk, hfu⟩ := h5 h.calm
    subst hk
    rcases h6 with ⟨_, h7, h8⟩ | ⟨h, _⟩
    · exact ⟨c', a', h1, ⟨h2, h7, hfu, .inr h8⟩, h8⟩
    · cases h
theorem note_fault {c : Chip} {a : Int} {n : Man} (hf : n.fault ≠ 0) : noteR c a n = (c, 0, n.fault) := if_pos hf
/-- What is found behind a restart. -/
def Back (c : Chip) (how : Int) (m n : Man) : Prop := ∃ x a, (x = m ∨ x = n) ∧ Head (c.restart how) x a
theorem back_calm {c : Chip} {m : Man} {a : Int} (how : Int) (hc : CWf c) (hd : c.down = false) (h : Head c m a) (n : Man) : Back c how m n := by
  have hp : c.pend = none := by have := hc.down; rw [hd] at this; simpa using this
  refine ⟨m, a, .inl rfl, h.same ?_ ?_⟩ <;> rw [restart_calm hp]
theorem note_next {c : Chip} {m n : Man} {a : Int} (hc : CWf c) (hd : c.down = false) (h : Head c m a) (hf : n.fault = 0) (hn : m.ep < n.ep) (how : Int) :
    ∃ c' a' k, noteR c a n = (c', a', k) ∧ CWf c' ∧ (c.fuse < 0 → k = 0 ∧ c'.fuse < 0) ∧ ((k = 0 ∧ c'.down = false ∧ Head c' n a') ∨ (k = 9 ∧ Back c' how m n)) := by
  obtain ⟨c', a', k, h1, h2, h3, h4, h5, h6⟩ := note_calm hc hd h hf hn
  refine ⟨c', a', k, h1, h2, h5, ?_⟩
  rcases h6 with h6 | ⟨h6, h7, h8⟩
  · exact .inl h6
  · refine .inr ⟨h6, ?_⟩
    rcases (h8 how).2 with h9 | ⟨a2, h9⟩
    · exact ⟨m, a, .inl rfl, h9⟩
    · exact ⟨n, a2, .inr rfl, h9⟩
theorem Sit.back {c : Chip} {m : Man} {a : Int} (how : Int) (hc : CWf (c.restart how)) (h : Head (c.restart how) m a) : Sit (c.restart how) m a := ⟨hc, rfl, show (-1 : Int) < 0 by decide, .inr h⟩
/-- A manifest that names a log alone. -/
def manL (e L : Int) : Man := ⟨e, L, [], []⟩
theorem manL_fault {e L : Int} (h1 : 1 ≤ e) (h2 : e ≤ 100000) (h3 : 2 ≤ L) (h4 : L < 24) : (manL e L).fault = 0 := by
  rw [fault_zero]
  exact ⟨h1, h2, by simp [manL, Man.all]; omega, by simp [manL, Man.all]⟩
theorem find_sheet (B p : Nat) (c : Chip) (m : Man) (a : Int) (W : World) (hW : ChipR B W p c) (hd : c.down = false) (h : Head c m a) :
    Calls Tryz.prog 47 #[.pointer (some ⟨p, 0, none⟩)] W fun e w' => ∃ A1 k1 A2 k2, e = .returned (.tuple #[.agg #[.int .i64 m.ep, .int .i64 m.log, .slice A1 m.nw.length k1, .slice A2 m.od.length k2], .int .i64 a, .nilIface]) ∧
      Ints B w' (.slice A1 m.nw.length k1) m.nw ∧ Ints B w' (.slice A2 m.od.length k2) m.od ∧ Below W.heap.size W w' := by
  have hf := find_any B p c W hW
  rw [h.found hd] at hf
  refine hf.mono ?_
  rintro e w' ⟨v, rfl, ⟨vn, vo, rfl, hn, ho⟩, hb⟩
  obtain ⟨A1, k1, rfl, _, _, _⟩ := hn.form
  obtain ⟨A2, k2, rfl, _, _, _⟩ := ho.form
  exact ⟨A1, k1, A2, k2, rfl, hn, ho, hb⟩
/-- A manifest that names a log alone is found. -/
theorem find_log (B p : Nat) (c : Chip) (e L a : Int) (W : World) (hW : ChipR B W p c) (hd : c.down = false) (h : Head c (manL e L) a) :
    Calls Tryz.prog 47 #[.pointer (some ⟨p, 0, none⟩)] W fun d w' => ∃ A1 k1 A2 k2, d = .returned (.tuple #[.agg #[.int .i64 e, .int .i64 L, .slice A1 0 k1, .slice A2 0 k2], .int .i64 a, .nilIface]) ∧
      Ints B w' (.slice A1 0 k1) [] ∧ Ints B w' (.slice A2 0 k2) [] ∧ Below W.heap.size W w' := find_sheet B p c (manL e L) a W hW hd h
theorem ints_nil {B B' : Nat} {w w' : World} {A : Option Addr} {c : Nat} (h : Ints B w (.slice A 0 c) []) : Ints B' w' (.slice A 0 c) [] := by
  obtain ⟨_, A', c', e, h2, h3, _⟩ := h
  cases e
  exact ⟨rfl, A, c, rfl, h2, h3, fun h => absurd h (by simp)⟩
section
variable {B p g o : Nat} {w : World} {c : Chip} {cs : Array Value}
theorem blk_man (hg : Blk w g 74 cs) {g' : Nat} {T : TypeId} {cs' : Array Value} (h : Blk w g' T cs') (hT : T ≠ 74) (x : Value) : Blk (w.setCell ⟨g, o, none⟩ x) g' T cs' := by
  refine h.far (p := ⟨g, o, none⟩) (fun e => ?_) x
  have e : g' = g := e
  subst e
  unfold Blk at h hg
  rw [h] at hg
  injection hg with hg
  injection hg with _ e
  exact hT e
theorem UndoR.man {u : Value} (hg : Blk w g 74 cs) (x : Value) : ∀ {d : Option Pend}, UndoR w p c u d → UndoR (w.setCell ⟨g, o, none⟩ x) p c u d
  | none, h => h
  | some (.wr b d), ⟨qh, qd, bx, bn, bd, e, h2, h3, h4, h5, h6⟩ => ⟨qh, qd, bx, bn, bd, e, blk_man hg h2 (by decide) x, blk_man hg h3 (by decide) x, blk_man hg h4 (by decide) x, blk_man hg h5 (by decide) x, blk_man hg h6 (by decide) x⟩
  | some (.er b), ⟨qh, qd, bx, e, h2, h3, h4⟩ => ⟨qh, qd, bx, e, blk_man hg h2 (by decide) x, blk_man hg h3 (by decide) x, blk_man hg h4 (by decide) x⟩
/-- Stores into the block of a manifest leave the chip. -/
theorem ChipR.man (h : ChipR B w p c) (hg : Blk w g 74 cs) (hB : B ≤ g) (x : Value) : ChipR B (w.setCell ⟨g, o, none⟩ x) p c := by
  obtain ⟨V, u, hv, hu, hwf⟩ := h
  exact ⟨V, u, ⟨blk_man hg hv.blk (by decide) x, fun b hb => (hv.rows b hb).far hg hB (by decide) x, hv.base⟩, UndoR.man hg x hu, hwf⟩
theorem ChipR.man4 {a0 a1 a2 a3 : Value} (h : ChipR B w p c) (hg : Blk w g 74 #[a0, a1, a2, a3]) (hB : B ≤ g) (b0 b1 b2 b3 : Value) :
    ChipR B ((((w.setCell ⟨g, 0, none⟩ b0).setCell ⟨g, 1, none⟩ b1).setCell ⟨g, 2, none⟩ b2).setCell ⟨g, 3, none⟩ b3) p c :=
  (((h.man hg hB b0).man (hg.set_ 0 b0) hB b1).man ((hg.set_ 0 b0).set_ 1 b1) hB b2).man (((hg.set_ 0 b0).set_ 1 b1).set_ 2 b2) hB b3
theorem ints_man4 {v : Value} {l : List Int} {a0 a1 a2 a3 : Value} (h : Ints B w v l) (hb : Blk w g 74 #[a0, a1, a2, a3]) (hB : B ≤ g) (b0 b1 b2 b3 : Value) :
    Ints B ((((w.setCell ⟨g, 0, none⟩ b0).setCell ⟨g, 1, none⟩ b1).setCell ⟨g, 2, none⟩ b2).setCell ⟨g, 3, none⟩ b3) v l :=
  Rd.far' (Rd.far' (Rd.far' (Rd.far' h hb hB (by decide) _) (hb.set_ 0 _) hB (by decide) _) ((hb.set_ 0 _).set_ 1 _) hB (by decide) _) (((hb.set_ 0 _).set_ 1 _).set_ 2 _) hB (by decide) _
end
end Go.Proofs.YtaepdbkfaoiimabGreatDoor
