/- Plain: the newest manifest of the two first blocks, and what noting one leaves, behind a fall, too. Conditions: none but those that each names. -/
import Derived.Test.YtaepdbkfaoiimaaFind
import Derived.Test.YtaepdbkfaoiimaaManSame
import Derived.Test.YtaepdbkfaoiimaaTabP
set_option linter.unusedVariables false
set_option linter.unusedSimpArgs false
namespace Go.Proofs.Ytaepdbkfaoiimaa
open Go.RowKit

/-- The manifest of a sheet. -/
def manS (s : Sheet) : Option Man := if s.t then none else manOf s.d
theorem fStep_eq (b : Int) (st : Man × Int) (s : Sheet) : fStep b st s = match manS s with | none => st | some m => if st.1.ep < m.ep then (m, b) else st := by
  unfold fStep manS
  cases s.t <;> rfl
theorem scan_le (b : Int) : ∀ (l : List Sheet) (st : Man × Int), st.1.ep ≤ (l.foldl (fStep b) st).1.ep ∧ ∀ s ∈ l, ∀ m, manS s = some m → m.ep ≤ (l.foldl (fStep b) st).1.ep
  | [], st => ⟨Int.le_refl _, fun s hs => by cases hs⟩
  | s :: l, st => by
    obtain ⟨h1, h2⟩ := scan_le b l (fStep b st s)
    have h3 : st.1.ep ≤ (fStep b st s).1.ep ∧ ∀ m, manS s = some m → m.ep ≤ (fStep b st s).1.ep := by
      rw [fStep_eq]
      cases hm : manS s with
      | none => exact ⟨Int.le_refl _, fun m h => by cases h⟩
      | some m =>
        have h : st.1.ep ≤ (if st.1.ep < m.ep then (m, b) else st).1.ep ∧ m.ep ≤ (if st.1.ep < m.ep then (m, b) else st).1.ep := by
          split
          · rename_i h; exact ⟨by show st.1.ep ≤ m.ep; omega, Int.le_refl _⟩
          · rename_i h; exact ⟨Int.le_refl _, by omega⟩
        exact ⟨h.1, fun x hx => by cases hx; exact h.2⟩
    refine ⟨Int.le_trans h3.1 h1, fun x hx m hm => ?_⟩
    rcases List.mem_cons.1 hx with rfl | hx
    · exact Int.le_trans (h3.2 m hm) h1
    · exact h2 x hx m hm
theorem scan_stay (b : Int) : ∀ (l : List Sheet) (st : Man × Int), (∀ s ∈ l, ∀ m, manS s = some m → m.ep ≤ st.1.ep) → l.foldl (fStep b) st = st
  | [], st, _ => rfl
  | s :: l, st, h => by
    have h1 : fStep b st s = st := by
      rw [fStep_eq]
      cases hm : manS s with
      | none => rfl
      | some m =>
        have := h s (by simp) m hm
        show (if st.1.ep < m.ep then (m, b) else st) = st
        rw [if_neg (by omega)]
    rw [List.foldl_cons, h1]
    exact scan_stay b l st fun x hx => h x (by simp [hx])
theorem scan_tag (b : Int) : ∀ (l : List Sheet) (st : Man × Int), l.foldl (fStep b) st = st ∨ (l.foldl (fStep b) st).2 = b
  | [], st => .inl rfl
  | s :: l, st => by
    rw [List.foldl_cons]
    rcases scan_tag b l (fStep b st s) with h | h
    · rw [h, fStep_eq]
      cases hm : manS s with
      | none => exact .inl rfl
      | some m =>
        show (if st.1.ep < m.ep then (m, b) else st) = st ∨ (if st.1.ep < m.ep then (m, b) else st).2 = b
        split
        · exact .inr rfl
        · exact .inl rfl
    · exact .inr h
/-- Where the scan has moved, a lower start moves to the same. -/
theorem scan_low (b : Int) : ∀ (l : List Sheet) (st st0 : Man × Int), st.2 ≠ b → (l.foldl (fStep b) st).2 = b → st0.1.ep ≤ st.1.ep → l.foldl (fStep b) st0 = l.foldl (fStep b) st
  | [], st, st0, h1, h2, _ => absurd h2 h1
  | s :: l, st, st0, h1, h2, h3 => by
    rw [List.foldl_cons] at h2
    rw [List.foldl_cons, List.foldl_cons]
    rw [fStep_eq] at h2
    rw [fStep_eq, fStep_eq]
    cases hm : manS s with
    | none => rw [hm] at h2; exact scan_low b l st st0 h1 h2 h3
    | some m =>
      rw [hm] at h2
      simp only at h2 ⊢
      by_cases hlt : st.1.ep < m.ep
      · rw [if_pos hlt, if_pos (by omega)]
      · rw [if_neg hlt] at h2 ⊢
        by_cases hlt0 : st0.1.ep < m.ep
        · rw [if_pos hlt0]
          exact scan_low b l st (m, b) h1 h2 (by show m.ep ≤ st.1.ep; omega)
        · rw [if_neg hlt0]
          exact scan_low b l st st0 h1 h2 h3

/-- The newest manifest of a chip, and in which of the two first blocks. -/
structure Head (c : Chip) (m : Man) (a : Int) : Prop where
  find : findM c = (m, a)
  at_ : a = 0 ∨ a = 1
theorem Head.le {c : Chip} {m : Man} {a : Int} (h : Head c m a) : (∀ s ∈ (c.b 0).l, ∀ x, manS s = some x → x.ep ≤ m.ep) ∧ ∀ s ∈ (c.b 1).l, ∀ x, manS s = some x → x.ep ≤ m.ep := by
  have h1 := scan_le 0 (c.b 0).l (Man.zero, -1)
  have h2 := scan_le 1 (c.b 1).l ((c.b 0).l.foldl (fStep 0) (Man.zero, -1))
  have e : (c.b 1).l.foldl (fStep 1) ((c.b 0).l.foldl (fStep 0) (Man.zero, -1)) = (m, a) := h.find
  rw [e] at h2
  exact ⟨fun s hs x hx => Int.le_trans (h1.2 s hs x hx) h2.1, h2.2⟩
theorem Head.same {c c' : Chip} {m : Man} {a : Int} (h : Head c m a) (h0 : (c'.b 0).l = (c.b 0).l) (h1 : (c'.b 1).l = (c.b 1).l) : Head c' m a :=
  ⟨by have := h.find; unfold findM at this ⊢; rw [h0, h1]; exact this, h.at_⟩
theorem Head.ep {c : Chip} {m : Man} {a : Int} (h : Head c m a) : 0 ≤ m.ep := by
  have h1 := scan_le 0 (c.b 0).l (Man.zero, -1)
  have h2 := scan_le 1 (c.b 1).l ((c.b 0).l.foldl (fStep 0) (Man.zero, -1))
  have e : (c.b 1).l.foldl (fStep 1) ((c.b 0).l.foldl (fStep 0) (Man.zero, -1)) = (m, a) := h.find
  rw [e] at h2
  exact Int.le_trans h1.1 h2.1
/-- A page without a manifest is laid behind those of the block. -/
theorem Head.idle {c c' : Chip} {m : Man} {a : Int} (h : Head c m a) {x : Sheet} (hx : manS x = none) (h1 : (c'.b a.toNat).l = (c.b a.toNat).l ++ [x]) (h2 : (c'.b (1 - a).toNat).l = (c.b (1 - a).toNat).l) : Head c' m a := by
  have e := h.find
  refine ⟨?_, h.at_⟩
  unfold findM at e ⊢
  rcases h.at_ with rfl | rfl
  · have h1 : (c'.b 0).l = (c.b 0).l ++ [x] := h1
    have h2 : (c'.b 1).l = (c.b 1).l := h2
    rw [h1, h2, List.foldl_append, List.foldl_cons, List.foldl_nil, fStep_eq, hx]
    exact e
  · have h1 : (c'.b 1).l = (c.b 1).l ++ [x] := h1
    have h2 : (c'.b 0).l = (c.b 0).l := h2
    rw [h1, h2, List.foldl_append, List.foldl_cons, List.foldl_nil, fStep_eq, hx]
    exact e
/-- A newer manifest is laid behind those of the block. -/
theorem Head.next {c c' : Chip} {m n : Man} {a : Int} (h : Head c m a) {x : Sheet} (hx : manS x = some n) (hn : m.ep < n.ep) (h1 : (c'.b a.toNat).l = (c.b a.toNat).l ++ [x]) (h2 : (c'.b (1 - a).toNat).l = (c.b (1 - a).toNat).l) : Head c' n a := by
  have e := h.find
  have hle := h.le
  refine ⟨?_, h.at_⟩
  unfold findM at e ⊢
  rcases h.at_ with rfl | rfl
  · have h1 : (c'.b 0).l = (c.b 0).l ++ [x] := h1
    have h2 : (c'.b 1).l = (c.b 1).l := h2
    have h3 := scan_le 1 (c.b 1).l ((c.b 0).l.foldl (fStep 0) (Man.zero, -1))
    rw [e] at h3
    rw [h1, h2, List.foldl_append, List.foldl_cons, List.foldl_nil, fStep_eq, hx]
    show (c.b 1).l.foldl (fStep 1) (if _ < n.ep then (n, 0) else _) = _
    rw [if_pos (Int.lt_of_le_of_lt h3.1 hn)]
    exact scan_stay 1 _ _ fun s hs y hy => by have := hle.2 s hs y hy; show y.ep ≤ n.ep; omega
  · have h1 : (c'.b 1).l = (c.b 1).l ++ [x] := h1
    have h2 : (c'.b 0).l = (c.b 0).l := h2
    rw [h1, h2, List.foldl_append, List.foldl_cons, List.foldl_nil, fStep_eq, hx, e]
    show (if m.ep < n.ep then (n, (1 : Int)) else (m, 1)) = _
    rw [if_pos hn]
/-- The other block has pages without manifests alone. -/
theorem Head.other {c c' : Chip} {m : Man} {a : Int} (h : Head c m a) (h1 : (c'.b a.toNat).l = (c.b a.toNat).l) (h2 : ∀ s ∈ (c'.b (1 - a).toNat).l, manS s = none) : Head c' m a := by
  have e := h.find
  have hle := h.le
  refine ⟨?_, h.at_⟩
  unfold findM at e ⊢
  rcases h.at_ with rfl | rfl
  · have h1 : (c'.b 0).l = (c.b 0).l := h1
    have h2 : ∀ s ∈ (c'.b 1).l, manS s = none := h2
    rw [h1, scan_stay 1 _ _ (fun s hs y hy => by rw [h2 s hs] at hy; cases hy)]
    rcases scan_tag 1 (c.b 1).l ((c.b 0).l.foldl (fStep 0) (Man.zero, -1)) with h3 | h3
    · rw [← h3]; exact e
    · rw [e] at h3; cases h3
  · have h1 : (c'.b 1).l = (c.b 1).l := h1
    have h2 : ∀ s ∈ (c'.b 0).l, manS s = none := h2
    rw [h1, scan_stay 0 _ _ (fun s hs y hy => by rw [h2 s hs] at hy; cases hy)]
    have h3 := scan_low 1 (c.b 1).l ((c.b 0).l.foldl (fStep 0) (Man.zero, -1)) (Man.zero, -1) ?_ (by rw [e]) ?_
    · rw [h3]; exact e
    · rcases scan_tag 0 (c.b 0).l (Man.zero, -1) with h4 | h4
      · rw [h4]; decide
      · rw [h4]; decide
    · exact (scan_le 0 (c.b 0).l (Man.zero, -1)).1
/-- The other block has a newer manifest alone. -/
theorem Head.turn {c c' : Chip} {m n : Man} {a : Int} (h : Head c m a) {x : Sheet} (hx : manS x = some n) (hn : m.ep < n.ep) (h1 : (c'.b a.toNat).l = (c.b a.toNat).l) (h2 : (c'.b (1 - a).toNat).l = [x]) : Head c' n (1 - a) := by
  have e := h.find
  have hle := h.le
  have hep := h.ep
  refine ⟨?_, by have := h.at_; omega⟩
  unfold findM at e ⊢
  rcases h.at_ with rfl | rfl
  · have h1 : (c'.b 0).l = (c.b 0).l := h1
    have h2 : (c'.b 1).l = [x] := h2
    rw [h1, h2, List.foldl_cons, List.foldl_nil, fStep_eq, hx]
    have h3 := scan_le 1 (c.b 1).l ((c.b 0).l.foldl (fStep 0) (Man.zero, -1))
    rw [e] at h3
    show (if _ < n.ep then (n, (1 : Int)) else _) = _
    rw [if_pos (Int.lt_of_le_of_lt h3.1 hn)]
    rfl
  · have h1 : (c'.b 1).l = (c.b 1).l := h1
    have h2 : (c'.b 0).l = [x] := h2
    rw [h1, h2, List.foldl_cons, List.foldl_nil, fStep_eq, hx]
    show (c.b 1).l.foldl (fStep 1) (if (0 : Int) < n.ep then (n, 0) else _) = _
    rw [if_pos (by omega)]
    exact scan_stay 1 _ _ fun s hs y hy => by have := hle.2 s hs y hy; show y.ep ≤ n.ep; omega

theorem man_sheet {m : Man} (hf : m.fault = 0) : manS ⟨pad m.bytes, false⟩ = some m := man_bytes hf (k := 64 - m.bytes.size) pad_data
theorem torn_sheet : manS torn = none := rfl
theorem mansize {m : Man} (hf : m.fault = 0) : m.bytes.size ≤ 64 := by
  have hal := all_len hf
  unfold Man.bytes
  rw [strOfNums_size]
  simp [Man.all] at hal ⊢
  omega
theorem undone_cases {c : Chip} {p : Pend} (h : c.pend = some p) (how : Int) : c.undone how = c ∨ c.undone how = halfP c p ∨ c.undone how = doP c p := by
  unfold Chip.undone
  rw [h]
  simp only
  split
  · exact .inr (.inl rfl)
  · split
    · exact .inr (.inr rfl)
    · exact .inl rfl
/-- Behind a fall of the machine the blocks but the one of the step are as they were. -/
theorem restart_far {c : Chip} {p : Pend} (h : c.pend = some p) (how : Int) {i : Nat} (hi : i ≠ p.blk) : (c.restart how).b i = c.b i := by
  show (c.undone how).b i = c.b i
  rcases undone_cases h how with e | e | e <;> rw [e]
  · exact halfP_far c p hi
  · exact doP_far c p hi
theorem restart_b (c : Chip) (how : Int) : (c.restart how).b = (c.undone how).b := rfl
theorem restart_flags (c : Chip) (how : Int) (i : Nat) : ((c.restart how).b i).weak = (c.b i).weak ∧ ((c.restart how).b i).bad = (c.b i).bad := by
  show ((c.undone how).b i).weak = _ ∧ ((c.undone how).b i).bad = _
  unfold Chip.undone
  split
  · exact ⟨rfl, rfl⟩
  · split
    · exact halfP_flags c _ i
    · split
      · exact doP_flags c _ i
      · exact ⟨rfl, rfl⟩
theorem restart_calm {c : Chip} (h : c.pend = none) (how : Int) : (c.restart how).b = c.b := by
  show (c.undone how).b = c.b
  unfold Chip.undone
  rw [h]
/-- What noting a manifest leaves. -/
theorem note_calm {c : Chip} {m n : Man} {a : Int} (hc : CWf c) (hd : c.down = false) (h : Head c m a) (hf : n.fault = 0) (hn : m.ep < n.ep) :
    ∃ c' a' k, noteR c a n = (c', a', k) ∧ CWf c' ∧ (∀ i, 2 ≤ i → c'.b i = c.b i) ∧ (∀ i, (c'.b i).weak = (c.b i).weak ∧ (c'.b i).bad = (c.b i).bad) ∧ (c.fuse < 0 → k = 0 ∧ c'.fuse < 0) ∧
      ((k = 0 ∧ c'.down = false ∧ Head c' n a') ∨ (k = 9 ∧ c'.down = true ∧ ∀ how, (∀ i, 2 ≤ i → (c'.restart how).b i = c.b i) ∧ (Head (c'.restart how) m a ∨ ∃ a2, Head (c'.restart how) n a2))) := by
  have hflag : ∀ i, i < 2 → (c.b i).weak = false ∧ (c.b i).bad = false := fun i hi => by
    have h1 : (c.b i).weak = false := by
      cases e : (c.b i).weak
      · rfl
      · have := hc.weak i e; omega
    refine ⟨h1, ?_⟩
    cases e : (c.b i).bad
    · rfl
    · have := hc.bad i e; rw [h1] at this; cases this
  have hsz := mansize hf
  have hsh := man_sheet hf
  obtain ⟨q, rfl⟩ : ∃ q : Nat, a = q := ⟨a.toNat, by have := h.at_; omega⟩
  have hq : q < 2 := by have := h.at_; omega
  have hat : ((q : Nat) : Int).toNat = q := Int.toNat_natCast q
  have ho : ((1 : Int) - q).toNat = 1 - q := by omega
  have hoi : ((1 - q : Nat) : Int) = 1 - (q : Int) := by omega
  unfold noteR
  rw [if_neg (by simpa using hf), hat]
  have hlen := hc.len q (by omega)
  by_cases h8 : (c.b q).l.length = 8
  · rw [if_pos h8, ← hoi]
    obtain ⟨c1, n1, e1, s1, f1, g1⟩ := erase_calm (c := c) (b := 1 - q) (by omega) hd (hflag _ (by omega)).2 (hflag _ (by omega)).1
    have w1 : CWf c1 := by have := hc.erase_ ((1 - q : Nat) : Int); rw [e1] at this; exact this
    rw [e1]
    simp only
    rcases g1 with ⟨rfl, d1, p1, l1, x1⟩ | ⟨rfl, d1, p1, b1⟩
    · rw [if_neg (by simp)]
      obtain ⟨c2, n2, e2, s2, f2, g2⟩ := write_calm (c := c1) (b := 1 - q) (d := n.bytes) (by omega) d1 (s1.bad.trans (hflag _ (by omega)).2) (s1.weak.trans (hflag _ (by omega)).1) hsz (by rw [l1]; simp)
      have w2 : CWf c2 := by have := w1.write_ ((1 - q : Nat) : Int) n.bytes; rw [e2] at this; exact this
      rw [e2]
      simp only
      have hb2 : ∀ i, i ≠ 1 - q → c2.b i = c.b i := fun i hi => (s2.other i hi).trans (s1.other i hi)
      have hfl : ∀ i, (c2.b i).weak = (c.b i).weak ∧ (c2.b i).bad = (c.b i).bad := fun i => by
        by_cases hi : i = 1 - q
        · subst hi; exact ⟨s2.weak.trans s1.weak, s2.bad.trans s1.bad⟩
        · rw [hb2 i hi]; exact ⟨rfl, rfl⟩
      rcases g2 with ⟨rfl, d2, p2, l2, x2⟩ | ⟨rfl, d2, p2, b2⟩
      · rw [if_neg (by simp)]
        refine ⟨_, _, _, rfl, w2, fun i hi => hb2 i (by omega), hfl, fun hfu => f2 (f1 hfu).2, .inl ⟨rfl, d2, ?_⟩⟩
        rw [hoi]
        refine h.turn (x := ⟨pad n.bytes, false⟩) hsh hn ?_ ?_
        · rw [hat, hb2 q (by omega)]
        · rw [ho, l2, l1]; rfl
      · rw [if_pos (by simp)]
        refine ⟨_, _, _, rfl, w2, fun i hi => hb2 i (by omega), hfl, fun hfu => absurd (f2 (f1 hfu).2).1 (by omega), .inr ⟨rfl, d2, fun how => ⟨fun i hi => ?_, ?_⟩⟩⟩
        · rw [restart_far p2 how (show i ≠ 1 - q by omega)]; exact hb2 i (by omega)
        · have hq2 : (c2.restart how).b q = c.b q := by rw [restart_far p2 how (show q ≠ 1 - q by omega)]; exact hb2 q (by omega)
          have hl2 : (c2.b (1 - q)).l = [] := by rw [b2]; exact l1
          rcases undone_cases p2 how with e | e | e
          · refine .inl (h.other (by rw [hat, hq2]) ?_)
            rw [ho, restart_b, e, hl2]; simp
          · refine .inl (h.other (by rw [hat, hq2]) ?_)
            rw [ho, restart_b, e]
            simp only [halfP, Chip.set_same, hl2, List.nil_append]
            intro s hs
            simp at hs; subst hs; exact torn_sheet
          · refine .inr ⟨1 - (q : Int), h.turn (x := ⟨pad n.bytes, false⟩) hsh hn (by rw [hat, hq2]) ?_⟩
            rw [ho, restart_b, e]
            simp only [doP, Chip.set_same, hl2, List.nil_append]
    · rw [if_pos (by simp)]
      have hfl : ∀ i, (c1.b i).weak = (c.b i).weak ∧ (c1.b i).bad = (c.b i).bad := fun i => by rw [b1]; exact ⟨rfl, rfl⟩
      refine ⟨_, _, _, rfl, w1, fun i hi => by rw [b1], hfl, fun hfu => absurd (f1 hfu).1 (by omega), .inr ⟨rfl, d1, fun how => ⟨fun i hi => ?_, ?_⟩⟩⟩
      · rw [restart_far p1 how (show i ≠ 1 - q by omega), b1]
      · have hq2 : (c1.restart how).b q = c.b q := by rw [restart_far p1 how (show q ≠ 1 - q by omega), b1]
        rcases undone_cases p1 how with e | e | e
        · refine .inl (h.same ?_ ?_) <;> rw [restart_b, e, b1]
        · refine .inl (h.other (by rw [hat, hq2]) ?_)
          rw [ho, restart_b, e]
          simp only [halfP, Chip.set_same]
          intro s hs
          have := List.eq_of_mem_replicate hs; subst this; exact torn_sheet
        · refine .inl (h.other (by rw [hat, hq2]) ?_)
          rw [ho, restart_b, e]
          simp [doP, Chip.set_same]
  · rw [if_neg h8]
    obtain ⟨c2, n2, e2, s2, f2, g2⟩ := write_calm (c := c) (b := q) (d := n.bytes) (by omega) hd (hflag _ hq).2 (hflag _ hq).1 hsz (by omega)
    have w2 : CWf c2 := by have := hc.write_ (q : Int) n.bytes; rw [e2] at this; exact this
    rw [e2]
    simp only
    have hfl : ∀ i, (c2.b i).weak = (c.b i).weak ∧ (c2.b i).bad = (c.b i).bad := fun i => by
      by_cases hi : i = q
      · subst hi; exact ⟨s2.weak, s2.bad⟩
      · rw [s2.other i hi]; exact ⟨rfl, rfl⟩
    rcases g2 with ⟨rfl, d2, p2, l2, x2⟩ | ⟨rfl, d2, p2, b2⟩
    · rw [if_neg (by simp)]
      refine ⟨_, _, _, rfl, w2, fun i hi => s2.other i (by omega), hfl, fun hfu => f2 hfu, .inl ⟨rfl, d2, ?_⟩⟩
      refine h.next (x := ⟨pad n.bytes, false⟩) hsh hn ?_ ?_
      · rw [hat, l2]
      · rw [ho, s2.other _ (by omega)]
    · rw [if_pos (by simp)]
      refine ⟨_, _, _, rfl, w2, fun i hi => s2.other i (by omega), hfl, fun hfu => absurd (f2 hfu).1 (by omega), .inr ⟨rfl, d2, fun how => ⟨fun i hi => ?_, ?_⟩⟩⟩
      · rw [restart_far p2 how (show i ≠ q by omega), b2]
      · have ho2 : (c2.restart how).b (1 - q) = c.b (1 - q) := by rw [restart_far p2 how (show 1 - q ≠ q by omega), b2]
        rcases undone_cases p2 how with e | e | e
        · refine .inl (h.same ?_ ?_) <;> rw [restart_b, e, b2]
        · refine .inl (h.idle torn_sheet ?_ (by rw [ho, ho2]))
          rw [hat, restart_b, e]
          simp only [halfP, Chip.set_same, b2]
        · refine .inr ⟨q, h.next (x := ⟨pad n.bytes, false⟩) hsh hn ?_ (by rw [ho, ho2])⟩
          rw [hat, restart_b, e]
          simp only [doP, Chip.set_same, b2]
end Go.Proofs.Ytaepdbkfaoiimaa
