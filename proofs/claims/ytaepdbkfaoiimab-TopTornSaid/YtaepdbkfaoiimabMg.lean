/- Several texts of this proof, one behind the other: walks and plain laws that the statements rest on. Conditions: none but those that each lemma names. -/
import Derived.Test.YtaepdbkfaoiimabMf
/- What the statements about a filled store share. Conditions: none but those that each names. -/
set_option linter.unusedVariables false
set_option linter.unusedSimpArgs false
namespace Go.Proofs.Ytaepdbkfaoiimab
open Go.RowKit
theorem fil_no {l : List Act} (hg : filG l = false) {W : World} {n : Nat} {args : Array Value} (h : Calls Try.prog n args W (FilP W l)) : Calls Try.prog n args W fun e w' => e = .returned (.tuple #[.pointer none, .pointer none, .bool false]) ∧ W = w' :=
  h.mono fun e w' hp => by
    rcases hp with ⟨_, h⟩ | ⟨h, _⟩
    · exact h
    · rw [hg] at h; cases h
theorem fil_yes {l : List Act} (hg : filG l = true) {W : World} {n : Nat} {args : Array Value} (h : Calls Try.prog n args W (FilP W l)) : Calls Try.prog n args W fun e w' => ∃ p q, e = .returned (.tuple #[.pointer (some ⟨p, 0, none⟩), .pointer (some ⟨q, 0, none⟩), .bool true]) ∧ FilS W l p q w' :=
  h.mono fun e w' hp => by
    rcases hp with ⟨h, _⟩ | ⟨_, h⟩
    · rw [hg] at h; cases h
    · exact h
theorem filG_len {l : List Act} (h : filG l = true) : l.length ≤ 80 := by
  unfold filG lightA at h
  simp at h
  omega
theorem rows_alive (s : SM) : ∀ e ∈ s.rows, e.g = false := by
  intro e he
  have := (List.mem_filter.1 (show e ∈ (mergeAll (s.mem :: s.tabs)).filter (fun e => !e.g) from he)).2
  simpa using this
theorem getE_alive {l : List Ent} (h : ∀ e ∈ l, e.g = false) (key : ByteArray) : (getE l key).filter (fun e => !e.g) = getE l key := by
  cases hg : getE l key with
  | none => rfl
  | some e => simp [h e (getE_mem hg).1]
theorem get_rowsW {r l : List Ent} (hr : Rises r) (ha : ∀ e ∈ r, e.g = false) (h0 : checkR r l = 0) (key : ByteArray) : getE (rowsW r l) key = ((lastE l key).or (getE r key)).filter (fun e => !e.g) := by
  rw [rowsW, if_pos h0, get_live (rises_puts l hr), get_puts l hr]
theorem get_others {r l : List Ent} (hr : Rises r) (ha : ∀ e ∈ r, e.g = false) {key : ByteArray} (hk : ∀ e ∈ l, e.k ≠ key) : getE (rowsW r l) key = getE r key := by
  by_cases h0 : checkR r l = 0
  · rw [get_rowsW hr ha h0]
    have : lastE l key = none := by
      unfold lastE getE
      rw [List.find?_eq_none]
      intro e he
      have := hk e (List.mem_reverse.1 he)
      simpa using this
    rw [this, Option.none_or, getE_alive ha]
  · rw [rowsW, if_neg h0]
theorem ents_up {B B' : Nat} {w : World} {v : Value} {l : List Ent} (h : Ents B w v l) (hB : B ≤ B') : Ents B' w v l := ⟨Rd.mono h.1 hB, h.2⟩
theorem acts_below {B : Nat} {w w' : World} {v : Value} {l : List Act} (h : ActsR B w v l) (hb : Below w.heap.size w w') : ActsR B w' v l := ⟨h.1.keep fun k hk hlt => hb.block k hlt, fun x hx => ⟨(h.2 x hx).1.below hb, (h.2 x hx).2⟩⟩
section
variable {B q p k j : Nat} {c : Chip} {s : SM} {F : List Nat} {w : World}
theorem get_st (h : StS B w q p k j c s F) (key : ByteArray) (hk : key.size ≤ 9223372036854775807) : Calls Try.prog 83 #[.pointer (some ⟨q, 0, none⟩), .string key] w fun e w' =>
    e = .returned (.tuple #[.string ((getE s.rows key).getD Ent.zero).v, .bool (getE s.rows key).isSome, .nilIface]) ∧ StS B w' q p k j c s F ∧ Below w.heap.size w w' := by
  have := sget_any B q p c s F key w h.st h.ch h.ok.inv hk
  rw [told_rows h.ok.inv] at this
  exact this.mono fun e w' ⟨h1, h2⟩ => ⟨h1, h.below h2, h2⟩
theorem rows_st (h : StS B w q p k j c s F) : Calls Try.prog 56 #[.pointer (some ⟨q, 0, none⟩)] w fun e w' => ∃ v, e = .returned v ∧ Ents B w' v s.rows ∧ StS B w' q p k j c s F ∧ Below w.heap.size w w' :=
  (rows_any B q p k j c s F w h).mono fun e w' ⟨v, h1, h2, h3⟩ => ⟨v, h1, h2, h.below h3, h3⟩
theorem write_st (h : StS B w q p k j c s F) (hk : k ≤ 1000) {v : Value} {l : List Ent} (hl : Ents B w v l) : Calls Try.prog 55 #[.pointer (some ⟨q, 0, none⟩), v] w (DoP B q p (k + 1) j F w (rowsW s.rows l) (checkR s.rows l)) := by
  obtain ⟨c1, s1, e1, g1, r1⟩ := write_good h.ok hk l
  have hw := write_any B q p c s F v l w h.st h.ch h.ok.inv hl (by have := h.ok.ep; omega)
  rw [e1] at hw
  refine hw.mono ?_
  intro e w' hp
  obtain ⟨F', hs, hF, hf⟩ := StS.post (k := k) (j := j) (c := c) (s := s) hp g1
  exact ⟨c1, s1, F', hp.1, hs, r1, hF, hf⟩
theorem DoP.st {k' j' n : Nat} {r : List Ent} {w0 w' : World} {e : Ending} (hb : Below B w0 w) (hB : B ≤ w0.heap.size) (h : DoP B q p k' j' F w r n e w') : ∃ c' s' F', e = .returned (errV n) ∧ StS B w' q p k' j' c' s' F' ∧ s'.rows = r ∧ Below B w0 w' := by
  obtain ⟨c', s', F', h1, h2, h3, h4, h5⟩ := h
  exact ⟨c', s', F', h1, h2, h3, FrQ.below hb hB h5⟩
theorem StS.rise (h : StS B w q p k j c s F) : Rises s.rows := rows_rise h.ok.inv
end
end Go.Proofs.Ytaepdbkfaoiimab
/- The contracts of Flush, Compact, Open and Manifest of a store that has done so many acts. Conditions: none but those that each names. -/
set_option linter.unusedVariables false
set_option linter.unusedSimpArgs false
namespace Go.Proofs.Ytaepdbkfaoiimab
open Go.RowKit
abbrev eKX : Ent := ⟨⟨#[107]⟩, ⟨#[120]⟩, false⟩
theorem kx_check : checkR [] [eKX] = 0 := by decide +kernel
theorem kx_rows : rowsW [] [eKX] = [eKX] := by decide +kernel
theorem kx_ents (B : Nat) (w : World) : Ents B (w.alloc (.cells #[.string ⟨#[107]⟩, .string ⟨#[120]⟩, .bool false] 25)) (.slice (some ⟨w.heap.size, 0, none⟩) 1 1) [eKX] :=
  ⟨rd_lit3 _ w _ rfl ⟨#[107]⟩ ⟨#[120]⟩ false, by intro e he; simp at he; subst he; exact ⟨by decide, by decide⟩⟩
section
variable {B q p k j : Nat} {c : Chip} {s : SM} {F : List Nat} {w : World}
theorem StS.drawN (h : StS B w q p k j c s F) (n : Nat) : StS B (w.drewN n) q p k j c s F := ⟨h.st.drewN n, h.ch.drewN n, h.ok⟩
theorem StS.mono {k' j' : Nat} (h : StS B w q p k j c s F) (hk : k ≤ k') (hj : j ≤ j') : StS B w q p k' j' c s F := ⟨h.st, h.ch, h.ok.mono hk hj⟩
theorem flush_st (h : StS B w q p k j c s F) (hk : k ≤ 1000) : Calls Try.prog 81 #[.pointer (some ⟨q, 0, none⟩)] w fun e w' => ∃ c' s' F', e = .returned .nilIface ∧ StS B w' q p (k + 1) j c' s' F' ∧ s'.rows = s.rows ∧ (∀ b ∈ F', b ∈ F ∨ w.heap.size ≤ b) ∧ Fr B (· ∈ q :: p :: F) w w' ∧
    s'.mem = [] ∧ (∃ g : Nat, s'.m.log = g ∧ (c'.b g).l = [] ∧ (c.b g).bad = false) ∧ (∀ b ∈ s'.m.nw, b ∈ s.m.nw ∨ (c.b b.toNat).bad = false) := by
  obtain ⟨c1, s1, e1, g1, r1, m1, ⟨g, q1, q2, q3, q4⟩, v1⟩ := flush_good h.ok hk
  have hw := flush_any B q p c s F w h.st h.ch h.ok.inv (by have := h.ok.ep; omega)
  rw [e1] at hw
  refine hw.mono ?_
  intro e w' hp
  obtain ⟨F', hs, hF, hf⟩ := StS.post (k := k) (j := j) (c := c) (s := s) hp g1
  exact ⟨c1, s1, F', hp.1, hs, r1, hF, hf, m1, ⟨g, q1, q2, q4⟩, v1⟩
theorem comp_st (h : StS B w q p k j c s F) (hk : k ≤ 1000) : Calls Try.prog 85 #[.pointer (some ⟨q, 0, none⟩)] w fun e w' => ∃ c' s' F', e = .returned .nilIface ∧ StS B w' q p (k + 1) j c' s' F' ∧ s'.rows = s.rows ∧ (∀ b ∈ F', b ∈ F ∨ w.heap.size ≤ b) ∧ Fr B (· ∈ q :: p :: F) w w' ∧
    s'.mem = s.mem ∧ s'.m.nw = [] ∧ s'.tabs = parts 14 (liveE (mergeAll s.tabs)) := by
  obtain ⟨c1, s1, e1, g1, r1, m1, n1, l1, t1⟩ := comp_good h.ok hk
  have hw := compact_any B q p c s F w h.st h.ch h.ok.inv
  rw [e1] at hw
  refine hw.mono ?_
  intro e w' hp
  obtain ⟨F', hs, hF, hf⟩ := StS.post (k := k) (j := j) (c := c) (s := s) hp g1
  exact ⟨c1, s1, F', hp.1, hs, r1, hF, hf, m1, n1, t1⟩
theorem weaken_st (h : StS B w q p k j c s F) (hj : j ≤ 5) (b : Int) : Calls Try.prog 68 #[.pointer (some ⟨p, 0, none⟩), .int .i64 b] w fun e w' => e = .returned (errV (c.weaken b).2) ∧ StS B w' q p (k + 1) (j + 1) (c.weaken b).1 s F ∧ Fr B (· ∈ q :: p :: F) w w' :=
  (weaken_any B p c b w h.ch).mono fun e w' ⟨h1, h2, h3⟩ => ⟨h1, ⟨h.st.chip h.ch h3, h2, h.ok.weaken hj b⟩, h3.mono (fun b _ e => by subst e; simp)⟩
theorem open_st (h : StS B w q p k j c s F) : Calls Try.prog 82 #[.pointer (some ⟨p, 0, none⟩)] w fun e w' => ∃ q2 F2, e = .returned (.tuple #[.pointer (some ⟨q2, 0, none⟩), .nilIface]) ∧ StS B w' q2 p k j c s F2 ∧ Below w.heap.size w w' ∧ w.heap.size ≤ q2 ∧ ∀ b ∈ F2, w.heap.size ≤ b :=
  (open_any B p c s w h.ch h.ok.inv).mono fun e w' ⟨q2, F2, h1, h2, h3, h4, h5⟩ => ⟨q2, F2, h1, ⟨h2, h.ch.below h3, h.ok⟩, h3, h4, h5⟩
end
end Go.Proofs.Ytaepdbkfaoiimab
