/- Noting manifests on a chip, from a new one on. Plain laws; conditions: none but those that each names. -/
import Derived.Test.YtaepdbkfaoiimaaHead
set_option linter.unusedVariables false
set_option linter.unusedSimpArgs false
namespace Go.Proofs.Ytaepdbkfaoiimaa
open Go.RowKit

theorem Head.found {c : Chip} {m : Man} {a : Int} (h : Head c m a) (hd : c.down = false) : findR c = (m, a, 0) := by
  unfold findR
  rw [hd, if_neg (by simp), h.find]
  have := h.at_
  rw [if_neg (by simp only; omega)]
theorem note_new {n : Man} (hf : n.fault = 0) : ∃ c1, noteR Chip.new 0 n = (c1, 0, 0) ∧ CWf c1 ∧ c1.down = false ∧ c1.fuse < 0 ∧ Head c1 n 0 := by
  obtain ⟨c2, n2, e2, s2, f2, g2⟩ := write_calm (c := Chip.new) (b := 0) (d := n.bytes) (by decide) rfl rfl rfl (mansize hf) (by simp [Chip.new])
  have w2 : CWf c2 := by have := CWf.new.write_ ((0 : Nat) : Int) n.bytes; rw [e2] at this; exact this
  obtain ⟨hn, hfu⟩ := f2 (by decide)
  subst hn
  rcases g2 with ⟨_, d2, p2, l2, x2⟩ | ⟨h, _⟩
  · refine ⟨c2, ?_, w2, d2, hfu, ?_, .inl rfl⟩
    · unfold noteR
      rw [if_neg (by simpa using hf), if_neg (by simp [Chip.new])]
      rw [show ((0 : Nat) : Int) = 0 from rfl] at e2
      rw [e2]
      simp
    · unfold findM
      rw [l2, s2.other 1 (by decide)]
      show [].foldl (fStep 1) ([⟨pad n.bytes, false⟩].foldl (fStep 0) (Man.zero, -1)) = _
      rw [List.foldl_nil, List.foldl_cons, List.foldl_nil, fStep_eq, man_sheet hf]
      have := (fault_zero.1 hf).1
      show (if (0 : Int) < n.ep then (n, (0 : Int)) else (Man.zero, -1)) = (n, 0)
      rw [if_pos (by omega)]
  · cases h
/-- A chip, maybe new, with the newest manifest. -/
structure Sit (c : Chip) (m : Man) (a : Int) : Prop where
  wf : CWf c
  up : c.down = false
  calm : c.fuse < 0
  what : (c = Chip.new ∧ m = Man.zero ∧ a = 0) ∨ Head c m a
theorem Sit.new : Sit Chip.new Man.zero 0 := ⟨CWf.new, rfl, by decide, .inl ⟨rfl, rfl, rfl⟩⟩
theorem Sit.at_ {c : Chip} {m : Man} {a : Int} (h : Sit c m a) : a = 0 ∨ a = 1 := by
  rcases h.what with ⟨_, _, h⟩ | h
  · exact .inl h
  · exact h.at_
theorem Sit.note {c : Chip} {m n : Man} {a : Int} (h : Sit c m a) (hf : n.fault = 0) (hn : m.ep < n.ep) : ∃ c' a', noteR c a n = (c', a', 0) ∧ Sit c' n a' ∧ Head c' n a' := by
  rcases h.what with ⟨rfl, rfl, rfl⟩ | hh
  · obtain ⟨c1, e, w1, d1, f1, h1⟩ := note_new hf
    exact ⟨c1, 0, e, ⟨w1, d1, f1, .inr h1⟩, h1⟩
  · obtain ⟨c', a', k, h1, h2, h3, h4, h5, h6⟩ := note_calm h.wf h.up hh hf hn
    obtain ⟨hk, hfu⟩ := h5 h.calm
    subst hk
    rcases h6 with ⟨_, h7, h8⟩ | ⟨h, _⟩
    · exact ⟨c', a', h1, ⟨h2, h7, hfu, .inr h8⟩, h8⟩
    · cases h
theorem note_fault {c : Chip} {a : Int} {n : Man} (hf : n.fault ≠ 0) : noteR c a n = (c, 0, n.fault) := if_pos hf
/-- What is found behind a restart. -/
def Back (c : Chip) (how : Int) (m n : Man) : Prop := ∃ x a, (x = m ∨ x = n) ∧ Head (c.restart how) x a
theorem back_calm {c : Chip} {m : Man} {a : Int} (how : Int) (hc : CWf c) (hd : c.down = false) (h : Head c m a) (n : Man) : Back c how m n := by
  have hp : c.pend = none := by have := hc.down; rw [hd] at this; simpa using this
  refine ⟨m, a, .inl rfl, h.same ?_ ?_⟩ <;> rw [restart_calm hp]
theorem note_next {c : Chip} {m n : Man} {a : Int} (hc : CWf c) (hd : c.down = false) (h : Head c m a) (hf : n.fault = 0) (hn : m.ep < n.ep) (how : Int) :
    ∃ c' a' k, noteR c a n = (c', a', k) ∧ CWf c' ∧ (c.fuse < 0 → k = 0 ∧ c'.fuse < 0) ∧ ((k = 0 ∧ c'.down = false ∧ Head c' n a') ∨ (k = 9 ∧ Back c' how m n)) := by
  obtain ⟨c', a', k, h1, h2, h3, h4, h5, h6⟩ := note_calm hc hd h hf hn
  refine ⟨c', a', k, h1, h2, h5, ?_⟩
  rcases h6 with h6 | ⟨h6, h7, h8⟩
  · exact .inl h6
  · refine .inr ⟨h6, ?_⟩
    rcases (h8 how).2 with h9 | ⟨a2, h9⟩
    · exact ⟨m, a, .inl rfl, h9⟩
    · exact ⟨n, a2, .inr rfl, h9⟩
theorem Sit.back {c : Chip} {m : Man} {a : Int} (how : Int) (hc : CWf (c.restart how)) (h : Head (c.restart how) m a) : Sit (c.restart how) m a := ⟨hc, rfl, show (-1 : Int) < 0 by decide, .inr h⟩
/-- A manifest that names a log alone. -/
def manL (e L : Int) : Man := ⟨e, L, [], []⟩
theorem manL_fault {e L : Int} (h1 : 1 ≤ e) (h2 : e ≤ 100000) (h3 : 2 ≤ L) (h4 : L < 24) : (manL e L).fault = 0 := by
  rw [fault_zero]
  exact ⟨h1, h2, by simp [manL, Man.all]; omega, by simp [manL, Man.all]⟩
theorem find_sheet (B p : Nat) (c : Chip) (m : Man) (a : Int) (W : World) (hW : ChipR B W p c) (hd : c.down = false) (h : Head c m a) :
    Calls Try.prog 66 #[.pointer (some ⟨p, 0, none⟩)] W fun e w' => ∃ A1 k1 A2 k2, e = .returned (.tuple #[.agg #[.int .i64 m.ep, .int .i64 m.log, .slice A1 m.nw.length k1, .slice A2 m.od.length k2], .int .i64 a, .nilIface]) ∧
      Ints B w' (.slice A1 m.nw.length k1) m.nw ∧ Ints B w' (.slice A2 m.od.length k2) m.od ∧ Below W.heap.size W w' := by
  have hf := find_any B p c W hW
  rw [h.found hd] at hf
  refine hf.mono ?_
  rintro e w' ⟨v, rfl, ⟨vn, vo, rfl, hn, ho⟩, hb⟩
  obtain ⟨A1, k1, rfl, _, _, _⟩ := hn.form
  obtain ⟨A2, k2, rfl, _, _, _⟩ := ho.form
  exact ⟨A1, k1, A2, k2, rfl, hn, ho, hb⟩
/-- A manifest that names a log alone is found. -/
theorem find_log (B p : Nat) (c : Chip) (e L a : Int) (W : World) (hW : ChipR B W p c) (hd : c.down = false) (h : Head c (manL e L) a) :
    Calls Try.prog 66 #[.pointer (some ⟨p, 0, none⟩)] W fun d w' => ∃ A1 k1 A2 k2, d = .returned (.tuple #[.agg #[.int .i64 e, .int .i64 L, .slice A1 0 k1, .slice A2 0 k2], .int .i64 a, .nilIface]) ∧
      Ints B w' (.slice A1 0 k1) [] ∧ Ints B w' (.slice A2 0 k2) [] ∧ Below W.heap.size W w' := find_sheet B p c (manL e L) a W hW hd h
theorem ints_nil {B B' : Nat} {w w' : World} {A : Option Addr} {c : Nat} (h : Ints B w (.slice A 0 c) []) : Ints B' w' (.slice A 0 c) [] := by
  obtain ⟨_, A', c', e, h2, h3, _⟩ := h
  cases e
  exact ⟨rfl, A, c, rfl, h2, h3, fun h => absurd h (by simp)⟩
section
variable {B p g o : Nat} {w : World} {c : Chip} {cs : Array Value}
theorem blk_man (hg : Blk w g 91 cs) {g' : Nat} {T : TypeId} {cs' : Array Value} (h : Blk w g' T cs') (hT : T ≠ 91) (x : Value) : Blk (w.setCell ⟨g, o, none⟩ x) g' T cs' := by
  refine h.far (p := ⟨g, o, none⟩) (fun e => ?_) x
  have e : g' = g := e
  subst e
  unfold Blk at h hg
  rw [h] at hg
  injection hg with hg
  injection hg with _ e
  exact hT e
theorem UndoR.man {u : Value} (hg : Blk w g 91 cs) (x : Value) : ∀ {d : Option Pend}, UndoR w p c u d → UndoR (w.setCell ⟨g, o, none⟩ x) p c u d
  | none, h => h
  | some (.wr b d), ⟨qh, qd, bx, bn, bd, e, h2, h3, h4, h5, h6⟩ => ⟨qh, qd, bx, bn, bd, e, blk_man hg h2 (by decide) x, blk_man hg h3 (by decide) x, blk_man hg h4 (by decide) x, blk_man hg h5 (by decide) x, blk_man hg h6 (by decide) x⟩
  | some (.er b), ⟨qh, qd, bx, e, h2, h3, h4⟩ => ⟨qh, qd, bx, e, blk_man hg h2 (by decide) x, blk_man hg h3 (by decide) x, blk_man hg h4 (by decide) x⟩
/-- Stores into the block of a manifest leave the chip. -/
theorem ChipR.man (h : ChipR B w p c) (hg : Blk w g 91 cs) (hB : B ≤ g) (x : Value) : ChipR B (w.setCell ⟨g, o, none⟩ x) p c := by
  obtain ⟨V, u, hv, hu, hwf⟩ := h
  exact ⟨V, u, ⟨blk_man hg hv.blk (by decide) x, fun b hb => (hv.rows b hb).far hg hB (by decide) x, hv.base⟩, UndoR.man hg x hu, hwf⟩
theorem ChipR.man4 {a0 a1 a2 a3 : Value} (h : ChipR B w p c) (hg : Blk w g 91 #[a0, a1, a2, a3]) (hB : B ≤ g) (b0 b1 b2 b3 : Value) :
    ChipR B ((((w.setCell ⟨g, 0, none⟩ b0).setCell ⟨g, 1, none⟩ b1).setCell ⟨g, 2, none⟩ b2).setCell ⟨g, 3, none⟩ b3) p c :=
  (((h.man hg hB b0).man (hg.set_ 0 b0) hB b1).man ((hg.set_ 0 b0).set_ 1 b1) hB b2).man (((hg.set_ 0 b0).set_ 1 b1).set_ 2 b2) hB b3
theorem ints_man4 {v : Value} {l : List Int} {a0 a1 a2 a3 : Value} (h : Ints B w v l) (hb : Blk w g 91 #[a0, a1, a2, a3]) (hB : B ≤ g) (b0 b1 b2 b3 : Value) :
    Ints B ((((w.setCell ⟨g, 0, none⟩ b0).setCell ⟨g, 1, none⟩ b1).setCell ⟨g, 2, none⟩ b2).setCell ⟨g, 3, none⟩ b3) v l :=
  Rd.far' (Rd.far' (Rd.far' (Rd.far' h hb hB (by decide) _) (hb.set_ 0 _) hB (by decide) _) ((hb.set_ 0 _).set_ 1 _) hB (by decide) _) (((hb.set_ 0 _).set_ 1 _).set_ 2 _) hB (by decide) _
end
end Go.Proofs.Ytaepdbkfaoiimaa
