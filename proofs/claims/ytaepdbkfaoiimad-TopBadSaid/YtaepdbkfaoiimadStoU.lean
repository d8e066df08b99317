/- The contracts of Flush, Compact, Open and Manifest of a store that has done so many acts. Conditions: none but those that each names. -/
import Derived.Test.YtaepdbkfaoiimadMg
set_option linter.unusedVariables false
set_option linter.unusedSimpArgs false
namespace Go.Proofs.Ytaepdbkfaoiimad
open Go.RowKit
abbrev eKX : Ent := ⟨⟨#[107]⟩, ⟨#[120]⟩, false⟩
theorem kx_check : checkR [] [eKX] = 0 := by decide +kernel
theorem kx_rows : rowsW [] [eKX] = [eKX] := by decide +kernel
theorem kx_ents (B : Nat) (w : World) : Ents B (w.alloc (.cells #[.string ⟨#[107]⟩, .string ⟨#[120]⟩, .bool false] 34)) (.slice (some ⟨w.heap.size, 0, none⟩) 1 1) [eKX] :=
  ⟨rd_lit3 _ w _ rfl ⟨#[107]⟩ ⟨#[120]⟩ false, by intro e he; simp at he; subst he; exact ⟨by decide, by decide⟩⟩
section
variable {B q p k j : Nat} {c : Chip} {s : SM} {F : List Nat} {w : World}
theorem StS.drawN (h : StS B w q p k j c s F) (n : Nat) : StS B (w.drewN n) q p k j c s F := ⟨h.st.drewN n, h.ch.drewN n, h.ok⟩
theorem StS.mono {k' j' : Nat} (h : StS B w q p k j c s F) (hk : k ≤ k') (hj : j ≤ j') : StS B w q p k' j' c s F := ⟨h.st, h.ch, h.ok.mono hk hj⟩
theorem flush_st (h : StS B w q p k j c s F) (hk : k ≤ 1000) : Calls Try.prog 10 #[.pointer (some ⟨q, 0, none⟩)] w fun e w' => ∃ c' s' F', e = .returned .nilIface ∧ StS B w' q p (k + 1) j c' s' F' ∧ s'.rows = s.rows ∧ (∀ b ∈ F', b ∈ F ∨ w.heap.size ≤ b) ∧ Fr B (· ∈ q :: p :: F) w w' ∧
    s'.mem = [] ∧ (∃ g : Nat, s'.m.log = g ∧ (c'.b g).l = [] ∧ (c.b g).bad = false) ∧ (∀ b ∈ s'.m.nw, b ∈ s.m.nw ∨ (c.b b.toNat).bad = false) := by
  obtain ⟨c1, s1, e1, g1, r1, m1, ⟨g, q1, q2, q3, q4⟩, v1⟩ := flush_good h.ok hk
  have hw := flush_any B q p c s F w h.st h.ch h.ok.inv (by have := h.ok.ep; omega)
  rw [e1] at hw
  refine hw.mono ?_
  intro e w' hp
  obtain ⟨F', hs, hF, hf⟩ := StS.post (k := k) (j := j) (c := c) (s := s) hp g1
  exact ⟨c1, s1, F', hp.1, hs, r1, hF, hf, m1, ⟨g, q1, q2, q4⟩, v1⟩
theorem comp_st (h : StS B w q p k j c s F) (hk : k ≤ 1000) : Calls Try.prog 11 #[.pointer (some ⟨q, 0, none⟩)] w fun e w' => ∃ c' s' F', e = .returned .nilIface ∧ StS B w' q p (k + 1) j c' s' F' ∧ s'.rows = s.rows ∧ (∀ b ∈ F', b ∈ F ∨ w.heap.size ≤ b) ∧ Fr B (· ∈ q :: p :: F) w w' ∧
    s'.mem = s.mem ∧ s'.m.nw = [] ∧ s'.tabs = parts 14 (liveE (mergeAll s.tabs)) := by
  obtain ⟨c1, s1, e1, g1, r1, m1, n1, l1, t1⟩ := comp_good h.ok hk
  have hw := compact_any B q p c s F w h.st h.ch h.ok.inv
  rw [e1] at hw
  refine hw.mono ?_
  intro e w' hp
  obtain ⟨F', hs, hF, hf⟩ := StS.post (k := k) (j := j) (c := c) (s := s) hp g1
  exact ⟨c1, s1, F', hp.1, hs, r1, hF, hf, m1, n1, t1⟩
theorem weaken_st (h : StS B w q p k j c s F) (hj : j ≤ 5) (b : Int) : Calls Try.prog 49 #[.pointer (some ⟨p, 0, none⟩), .int .i64 b] w fun e w' => e = .returned (errV (c.weaken b).2) ∧ StS B w' q p (k + 1) (j + 1) (c.weaken b).1 s F ∧ Fr B (· ∈ q :: p :: F) w w' :=
  (weaken_any B p c b w h.ch).mono fun e w' ⟨h1, h2, h3⟩ => ⟨h1, ⟨h.st.chip h.ch h3, h2, h.ok.weaken hj b⟩, h3.mono (fun b _ e => by subst e; simp)⟩
theorem open_st (h : StS B w q p k j c s F) : Calls Try.prog 17 #[.pointer (some ⟨p, 0, none⟩)] w fun e w' => ∃ q2 F2, e = .returned (.tuple #[.pointer (some ⟨q2, 0, none⟩), .nilIface]) ∧ StS B w' q2 p k j c s F2 ∧ Below w.heap.size w w' ∧ w.heap.size ≤ q2 ∧ ∀ b ∈ F2, w.heap.size ≤ b :=
  (open_any B p c s w h.ch h.ok.inv).mono fun e w' ⟨q2, F2, h1, h2, h3, h4, h5⟩ => ⟨q2, F2, h1, ⟨h2, h.ch.below h3, h.ok⟩, h3, h4, h5⟩
theorem sman_st (h : StS B w q p k j c s F) : Calls Try.prog 12 #[.pointer (some ⟨q, 0, none⟩)] w fun e w' => ∃ A3 c3 A4 c4, e = .returned (.agg #[.int .i64 s.m.ep, .int .i64 s.m.log, .slice A3 s.m.nw.length c3, .slice A4 s.m.od.length c4]) ∧ Ints B w' (.slice A3 s.m.nw.length c3) s.m.nw ∧ Ints B w' (.slice A4 s.m.od.length c4) s.m.od ∧ StS B w' q p k j c s F ∧ Below w.heap.size w w' :=
  (sman_any B q p s F w h.st (by have := h.ok.inv.body.nwl; omega) (by have := h.ok.inv.body.odl; omega)).mono fun e w' ⟨A3, c3, A4, c4, h1, h2, h3, h4⟩ => ⟨A3, c3, A4, c4, h1, h2, h3, h.below h4, h4⟩
end
end Go.Proofs.Ytaepdbkfaoiimad
