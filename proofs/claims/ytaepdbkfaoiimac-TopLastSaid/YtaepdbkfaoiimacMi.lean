/- A store, and stores into the block of an entry that a law's own code has made. Conditions: none but those that each names. -/
import Derived.Test.YtaepdbkfaoiimacMf
set_option linter.unusedVariables false
set_option linter.unusedSimpArgs false
namespace Go.Proofs.Ytaepdbkfaoiimac
open Go.RowKit
section
variable {B q p g o k j : Nat} {w : World} {c : Chip} {s : SM} {F : List Nat} {cs : Array Value}
theorem blk_ent (hg : Blk w g 34 cs) {g' : Nat} {T : TypeId} {cs' : Array Value} (h : Blk w g' T cs') (hT : T ≠ 34) (x : Value) : Blk (w.setCell ⟨g, o, none⟩ x) g' T cs' := by
  refine h.far (p := ⟨g, o, none⟩) (fun e => ?_) x
  have e : g' = g := e
  subst e
  unfold Blk at h hg
  rw [h] at hg
  injection hg with hg
  injection hg with _ e
  exact hT e
theorem UndoR.ent {u : Value} (hg : Blk w g 34 cs) (x : Value) : ∀ {d : Option Pend}, UndoR w p c u d → UndoR (w.setCell ⟨g, o, none⟩ x) p c u d
  | none, h => h
  | some (.wr b d), ⟨qh, qd, bx, bn, bd, e, h2, h3, h4, h5, h6⟩ => ⟨qh, qd, bx, bn, bd, e, blk_ent hg h2 (by decide) x, blk_ent hg h3 (by decide) x, blk_ent hg h4 (by decide) x, blk_ent hg h5 (by decide) x, blk_ent hg h6 (by decide) x⟩
  | some (.er b), ⟨qh, qd, bx, e, h2, h3, h4⟩ => ⟨qh, qd, bx, e, blk_ent hg h2 (by decide) x, blk_ent hg h3 (by decide) x, blk_ent hg h4 (by decide) x⟩
theorem ChipR.ent (h : ChipR B w p c) (hg : Blk w g 34 cs) (hB : B ≤ g) (x : Value) : ChipR B (w.setCell ⟨g, o, none⟩ x) p c := by
  obtain ⟨V, u, hv, hu, hwf⟩ := h
  exact ⟨V, u, ⟨blk_ent hg hv.blk (by decide) x, fun b hb => (hv.rows b hb).far hg hB (by decide) x, hv.base⟩, UndoR.ent hg x hu, hwf⟩
theorem Tower.ent {t : Nat} {l : List Ent} (h : Tower B w t l F) (hg : Blk w g 34 cs) (x : Value) : Tower B (w.setCell ⟨g, o, none⟩ x) t l F := by
  obtain ⟨ns, N, h1, h2, h3, h4, h5, h6⟩ := h
  exact ⟨ns, N, ⟨blk_ent hg h1.head (by decide) x, fun nd hnd => blk_ent hg (h1.node nd hnd) (by decide) x⟩, h2, h3, h4, h5, h6⟩
theorem StoreR.ent (h : StoreR B w q p s F) (hg : Blk w g 34 cs) (hB : B ≤ g) (x : Value) : StoreR B (w.setCell ⟨g, o, none⟩ x) q p s F := by
  obtain ⟨A1, c1, A2, c2, t, n, h1, h2, h3, h4, h5, h6⟩ := h
  exact ⟨A1, c1, A2, c2, t, n, blk_ent hg h1 (by decide) x, Rd.far' h2 hg hB (by decide) x, Rd.far' h3 hg hB (by decide) x, h4.ent hg x, h5, h6⟩
theorem StS.ent (h : StS B w q p k j c s F) (hg : Blk w g 34 cs) (hB : B ≤ g) (x : Value) : StS B (w.setCell ⟨g, o, none⟩ x) q p k j c s F := ⟨h.st.ent hg hB x, h.ch.ent hg hB x, h.ok⟩
theorem StS.ent3 {a0 a1 a2 : Value} (h : StS B w q p k j c s F) (hg : Blk w g 34 #[a0, a1, a2]) (hB : B ≤ g) (b0 b1 b2 : Value) :
    StS B (((w.setCell ⟨g, 0, none⟩ b0).setCell ⟨g, 1, none⟩ b1).setCell ⟨g, 2, none⟩ b2) q p k j c s F :=
  ((h.ent hg hB b0).ent (hg.set_ 0 b0) hB b1).ent ((hg.set_ 0 b0).set_ 1 b1) hB b2
end
end Go.Proofs.Ytaepdbkfaoiimac
