/- table.Write of entries that table.Check refuses: an error, and the chip as it was. Conditions: none but the length. -/
import Derived.Test.YtaepdbkfaoiimabTabW
set_option linter.unusedVariables false
set_option linter.unusedSimpArgs false
namespace Go.Proofs.Ytaepdbkfaoiimab
open Go.RowKit Go.Shelf
attribute [local go_sem] Oper.semAt_some
attribute [local go_sem ↓] eql_err eql_nilerr neq_err neq_nilerr guard_err guard_nilerr guardn_err guardn_nilerr
/-- Behind an error of the pages' bytes. -/
structure TwR (B p : Nat) (w : World) (n : Nat) (c : Chip) (W : World) : Prop where
  b6 : Blk W (w.heap.size + 1 + 1) 44 #[errV n]
  rep : ChipR B W p c
  fr : Fr B (· = p) w W
  hp : p < w.heap.size
  hB : B ≤ w.heap.size
theorem TwR.grown {B p n B0 : Nat} {w W W' : World} {c : Chip} {row : Option Nat} (h : TwR B p w n c W) (hg : W.grownBy W' row) (hr : ∀ r, row = some r → B0 ≤ r ∧ ∃ o : Obj, W.heap[r]? = some o ∧ o.isCells = false) (hB0 : w.heap.size ≤ B0) : TwR B p w n c W' := by
  have hf := fr_grown (B := B) hg (fun r e => ⟨Nat.le_trans (Nat.le_trans h.hB hB0) (hr r e).1, (hr r e).2⟩)
  refine ⟨blk_grown h.b6 hg hr, h.rep.keep hf (fun e => by have := (hr p e).1; have := h.hp; omega), h.fr.trans' hf (fun k hk e => by have := (hr k e).1; omega), h.hp, h.hB⟩
theorem TwS.stop {B p : Nat} {b : Int} {v : Value} {l : List Ent} {w : World} {x7 : Nat} {n : Nat} {c : Chip} {W : World} (h : TwS B p b v l w x7 n c W) (n' : Nat) : TwR B p w n' c (W.setCell ⟨w.heap.size + 1 + 1, 0, none⟩ (errV n')) := by
  have h0 := h.hB
  exact ⟨h.b6.set_ 0 _, chipR_far h.rep h.b6 (by omega) _, h.fr.setCell (by show B ≤ w.heap.size + 1 + 1; omega) (.inr (by show w.heap.size ≤ w.heap.size + 1 + 1; omega)) (fun e => absurd e (by show ¬ w.heap.size + 1 + 1 < w.heap.size; omega)) _, h.hp, h.hB⟩
set_option maxRecDepth 100000 in
set_option maxHeartbeats 4000000 in
theorem twrite_bad (B p : Nat) (c : Chip) (b : Int) (v : Value) (l : List Ent) (w : World) (h : ChipR B w p c) (hl : Ents B w v l) (ht : tabF l ≠ 0) (hlen : l.length ≤ 1000000) :
    Calls Try.prog 46 #[.pointer (some ⟨p, 0, none⟩), .int .i64 b, v] w fun e w' => (∃ n, n ≠ 0 ∧ e = .returned (errV n)) ∧ ChipR B w' p c ∧ Fr B (· = p) w w' := by
  have hB0 : B ≤ w.heap.size := by obtain ⟨V, u, hv, _⟩ := h; have := hv.base; have := hv.blk.lt; omega
  obtain ⟨A, cp, rfl, hc1, hc2, _⟩ := hl.form
  have hA : ∃ g o, 0 < l.length → A = some ⟨g, o, none⟩ := by
    rcases Nat.eq_zero_or_pos l.length with h0 | h0
    · exact ⟨0, 0, fun h => by omega⟩
    · obtain ⟨g, o, rfl, _⟩ := rd_at' hl.1 h0
      exact ⟨g, o, fun _ => rfl⟩
  obtain ⟨g, o, hA⟩ := hA
  have hbl0 : Below w.heap.size w (((w.alloc (.cells #[.pointer (some ⟨p, 0, none⟩)] 62)).alloc (.cells #[.int .i64 b] 3)).alloc (.cells #[.nilIface] 44)) :=
    ((((Below.refl _ _).alloc (Nat.le_refl _) _).alloc (by simp) _).alloc (by simp; omega) _)
  have HCK := Lib.hid (tcheck_any B _ l _ (hl.below hbl0))
  obtain ⟨ne, hne⟩ : ∃ ne, tabF l = ne := ⟨_, rfl⟩
  rw [hne] at ht
  have he : errV ne = .iface 107 (.int .i64 ne) := by unfold errV; rw [if_neg ht]
  rw [hne, he] at HCK
  have HL := Lib.hid hl
  have HR := Lib.hid h
  have HBL0 := Lib.hid hbl0
  have HT0 : Hid (∀ w2, Below (((w.alloc (.cells #[.pointer (some ⟨p, 0, none⟩)] 62)).alloc (.cells #[.int .i64 b] 3)).alloc (.cells #[.nilIface] 44)).heap.size (((w.alloc (.cells #[.pointer (some ⟨p, 0, none⟩)] 62)).alloc (.cells #[.int .i64 b] 3)).alloc (.cells #[.nilIface] 44)) w2 →
      TwS B p b (.slice A l.length cp) l w w2.heap.size ne c (w2.alloc (.cells #[.iface 107 (.int .i64 ne)] 44))) := by
    intro w2 hb2
    have hs := hb2.size
    simp at hs
    have hbb : Below w.heap.size w (w2.alloc (.cells #[.iface 107 (.int .i64 ne)] 44)) := (hbl0.trans (hb2.mono (by simp; omega))).alloc (by omega) _
    have k3 : Blk (((w.alloc (.cells #[.pointer (some ⟨p, 0, none⟩)] 62)).alloc (.cells #[.int .i64 b] 3)).alloc (.cells #[.nilIface] 44)) w.heap.size 62 #[.pointer (some ⟨p, 0, none⟩)] := ((Blk.new w _ _).alloc _).alloc _
    have k4 : Blk (((w.alloc (.cells #[.pointer (some ⟨p, 0, none⟩)] 62)).alloc (.cells #[.int .i64 b] 3)).alloc (.cells #[.nilIface] 44)) (w.heap.size + 1) 3 #[.int .i64 b] := by
      have := (Blk.new (w.alloc (.cells #[.pointer (some ⟨p, 0, none⟩)] 62)) 3 #[.int .i64 b]).alloc (.cells #[.nilIface] 44)
      simpa using this
    have k6 : Blk (((w.alloc (.cells #[.pointer (some ⟨p, 0, none⟩)] 62)).alloc (.cells #[.int .i64 b] 3)).alloc (.cells #[.nilIface] 44)) (w.heap.size + 1 + 1) 44 #[.nilIface] := by
      have := Blk.new ((w.alloc (.cells #[.pointer (some ⟨p, 0, none⟩)] 62)).alloc (.cells #[.int .i64 b] 3)) 44 #[.nilIface]
      simpa using this
    exact ⟨(k3.below hb2 k3.lt).alloc _, (k4.below hb2 k4.lt).alloc _, (k6.below hb2 k6.lt).alloc _, by rw [he]; exact Blk.new w2 _ _, by omega, h.below hbb, hl.below hbb, .of_below hbb, h.lt, hB0⟩
  have HSZ : Hid (∀ w2, Below (((w.alloc (.cells #[.pointer (some ⟨p, 0, none⟩)] 62)).alloc (.cells #[.int .i64 b] 3)).alloc (.cells #[.nilIface] 44)).heap.size (((w.alloc (.cells #[.pointer (some ⟨p, 0, none⟩)] 62)).alloc (.cells #[.int .i64 b] 3)).alloc (.cells #[.nilIface] 44)) w2 → w.heap.size + 1 + 1 < w2.heap.size ∧ w2.cell? ⟨w.heap.size, 0, none⟩ = some (.pointer (some ⟨p, 0, none⟩)) ∧ w2.cell? ⟨w.heap.size + 1, 0, none⟩ = some (.int .i64 b)) := by
    intro w2 hb2
    have hs := hb2.size
    simp at hs
    have hT := HT0.out w2 hb2
    have old : ∀ k (v : Value), k < w2.heap.size → (w2.alloc (.cells #[.iface 107 (.int .i64 ne)] 44)).cell? ⟨k, 0, none⟩ = some v → w2.cell? ⟨k, 0, none⟩ = some v := by
      intro k v hk hv
      rw [World.cell?_of_block (Below.heap_alloc w2 _ k hk)] at hv
      exact hv
    exact ⟨by omega, old _ _ (by omega) hT.cells.1, old _ _ (by omega) hT.cells.2.1⟩
  clear h hl hbl0
  have HE := Lib.hid he
  clear he
  refine (callsIn_wide (n := 6)).1 ?_
  refine callsIn_of_wp_marks Try.func46 rfl trivial ?_ rfl
  simp only [Try.ntmps46, List.size_toArray, List.length_cons, List.length_nil, Nat.reduceAdd, Nat.reduceSub, Array.replicate_succ, Array.replicate_zero, List.push_toArray, List.append_toArray, List.nil_append, List.cons_append]
  refine wpIn_wide.2 ?_
  go_wp2_with (first
      | (go_at_call 48; refine HCK.out.mono ?_; rintro e2 w2 ⟨rfl, hb2⟩; have HT2 := Lib.hid (HT0.out w2 hb2); obtain ⟨z1, z3, z4⟩ := HSZ.out w2 hb2; have z5 : w.heap.size < w2.heap.size := (by omega); have z6 : w.heap.size + 1 < w2.heap.size := (by omega); clear hb2 HT0 HSZ HBL0)
      | (go_at_call 74; (obtain ⟨WL, hWL⟩ : ∃ WL, w2.alloc (.cells #[.iface 107 (.int .i64 ne)] 44) = WL := ⟨_, rfl⟩); rw [hWL] at HT2 ⊢; have HCH := Lib.hid (chunk_any A l.length cp 2 (by decide) WL); clear HCK hWL; refine HCH.out.mono ?_; rintro e10 w10 ⟨rfl, rfl⟩))
  have hTL : TwS B p b (.slice A l.length cp) l w w2.heap.size ne c ((WL.alloc (.cells #[(.slice A l.length cp)] 22)).alloc (.cells #[.int .i64 2] 3)) := (HT2.out.alloc _).alloc _
  have HTL := Lib.hid hTL
  have hsL2 : w2.heap.size < WL.heap.size := HT2.out.b7.lt
  have HBs : Blk ((WL.alloc (.cells #[(.slice A l.length cp)] 22)).alloc (.cells #[.int .i64 2] 3)) WL.heap.size 22 #[(.slice A l.length cp)] := (Blk.new WL _ _).alloc _
  have HBn : Blk ((WL.alloc (.cells #[(.slice A l.length cp)] 22)).alloc (.cells #[.int .i64 2] 3)) (WL.heap.size + 1) 3 #[.int .i64 (2 : Nat)] := by
    have := Blk.new (WL.alloc (.cells #[(.slice A l.length cp)] 22)) 3 #[.int .i64 2]
    simpa using this
  have hps : ((WL.alloc (.cells #[(.slice A l.length cp)] 22)).alloc (.cells #[.int .i64 2] 3)).heap.size = WL.heap.size + 2 := by simp
  generalize hWW : ((WL.alloc (.cells #[(.slice A l.length cp)] 22)).alloc (.cells #[.int .i64 2] 3)) = WW at *
  clear hWW hTL HCH HT2
  refine (wpIn_wide (n := 6)).1 ?_
  refine wpIn_rangeFunc_ownF (n := 6) rfl (by decide) (gf := 100) (lb := #[.pointer (some ⟨WL.heap.size, 0, none⟩), .pointer (some ⟨WL.heap.size + 1, 0, none⟩)]) rfl trivial (enters_of Try.func100 (by kernel_rfl) rfl)
    (chunk_stops 5 (by decide) WL.heap.size (WL.heap.size + 1) g o l.length cp 2 A hA (by decide) (by decide) hlen hc1 hc2 WW HBs HBn) kpc_t (fun W k o o' hk _ _ _ => kpc_b (Bs := WL.heap.size) (Bn := WL.heap.size + 1) W k o' (by omega) (by omega)) (Below.refl _ _) (fun _ => rfl)
    (fun pre W => TwS B p b (.slice A l.length cp) l w w2.heap.size ne c W ∧ WL.heap.size + 2 ≤ W.heap.size)
    (fun cde pre W => cde = .ret ∧ ∃ n, n ≠ 0 ∧ TwR B p w n c W)
    (fun s A' B' row hs hg hr => ⟨hs.1.grown hg hr (by omega), Nat.le_trans hs.2 hg.size⟩) (fun cde s A' B' row hs hg hr => ⟨hs.1, hs.2.choose, hs.2.choose_spec.1, hs.2.choose_spec.2.grown hg hr (by omega)⟩) ⟨HTL.out, by omega⟩ ?a1 ?assign ?body ?done ?stop
  case assign =>
    intro l0 x W K hK
    simp only [ckVal]
    gi_wp2
    exact hK
  case body =>
    rintro l0 pre ⟨k, hkx⟩ W ⟨hT, hWs⟩ _
    obtain rfl := hA (by omega)
    obtain ⟨m, hm⟩ : ∃ m, min 2 (l.length - 2 * k) = m := ⟨_, rfl⟩
    have hen := ents_chunk (nn := 2) (k := k) hT.ents
    rw [hm] at hen
    have hpc : ∃ cs T fz, W.heap[p]? = some (.cells cs T fz) := by obtain ⟨V, u, hv, _⟩ := hT.rep; exact ⟨_, _, _, hv.blk⟩
    have hxc : ∃ cs T fz, W.heap[w.heap.size + 1 + 1]? = some (.cells cs T fz) := ⟨_, _, _, hT.b6⟩
    have hpw := hT.hp
    have hby := bytes_any B _ (ckList 2 l k) W hen (by simp [ckList]; omega)
    have HBY := Lib.hid (hby.mono (R' := fun e w1 => e = .returned (.tuple #[.string (bytesS (ckList 2 l k)), errV (bytesF (ckList 2 l k))]) ∧ TwS B p b (.slice (some ⟨g, o, none⟩) l.length cp) l w w2.heap.size ne c w1 ∧ Keep2 p (w.heap.size + 1 + 1) W w1) (fun e w1 ⟨h1, h2⟩ => ⟨h1, hT.below h2, .of_below h2⟩))
    have HFIN : Hid (∀ W', Keep2 p (w.heap.size + 1 + 1) W W' → KeepsOthers W W' ∧ KpC WL.heap.size (WL.heap.size + 1) W W' ∧ WL.heap.size + 2 ≤ W'.heap.size) := by
      intro W' h2
      exact ⟨h2.others hpc hxc, ⟨h2.block _ (by omega) (by omega) (by omega), h2.block _ (by omega) (by omega) (by omega)⟩, Nat.le_trans hWs h2.size⟩
    generalize bytesS (ckList 2 l k) = d at *
    generalize bytesF (ckList 2 l k) = nb at *
    clear hen hpc hxc hby hT
    simp only [hm]
    by_cases hb0 : nb = 0
    · subst hb0
      rw [show errV 0 = Value.nilIface from rfl] at HBY
      gi_wp2_with (refine ⟨trivial, ?_⟩; gi_at_call 24; refine (CallsIn.inRound l0 (callsIn_wide.2 HBY.out)).mono ?_; rintro e4 w4 ⟨rfl, ht4, hk4⟩; have HT4 := Lib.hid ht4; have HK4 := Lib.hid hk4; have q7 := ht4.b7.cell 0; simp at q7; rw [HE.out] at q7; clear ht4 hk4)
      exact ⟨(HFIN.out _ HK4.out).1, (HFIN.out _ HK4.out).2.1, HT4.out, (HFIN.out _ HK4.out).2.2⟩
    · have heb : errV nb = .iface 107 (.int .i64 nb) := by unfold errV; rw [if_neg hb0]
      have HEB := Lib.hid heb
      rw [heb] at HBY
      clear heb
      gi_wp2_with (refine ⟨trivial, ?_⟩; gi_at_call 24; refine (CallsIn.inRound l0 (callsIn_wide.2 HBY.out)).mono ?_; rintro e4 w4 ⟨rfl, ht4, hk4⟩; have HT4 := Lib.hid ht4; have HK4 := Lib.hid hk4; have q7 := ht4.b7.cell 0; simp at q7; rw [HE.out] at q7; have q6 := ht4.b6.cell 0; have q6f := ht4.b6.frozen 0; simp at q6; clear ht4 hk4)
      exact ⟨(HFIN.out _ (HK4.out.trans (Keep2.set _ _))).1, rfl, nb, hb0, by have := HT4.out.stop nb; rw [HEB.out] at this; exact this⟩
  case done =>
    rintro D xs W hD ⟨k, hk, rfl⟩ ⟨hT, _⟩ hK
    have q7 := hT.b7.cell 0
    have q6 := hT.b6.cell 0
    have q6f := hT.b6.frozen 0
    simp at q7 q6
    rw [HE.out] at q7
    have HTD := Lib.hid (hT.last (D := D) (by have := hT.b6.lt; have := HTL.out.lt; omega) hK rfl)
    have HKD : Hid (∀ u, (W.setCell ⟨w.heap.size + 1 + 1, 0, none⟩ u).heap[D]? = some (.deferred (some []))) := fun u => (Below.heap_setCell _ _ _ _ (fun e => by
      have e : D = w.heap.size + 1 + 1 := e
      rw [e, show W.heap[w.heap.size + 1 + 1]? = some (.cells #[.nilIface] 44 (0, 0)) from hT.b6] at hK
      cases hK)).trans hK
    have hc := (HTD.out (.iface 107 (.int .i64 ne)) (.deferred none)).2.2
    clear hK hT
    go_wp2_with fail
    refine ⟨by simp, .inl ⟨_, _, rfl, run_takeDeferred (HKD.out _), ?_⟩⟩
    exact ⟨.iface 107 (.int .i64 ne), by simp [results, Try.results46, go_sem, hc], ⟨ne, ht, by rw [HE.out]⟩, (HTD.out _ _).1, (HTD.out _ _).2.1⟩
  case stop =>
    rintro D cde pre W hD _ ⟨rfl, n, hn, hR⟩ hK
    gi_wp2
    have hTD := hR.grown (grownBy_putObj' W D (.deferred none)) (fun r e => by cases e; exact ⟨hD, _, hK, rfl⟩) (by have := hR.b6.lt; have := HTL.out.lt; omega)
    have hc := hTD.b6.cell 0
    simp at hc
    refine ⟨by simp, .inl ⟨_, _, rfl, run_takeDeferred hK, ?_⟩⟩
    exact ⟨errV n, by simp [results, Try.results46, go_sem, hc], ⟨n, hn, rfl⟩, hTD.rep, hTD.fr⟩
end Go.Proofs.Ytaepdbkfaoiimab
