/- Several texts of this proof, one behind the other: walks and plain laws that the statement rests on. Conditions: none but those that each lemma names. -/
import Derived.Test.YtaepdbkfaoiimabGreatDoorGm
import Derived.Test.YtaepdbkfaoiimabGreatDoorGk
import Derived.Test.YtaepdbkfaoiimabGreatDoorGl
import Derived.Test.YtaepdbkfaoiimabGreatDoorGh
/- The contracts of store.Compact, few, flush, Flush. Conditions: the store is sound. -/
set_option linter.unusedVariables false
set_option linter.unusedSimpArgs false
namespace Go.Proofs.YtaepdbkfaoiimabGreatDoor
open Go.RowKit
attribute [local go_sem ↓] eql_err eql_nilerr neq_err neq_nilerr guard_err guard_nilerr guardn_err guardn_nilerr
/-- What a function of the store leaves, that answers an error. -/
def SPost (B q p : Nat) (F : List Nat) (w : World) (r : Chip × SM × Nat) (e : Ending) (w' : World) : Prop :=
  e = .returned (errV r.2.2) ∧ ChipR B w' p r.1 ∧ (∃ F', StoreR B w' q p r.2.1 F' ∧ ∀ b ∈ F', b ∈ F ∨ w.heap.size ≤ b) ∧ Fr B (· ∈ q :: p :: F) w w'
theorem Lss.cut {B : Nat} {w : World} {b o n c : Nat} {y : List Ent} {ys : List (List Ent)} (h : Lss B w (.slice (some ⟨b, o, none⟩) n c) (y :: ys)) :
    Lss B w (.slice (if c = 1 then some ⟨b, o, none⟩ else some ⟨b, o + 1, none⟩) ys.length (c - 1)) ys := by
  obtain ⟨vs, h1, ⟨h2, A, c', h3, h4, h5, h6⟩, h7⟩ := h
  simp only [List.length_cons] at h1 h2 h3 h4 h6
  injection h3 with e1 e2 e3
  subst e1; subst e3
  obtain ⟨x, vs, rfl⟩ : ∃ x vs', vs = x :: vs' := by
    cases vs with
    | nil => simp at h1
    | cons x vs => exact ⟨x, vs, rfl⟩
  have h1 : vs.length = ys.length := by simpa using h1
  have h2 : vs.length + 1 = (ys.length + 1) * 1 := by simpa using h2
  refine ⟨vs, by omega, ⟨by omega, _, _, rfl, by omega, by omega, fun hn => ?_⟩, fun i u l hu hl => h7 (i + 1) u l hu hl⟩
  rw [if_neg (by omega)]
  obtain ⟨b', o', e, hk, hb, hc⟩ := h6 (by omega)
  injection e with e
  injection e with eb eo
  subst eb; subst eo
  refine ⟨_, _, rfl, hk, hb, fun j u hu => ?_⟩
  rw [Nat.add_assoc, Nat.add_comm 1 j]
  exact hc (j + 1) u hu
theorem Lss.cut1 {B : Nat} {w : World} {b o n : Nat} {y : List Ent} {ys : List (List Ent)} (h : Lss B w (.slice (some ⟨b, o, none⟩) n 1) (y :: ys)) :
    Lss B w (.slice (some ⟨b, o, none⟩) ys.length 0) ys := by
  have := h.cut
  rw [if_pos rfl] at this
  exact this
theorem Lss.cut2 {B : Nat} {w : World} {b o n c : Nat} {y : List Ent} {ys : List (List Ent)} (h : Lss B w (.slice (some ⟨b, o, none⟩) n c) (y :: ys)) (hc : c ≠ 1) :
    Lss B w (.slice (some ⟨b, o + 1, none⟩) ys.length (c - 1)) ys := by
  have := h.cut
  rw [if_neg hc] at this
  exact this
theorem tablesM_len (used : List Int) : ∀ (ps : List (List Ent)) (c : Chip) (out : List Int), (tablesM used ps c out).2.1.length ≤ out.length + ps.length
  | [], c, out => by rw [tablesM]; simp
  | x :: ps, c, out => by
    rw [tablesM]
    split
    · have := tablesM_len used ps (seek (fun c b => tabWrite c b x) (used ++ out) 25 c).1 (out ++ [(seek (fun c b => tabWrite c b x) (used ++ out) 25 c).2.1])
      rw [List.length_append] at this
      simp at this ⊢
      omega
    · simp
theorem comp_ok {c c1 c2 : Chip} {s s2 : SM} {o : List Int} {n : Nat} (h1 : tablesM s.m.all (parts 14 (liveE (mergeAll s.tabs))) c [] = (c1, o, 0)) (h2 : noteM c1 s ⟨0, s.m.log, [], o⟩ = (c2, s2, n)) :
    compM c s = (c2, if n = 0 then { s2 with tabs := parts 14 (liveE (mergeAll s.tabs)) } else s2, n) := by
  unfold compM
  rw [h1]
  simp only
  rw [if_neg (by simp), h2]
  simp only
  by_cases hn : n = 0
  · subst hn; rw [if_pos rfl, if_pos rfl]
  · rw [if_neg hn, if_neg hn]
theorem comp_bad {c c1 : Chip} {s : SM} {o : List Int} {n : Nat} (h1 : tablesM s.m.all (parts 14 (liveE (mergeAll s.tabs))) c [] = (c1, o, n)) (hn : n ≠ 0) : compM c s = (c1, s, n) := by
  unfold compM
  rw [h1]
  simp only
  rw [if_pos hn]
theorem StoreR.tabs {B q p : Nat} {w : World} {s : SM} {F : List Nat} (h : StoreR B w q p s F) (t : List (List Ent)) : StoreR B w q p { s with tabs := t } F := h
theorem StoreR.ite {B q p : Nat} {w : World} {s : SM} {F : List Nat} {P : Prop} [Decidable P] (h : StoreR B w q p s F) (t : List (List Ent)) : StoreR B w q p (if P then { s with tabs := t } else s) F := by split <;> exact h
set_option maxRecDepth 20000 in
set_option maxHeartbeats 4000000 in
theorem compact_any (B : Nat) (q p : Nat) (c : Chip) (s : SM) (F : List Nat) (w : World) (h : StoreR B w q p s F) (hc : ChipR B w p c) (hi : Inv c s) :
    Calls Tryz.prog 60 #[.pointer (some ⟨q, 0, none⟩)] w (SPost B q p F w (compM c s)) := by
  have hB0 : B ≤ w.heap.size := Nat.le_of_lt (Nat.lt_of_le_of_lt h.base h.lt)
  have hlt := h.lt
  obtain ⟨hsum, htl⟩ := sum_lists hi
  have hsum2 : sumLen s.tabs ≤ 1000 := by simp only [sumLen, List.map_cons, List.sum_cons] at hsum ⊢; omega
  have hml := mergeAll_len s.tabs
  have hll := liveE_len (mergeAll s.tabs)
  have hpl : (parts 14 (liveE (mergeAll s.tabs))).length ≤ 100 := by rw [parts_len]; omega
  have hnl := hi.body.nwl
  have hol := hi.body.odl
  have hat := hi.head.at_
  have hal : s.m.all.length ≤ 9 := by simp [Man.all]; omega
  have hep0 := (fault_zero.1 hi.body.fault).1
  have hep1 := (fault_zero.1 hi.body.fault).2.1
  have HLI := Lib.hid (lists_any B q p c s F w h hc hi)
  have HS := Lib.hid h
  have HC := Lib.hid hc
  have HUP := Lib.hid hi.up
  have HOK := Lib.hid (parts_ok (rises_live (rises_mergeAll hi.body.tab)) (faults_live hi.body))
  have hlen := tablesM_len s.m.all (parts 14 (liveE (mergeAll s.tabs))) c []
  have hcok := fun c1 c2 s2 o n => comp_ok (c := c) (c1 := c1) (c2 := c2) (s := s) (s2 := s2) (o := o) (n := n)
  have hcbad := fun c1 o n => comp_bad (c := c) (c1 := c1) (s := s) (o := o) (n := n)
  have hx2 : w.cell? ⟨q, 2, none⟩ = some (.int .i64 s.m.log) := by
    obtain ⟨A1, c1, A2, c2, t, n, hk, _⟩ := h
    have := hk.cell 2
    simpa using this
  have HX2 : Hid (∀ W, Fr B (· = p) w W → W.cell? ⟨q, 2, none⟩ = some (.int .i64 s.m.log)) := by
    intro W hf
    obtain ⟨A1, c1, A2, c2, t, n, hk, _⟩ := h.fr hf (h.apart hc)
    have := hk.cell 2
    simpa using this
  generalize hL : liveE (mergeAll s.tabs) = L at *
  have HMA : Hid (liveE (mergeAll s.tabs) = L) := hL
  generalize hT : tablesM s.m.all (parts 14 L) c [] = T at *
  have HT : Hid (tablesM s.m.all (parts 14 L) c [] = T) := hT
  obtain ⟨c1, o, n1⟩ := T
  simp only at hlen
  clear hi h hc hL hT hx2
  go_enter Tryz.func60, Tryz.ntmps60
  go_wp2_with fail
  refine HLI.out.mono ?_
  rintro e w1 ⟨v1, rfl, hv1, hb1⟩
  obtain ⟨A1, k1, rfl, g1, g2, hcell⟩ := hv1.form
  obtain ⟨bb, oo, u, rfl, _⟩ := hcell 0 s.mem rfl
  have HB1 := Lib.hid hb1
  have hk1 : 1 ≤ k1 := by simp at g1; omega
  by_cases hk2 : k1 = 1
  · subst hk2
    have HALL := Lib.hid (all_any B _ s.tabs w1 hv1.cut1 (by omega) (by omega))
    clear hcell hv1 hb1 HLI g1
    rw [List.length_cons]
    go_wp2_with fail
    refine HALL.out.mono ?_
    rintro e w2 ⟨v2, rfl, hv2, hb2⟩
    have HLV := Lib.hid (live_any B v2 _ w2 hv2 (by omega))
    have HB2 := Lib.hid (HB1.out.trans (hb2.mono HB1.out.size))
    clear hv2 hb2 HALL HB1
    go_wp2_with fail
    refine HLV.out.mono ?_
    rintro e w3 ⟨v3, rfl, hv3, hb3⟩
    rw [HMA.out] at hv3
    have HV3 := Lib.hid hv3
    have HB3 := Lib.hid (HB2.out.trans (hb3.mono HB2.out.size))
    have HU := Lib.hid (used_any B q p s F w3 (HS.out.below HB3.out) (by omega) (by omega))
    clear hv3 hb3 HLV HB2
    go_wp2_with fail
    refine HU.out.mono ?_
    rintro e w4 ⟨v4, rfl, hu4, hb4⟩
    have HB4 := Lib.hid (HB3.out.trans (hb4.mono HB3.out.size))
    have HTB := Lib.hid (tables_any B q p c s F v3 v4 L s.m.all w4 (HS.out.below HB4.out) (HC.out.below HB4.out) (HV3.out.below hb4) hu4 HUP.out HOK.out (by omega) (by omega))
    rw [HT.out] at HTB
    simp only at HTB
    have HF4 : Hid (Fr B (· ∈ q :: p :: F) w w4) := Fr.of_below HB4.out
    have HS4 := Lib.hid (HS.out.below HB4.out)
    have HC4 := Lib.hid (HC.out.below HB4.out)
    clear hu4 hb4 HU HV3 HB3
    by_cases hn : n1 = 0
    · subst hn
      rw [show errV 0 = Value.nilIface from rfl] at HTB
      have hol2 : o.length ≤ 100 := by simp at hlen; omega
      have HCOK := Lib.hid (fun c2 s2 n => hcok c1 c2 s2 o n)
      clear hcok hcbad hlen
      go_wp2_with fail
      refine HTB.out.mono ?_
      rintro e w5 ⟨vo, rfl, ho5, hc5, hf5⟩
      obtain ⟨A5, k5, rfl, _, _, kX⟩ := ho5.form
      have hs5 := HS4.out.chip HC4.out hf5
      have x2 := HX2.out w5 ((Fr.of_below HB4.out).trans' hf5 (fun _ _ h => h))
      have HF5 : Hid (Fr B (· ∈ q :: p :: F) w w5) := HF4.out.trans' hf5 (fun b _ e => by subst e; simp)
      have HNT := Lib.hid (snote_any B q p c1 s F (.agg #[.int .i64 0, .int .i64 s.m.log, .slice none 0 0, .slice A5 o.length k5]) ⟨0, s.m.log, [], o⟩ w5 hs5 hc5 ⟨_, _, rfl, Rd.nil _ _ _ _, ho5⟩ (by simp) (by simpa using (by omega : o.length ≤ 1000)) hat (by omega) (by omega))
      clear kX ho5 hc5 hf5 hs5 HTB
      generalize hN : noteM c1 s ⟨0, s.m.log, [], o⟩ = N at *
      obtain ⟨c2, s2, n2⟩ := N
      have HCM := Lib.hid (HCOK.out c2 s2 n2 trivial (by rw [← hN]))
      simp only at HNT
      clear hN
      go_wp2_with fail
      refine HNT.out.mono ?_
      rintro e w6 ⟨rfl, hc6, hs6, hf6⟩
      have HFIN : Hid (ChipR B w6 p c2 ∧ StoreR B w6 q p s2 F ∧ Fr B (· ∈ q :: p :: F) w w6) := ⟨hc6, hs6, HF5.out.trans' hf6 (fun b _ e => by rcases e with rfl | rfl <;> simp)⟩
      clear hc6 hs6 hf6 HNT
      go_wp2_with fail
      go_ret
      rw [HCM.out]
      exact ⟨rfl, HFIN.out.1, ⟨F, HFIN.out.2.1.ite _, fun b hb => .inl hb⟩, HFIN.out.2.2⟩
    · have he := errV_pos hn
      rw [he] at HTB
      have HE := Lib.hid he
      have HCM := Lib.hid (hcbad c1 o n1 rfl hn)
      clear hcok hcbad hn he
      go_wp2_with fail
      refine HTB.out.mono ?_
      rintro e w5 ⟨vo, rfl, ho5, hc5, hf5⟩
      have hs5 := HS4.out.chip HC4.out hf5
      have HFIN : Hid (ChipR B w5 p c1 ∧ StoreR B w5 q p s F ∧ Fr B (· ∈ q :: p :: F) w w5) := ⟨hc5, hs5, HF4.out.trans' hf5 (fun b _ e => by subst e; simp)⟩
      clear ho5 hc5 hf5 hs5 HTB
      go_wp2_with fail
      go_ret
      rw [HCM.out]
      exact ⟨by rw [HE.out]; rfl, HFIN.out.1, ⟨F, HFIN.out.2.1, fun b hb => .inl hb⟩, HFIN.out.2.2⟩
  · have HALL := Lib.hid (all_any B _ s.tabs w1 (hv1.cut2 hk2) (by omega) (by omega))
    clear hcell hv1 hb1 HLI g1
    rw [List.length_cons]
    go_wp2_with fail
    refine HALL.out.mono ?_
    rintro e w2 ⟨v2, rfl, hv2, hb2⟩
    have HLV := Lib.hid (live_any B v2 _ w2 hv2 (by omega))
    have HB2 := Lib.hid (HB1.out.trans (hb2.mono HB1.out.size))
    clear hv2 hb2 HALL HB1
    go_wp2_with fail
    refine HLV.out.mono ?_
    rintro e w3 ⟨v3, rfl, hv3, hb3⟩
    rw [HMA.out] at hv3
    have HV3 := Lib.hid hv3
    have HB3 := Lib.hid (HB2.out.trans (hb3.mono HB2.out.size))
    have HU := Lib.hid (used_any B q p s F w3 (HS.out.below HB3.out) (by omega) (by omega))
    clear hv3 hb3 HLV HB2
    go_wp2_with fail
    refine HU.out.mono ?_
    rintro e w4 ⟨v4, rfl, hu4, hb4⟩
    have HB4 := Lib.hid (HB3.out.trans (hb4.mono HB3.out.size))
    have HTB := Lib.hid (tables_any B q p c s F v3 v4 L s.m.all w4 (HS.out.below HB4.out) (HC.out.below HB4.out) (HV3.out.below hb4) hu4 HUP.out HOK.out (by omega) (by omega))
    rw [HT.out] at HTB
    simp only at HTB
    have HF4 : Hid (Fr B (· ∈ q :: p :: F) w w4) := Fr.of_below HB4.out
    have HS4 := Lib.hid (HS.out.below HB4.out)
    have HC4 := Lib.hid (HC.out.below HB4.out)
    clear hu4 hb4 HU HV3 HB3
    by_cases hn : n1 = 0
    · subst hn
      rw [show errV 0 = Value.nilIface from rfl] at HTB
      have hol2 : o.length ≤ 100 := by simp at hlen; omega
      have HCOK := Lib.hid (fun c2 s2 n => hcok c1 c2 s2 o n)
      clear hcok hcbad hlen
      go_wp2_with fail
      refine HTB.out.mono ?_
      rintro e w5 ⟨vo, rfl, ho5, hc5, hf5⟩
      obtain ⟨A5, k5, rfl, _, _, kX⟩ := ho5.form
      have hs5 := HS4.out.chip HC4.out hf5
      have x2 := HX2.out w5 ((Fr.of_below HB4.out).trans' hf5 (fun _ _ h => h))
      have HF5 : Hid (Fr B (· ∈ q :: p :: F) w w5) := HF4.out.trans' hf5 (fun b _ e => by subst e; simp)
      have HNT := Lib.hid (snote_any B q p c1 s F (.agg #[.int .i64 0, .int .i64 s.m.log, .slice none 0 0, .slice A5 o.length k5]) ⟨0, s.m.log, [], o⟩ w5 hs5 hc5 ⟨_, _, rfl, Rd.nil _ _ _ _, ho5⟩ (by simp) (by simpa using (by omega : o.length ≤ 1000)) hat (by omega) (by omega))
      clear kX ho5 hc5 hf5 hs5 HTB
      generalize hN : noteM c1 s ⟨0, s.m.log, [], o⟩ = N at *
      obtain ⟨c2, s2, n2⟩ := N
      have HCM := Lib.hid (HCOK.out c2 s2 n2 trivial (by rw [← hN]))
      simp only at HNT
      clear hN
      go_wp2_with fail
      refine HNT.out.mono ?_
      rintro e w6 ⟨rfl, hc6, hs6, hf6⟩
      have HFIN : Hid (ChipR B w6 p c2 ∧ StoreR B w6 q p s2 F ∧ Fr B (· ∈ q :: p :: F) w w6) := ⟨hc6, hs6, HF5.out.trans' hf6 (fun b _ e => by rcases e with rfl | rfl <;> simp)⟩
      clear hc6 hs6 hf6 HNT
      go_wp2_with fail
      go_ret
      rw [HCM.out]
      exact ⟨rfl, HFIN.out.1, ⟨F, HFIN.out.2.1.ite _, fun b hb => .inl hb⟩, HFIN.out.2.2⟩
    · have he := errV_pos hn
      rw [he] at HTB
      have HE := Lib.hid he
      have HCM := Lib.hid (hcbad c1 o n1 rfl hn)
      clear hcok hcbad hn he
      go_wp2_with fail
      refine HTB.out.mono ?_
      rintro e w5 ⟨vo, rfl, ho5, hc5, hf5⟩
      have hs5 := HS4.out.chip HC4.out hf5
      have HFIN : Hid (ChipR B w5 p c1 ∧ StoreR B w5 q p s F ∧ Fr B (· ∈ q :: p :: F) w w5) := ⟨hc5, hs5, HF4.out.trans' hf5 (fun b _ e => by subst e; simp)⟩
      clear ho5 hc5 hf5 hs5 HTB
      go_wp2_with fail
      go_ret
      rw [HCM.out]
      exact ⟨by rw [HE.out]; rfl, HFIN.out.1, ⟨F, HFIN.out.2.1, fun b hb => .inl hb⟩, HFIN.out.2.2⟩
end Go.Proofs.YtaepdbkfaoiimabGreatDoor
/- The contracts of store.few, flush. Conditions: the store is sound. -/
set_option linter.unusedVariables false
set_option linter.unusedSimpArgs false
namespace Go.Proofs.YtaepdbkfaoiimabGreatDoor
open Go.RowKit
attribute [local go_sem ↓] eql_err eql_nilerr neq_err neq_nilerr guard_err guard_nilerr guardn_err guardn_nilerr
theorem SPost.refl {B q p : Nat} {F : List Nat} {w : World} {c : Chip} {s : SM} (h : StoreR B w q p s F) (hc : ChipR B w p c) : SPost B q p F w (c, s, 0) (.returned .nilIface) w :=
  ⟨rfl, hc, ⟨F, h, fun b hb => .inl hb⟩, Fr.refl _ _ _⟩
set_option maxRecDepth 20000 in
set_option maxHeartbeats 4000000 in
theorem few_any (B : Nat) (q p : Nat) (c : Chip) (s : SM) (F : List Nat) (w : World) (h : StoreR B w q p s F) (hc : ChipR B w p c) (hi : Inv c s) :
    Calls Tryz.prog 101 #[.pointer (some ⟨q, 0, none⟩)] w (SPost B q p F w (fewM c s)) := by
  have HCO := Lib.hid (compact_any B q p c s F w h hc hi)
  have HRE := Lib.hid (SPost.refl h hc)
  obtain ⟨A1, c1, A2, c2, t, n, hk, _⟩ := h
  have x3 := hk.cell 3
  simp at x3
  clear hk hc hi
  by_cases h3 : s.m.nw.length < 3
  · have HF : Hid (fewM c s = (c, s, 0)) := if_pos h3
    have t9 : decide ((s.m.nw.length : Int) < 3) = true := decide_eq_true (by omega)
    clear h3 HCO
    go_enter Tryz.func101, Tryz.ntmps101
    go_wp2_with fail
    go_ret
    rw [HF.out]
    exact HRE.out
  · have HF : Hid (fewM c s = compM c s) := if_neg h3
    have t9 : decide ((s.m.nw.length : Int) < 3) = false := decide_eq_false (by omega)
    rw [← HF.out] at HCO
    clear h3 HF HRE
    go_enter Tryz.func101, Tryz.ntmps101
    go_wp2_with fail
    refine HCO.out.mono ?_
    rintro e w1 ⟨rfl, hr⟩
    have HR := Lib.hid hr
    clear hr HCO
    go_wp2_with fail
    go_ret
    exact ⟨rfl, HR.out⟩
theorem lay_facts {c : Chip} {s : SM} (h : Inv c s) : ∀ c1 o n1, tablesM s.m.all (parts 14 s.mem) c [] = (c1, o, n1) → n1 = 0 → c1.down = false ∧ o.length ≤ 3 := by
  intro c1 o n1 he hn
  have hb := h.body
  have hml := Fallen.mem_len h
  obtain ⟨es, hlog⟩ := hb.log
  have hpl : (parts 14 s.mem).length ≤ 3 := by rw [parts_len]; omega
  obtain ⟨c1', o', n1', e1, w1, x1, f1, g1⟩ := tables_calm s.m.all (parts 14 s.mem) c [] h.wf h.up hb.weak (by
    have := hb.odl
    have := hb.nwl
    simp [Man.all]; omega) (parts_ok hb.mem hlog.fault)
  have hlen := tablesM_len s.m.all (parts 14 s.mem) c []
  rw [he] at e1 hlen
  simp only [List.length_nil] at hlen
  cases e1
  rcases g1 with ⟨_, d1, _⟩ | ⟨h9, _⟩
  · exact ⟨d1, by omega⟩
  · omega
theorem lay_bad1 {c c1 : Chip} {s : SM} {o : List Int} {n : Nat} (h1 : tablesM s.m.all (parts 14 s.mem) c [] = (c1, o, n)) (hn : n ≠ 0) : layM c s = (c1, s, n) := by
  unfold layM
  rw [h1]
  simp only
  rw [if_pos hn]
theorem lay_bad2 {c c1 c2 : Chip} {s : SM} {o : List Int} {b : Int} {n : Nat} (h1 : tablesM s.m.all (parts 14 s.mem) c [] = (c1, o, 0)) (h2 : blankM (s.m.all ++ o) c1 = (c2, b, n)) (hn : n ≠ 0) : layM c s = (c2, s, n) := by
  unfold layM
  rw [h1]
  simp only
  rw [if_neg (by simp), h2]
  simp only
  rw [if_pos hn]
theorem lay_ok {c c1 c2 c3 : Chip} {s s3 : SM} {o : List Int} {b : Int} {n : Nat} (h1 : tablesM s.m.all (parts 14 s.mem) c [] = (c1, o, 0)) (h2 : blankM (s.m.all ++ o) c1 = (c2, b, 0)) (h3 : noteM c2 s ⟨0, b, o ++ s.m.nw, s.m.od⟩ = (c3, s3, n)) :
    layM c s = (c3, if n = 0 then { s3 with mem := [], tabs := parts 14 s.mem ++ s.tabs } else s3, n) := by
  unfold layM
  rw [h1]
  simp only
  rw [if_neg (by simp), h2]
  simp only
  rw [if_neg (by simp), h3]
  simp only
  by_cases hn : n = 0
  · subst hn; rw [if_pos rfl, if_pos rfl]
  · rw [if_neg hn, if_neg hn]
/-- What is at hand is another tower. -/
theorem store_mem {B q p t' : Nat} {w : World} {s : SM} {F F' : List Nat} {c : Chip} (h : StoreR B w q p s F) (hc : ChipR B w p c) (ht : Tower B w t' [] F') (hF : q ∉ F') (tb : List (List Ent)) :
    StoreR B (w.setCell ⟨q, 6, none⟩ (.pointer (some ⟨t', 0, none⟩))) q p { s with mem := [], tabs := tb } F' ∧ ChipR B (w.setCell ⟨q, 6, none⟩ (.pointer (some ⟨t', 0, none⟩))) p c ∧ Fr B (· = q) w (w.setCell ⟨q, 6, none⟩ (.pointer (some ⟨t', 0, none⟩))) := by
  have hqp := h.apart hc q (by simp)
  obtain ⟨A1, c1, A2, c2, t, n, hk, hn, ho, _, hB, _⟩ := h
  have hmut : ∃ cs T fz, w.heap[q]? = some (.cells cs T fz) ∧ mutT T = true := ⟨_, _, _, hk, by decide⟩
  have hf : Fr B (· = q) w (w.setCell ⟨q, 6, none⟩ (.pointer (some ⟨t', 0, none⟩))) := (Fr.refl B (· = q) w).setCell (p := ⟨q, 6, none⟩) hB (.inl rfl) (fun _ => hmut) _
  exact ⟨⟨A1, c1, A2, c2, t', n, hk.set_ 6 _, hn.fr hf, ho.fr hf, ht.fr hf (fun b hb e => hF (e ▸ hb)), hB, hF⟩, hc.keep hf (fun e => hqp e.symm), hf⟩
set_option maxRecDepth 20000 in
set_option maxHeartbeats 4000000 in
theorem lay_any (B : Nat) (q p : Nat) (c : Chip) (s : SM) (F : List Nat) (w : World) (h : StoreR B w q p s F) (hc : ChipR B w p c) (hi : Inv c s) :
    Calls Tryz.prog 102 #[.pointer (some ⟨q, 0, none⟩)] w (SPost B q p F w (layM c s)) := by
  have hlt := h.lt
  have hqB := h.base
  have hqp := h.apart hc q (by simp)
  have hml := Fallen.mem_len hi
  have hnl := hi.body.nwl
  have hol := hi.body.odl
  have hat := hi.head.at_
  have hal : s.m.all.length ≤ 9 := by simp [Man.all]; omega
  have hep0 := (fault_zero.1 hi.body.fault).1
  have hep1 := (fault_zero.1 hi.body.fault).2.1
  have hfacts := lay_facts hi
  have HUP := Lib.hid hi.up
  obtain ⟨es, hlog⟩ := hi.body.log
  have HOK := Lib.hid (parts_ok hi.body.mem hlog.fault)
  have hb1 := fun c1 o n => lay_bad1 (c := c) (c1 := c1) (s := s) (o := o) (n := n)
  have hb2 := fun c1 c2 o b n => lay_bad2 (c := c) (c1 := c1) (c2 := c2) (s := s) (o := o) (b := b) (n := n)
  have hb3 := fun c1 c2 c3 s3 o b n => lay_ok (c := c) (c1 := c1) (c2 := c2) (c3 := c3) (s := s) (s3 := s3) (o := o) (b := b) (n := n)
  have HS := Lib.hid h
  have HC := Lib.hid hc
  obtain ⟨A1, c1', A2, c2', t, n, hk, hn, ho, ht, hqF0, hqF⟩ := h
  have HTA := Lib.hid (tall_any B t s.mem F w ht (by omega))
  have x6 := hk.cell 6
  simp at x6
  generalize hT : tablesM s.m.all (parts 14 s.mem) c [] = T at *
  obtain ⟨c1, o, n1⟩ := T
  have HT : Hid (tablesM s.m.all (parts 14 s.mem) c [] = (c1, o, n1)) := hT
  have HFA := Lib.hid (hfacts c1 o n1 rfl)
  have HB1 := Lib.hid (hb1 c1 o n1 rfl)
  have HB2 := Lib.hid (fun c2 b n => hb2 c1 c2 o b n)
  have HB3 := Lib.hid (fun c2 c3 s3 b n => hb3 c1 c2 c3 s3 o b n)
  have HK := Lib.hid (And.intro hk (And.intro hn ho))
  clear hi hc hk hn ho ht hfacts hb1 hb2 hb3 hT hlog
  go_enter Tryz.func102, Tryz.ntmps102
  go_wp2_with fail
  refine HTA.out.mono ?_
  rintro e w1 ⟨v1, rfl, hv1, hw1⟩
  have HV1 := Lib.hid hv1
  have HW1 := Lib.hid hw1
  have HU := Lib.hid (used_any B q p s F w1 (HS.out.below hw1) (by omega) (by omega))
  clear hv1 hw1 HTA x6
  go_wp2_with fail
  refine HU.out.mono ?_
  rintro e w4 ⟨v4, rfl, hu4, hb4⟩
  have HB4 := Lib.hid (HW1.out.trans (hb4.mono HW1.out.size))
  have HTB := Lib.hid (tables_any B q p c s F v1 v4 s.mem s.m.all w4 (HS.out.below HB4.out) (HC.out.below HB4.out) (HV1.out.below hb4) hu4 HUP.out HOK.out (by omega) (by omega))
  rw [HT.out] at HTB
  simp only at HTB
  have HF4 : Hid (Fr B (· ∈ q :: p :: F) w w4) := Fr.of_below HB4.out
  have HS4 := Lib.hid (HS.out.below HB4.out)
  have HC4 := Lib.hid (HC.out.below HB4.out)
  clear hu4 hb4 HU HV1 HW1
  by_cases hn : n1 = 0
  case neg =>
    have he := errV_pos hn
    rw [he] at HTB
    have HE := Lib.hid he
    have HCM := Lib.hid (HB1.out hn)
    clear hn he
    go_wp2_with fail
    refine HTB.out.mono ?_
    rintro e w5 ⟨vo, rfl, ho5, hc5, hf5⟩
    have hs5 := HS4.out.chip HC4.out hf5
    have HFIN : Hid (ChipR B w5 p c1 ∧ StoreR B w5 q p s F ∧ Fr B (· ∈ q :: p :: F) w w5) := ⟨hc5, hs5, HF4.out.trans' hf5 (fun b _ e => by subst e; simp)⟩
    clear ho5 hc5 hf5 hs5 HTB
    go_wp2_with fail
    go_ret
    rw [HCM.out]
    exact ⟨by rw [HE.out]; rfl, HFIN.out.1, ⟨F, HFIN.out.2.1, fun b hb => .inl hb⟩, HFIN.out.2.2⟩
  subst hn
  obtain ⟨hd1, hol3⟩ := HFA.out rfl
  have HD1 := Lib.hid hd1
  rw [show errV 0 = Value.nilIface from rfl] at HTB
  clear hd1 HB1 HFA
  go_wp2_with fail
  refine HTB.out.mono ?_
  rintro e w5 ⟨vo, rfl, ho5, hc5, hf5⟩
  obtain ⟨A5, k5, rfl, _, _, kX⟩ := ho5.form
  have HS5 := Lib.hid (HS4.out.chip HC4.out hf5)
  have HF5 : Hid (Fr B (· ∈ q :: p :: F) w w5) := HF4.out.trans' hf5 (fun b _ e => by subst e; simp)
  have HC5 := Lib.hid hc5
  have HO5 := Lib.hid ho5
  have HK5 : Hid (∀ w', Fr B (· = p) w5 w' → (w'.cell? ⟨q, 0, none⟩ = some (.pointer (some ⟨p, 0, none⟩)) ∧ Fr B (· = p) w5 w')) := by
    intro w' hf
    have hf0 : Fr B (· = p) w w' := ((Fr.of_below HB4.out).trans' hf5 (fun _ _ h => h)).trans' hf (fun _ _ h => h)
    have h0 := (HK.out.1.fr hf0 (.inr (.inl hqp))).cell 0
    simp at h0
    exact ⟨h0, hf⟩
  have HU5 := Lib.hid (used_any B q p s F w5.drew (HS5.out.drewN 1) (by omega) (by omega))
  have HF0 : Hid (Fr B (· = p) w5 w5.drew) := (Fr.refl _ _ _).drewN 1
  clear kX ho5 hc5 hf5 HTB HS4 HC4 HF4 HB4
  generalize hBL : blankM (s.m.all ++ o) c1 = BL at *
  obtain ⟨c2, b2, n2⟩ := BL
  have HBL : Hid (blankM (s.m.all ++ o) c1 = (c2, b2, n2)) := hBL
  have HB2' := Lib.hid (HB2.out c2 b2 n2)
  clear hBL
  by_cases hn2 : n2 = 0
  case neg =>
    have he := errV_pos hn2
    have HE := Lib.hid he
    have HCM := Lib.hid (HB2'.out trivial rfl hn2)
    clear he hn2
    go_wp2_with fail
    go_region_held3 (fun w' => (w'.cell? ⟨q, 0, none⟩ = some (.pointer (some ⟨p, 0, none⟩)) ∧ Fr B (· = p) w5 w'))
      ((first
        | exact HK5.out _ hF8
        | exact HK5.out _ hF7
        | exact HK5.out _ (Fr.alloc hF6 _)
        | exact HK5.out _ hF6
        | exact HK5.out _ HF0.out))
      ((first
        | (go_at_call 107; refine HU5.out.mono ?_; rintro e w6 ⟨v6, rfl, hu6, hb6⟩; obtain ⟨A6, k6, rfl, _, _, kX⟩ := hu6.form; have hF6 : Fr B (· = p) w5 w6 := HF0.out.trans' (Fr.of_below (B := B) (M := (· = p)) hb6) (fun _ _ h => h))
        | (go_at_call 49; refine (concat_rd B w6.heap.size _ _ s.m.all o _ (Blk.new w6 _ _) (hu6.below ((Below.refl _ _).alloc (Nat.le_refl _) _)) ((HO5.out.fr hF6).below ((Below.refl _ _).alloc (Nat.le_refl _) _)) (by omega) (by omega)).mono ?_; rintro e w7 ⟨v7, rfl, hu7, hb7⟩; have hF7 : Fr B (· = p) w5 w7 := (Fr.alloc hF6 _).trans' (Fr.of_below (B := B) (M := (· = p)) hb7) (fun _ _ h => h))
        | (go_at_call 22; refine (blank_any B p c1 v7 (s.m.all ++ o) w7 ((((HC5.out.drewN 1).below hb6).below ((Below.refl _ _).alloc (Nat.le_refl _) _)).below hb7) hu7 HD1.out).mono ?_; rw [HBL.out]; rintro e w8 ⟨rfl, hc8, hf8⟩; rw [HE.out]; have hF8 : Fr B (· = p) w5 w8 := hF7.trans' hf8 (fun _ _ h => h))))
    have HFIN : Hid (ChipR B w8 p c2 ∧ StoreR B w8 q p s F ∧ Fr B (· ∈ q :: p :: F) w w8) := ⟨hc8, HS5.out.chip HC5.out hF8, HF5.out.trans' hF8 (fun b _ e => by subst e; simp)⟩
    clear hc8 hf8 hF8 hF7 hF6 hb7 hb6 hu6 hu7
    go_wp2_with fail
    go_ret
    rw [HCM.out]
    exact ⟨by rw [HE.out]; rfl, HFIN.out.1, ⟨F, HFIN.out.2.1, fun b hb => .inl hb⟩, HFIN.out.2.2⟩
  subst hn2
  go_wp2_with fail
  go_region_held3 (fun w' => (w'.cell? ⟨q, 0, none⟩ = some (.pointer (some ⟨p, 0, none⟩)) ∧ Fr B (· = p) w5 w'))
    ((first
      | exact HK5.out _ hF8
      | exact HK5.out _ hF7
      | exact HK5.out _ (Fr.alloc hF6 _)
      | exact HK5.out _ hF6
      | exact HK5.out _ HF0.out))
    ((first
      | (go_at_call 107; refine HU5.out.mono ?_; rintro e w6 ⟨v6, rfl, hu6, hb6⟩; obtain ⟨A6, k6, rfl, _, _, kX⟩ := hu6.form; have hF6 : Fr B (· = p) w5 w6 := HF0.out.trans' (Fr.of_below (B := B) (M := (· = p)) hb6) (fun _ _ h => h))
      | (go_at_call 49; refine (concat_rd B w6.heap.size _ _ s.m.all o _ (Blk.new w6 _ _) (hu6.below ((Below.refl _ _).alloc (Nat.le_refl _) _)) ((HO5.out.fr hF6).below ((Below.refl _ _).alloc (Nat.le_refl _) _)) (by omega) (by omega)).mono ?_; rintro e w7 ⟨v7, rfl, hu7, hb7⟩; have hF7 : Fr B (· = p) w5 w7 := (Fr.alloc hF6 _).trans' (Fr.of_below (B := B) (M := (· = p)) hb7) (fun _ _ h => h))
      | (go_at_call 22; refine (blank_any B p c1 v7 (s.m.all ++ o) w7 ((((HC5.out.drewN 1).below hb6).below ((Below.refl _ _).alloc (Nat.le_refl _) _)).below hb7) hu7 HD1.out).mono ?_; rw [HBL.out]; rintro e w8 ⟨rfl, hc8, hf8⟩; rw [show errV 0 = Value.nilIface from rfl]; have hF8 : Fr B (· = p) w5 w8 := hF7.trans' hf8 (fun _ _ h => h))))
  have HS8 := Lib.hid (HS5.out.chip HC5.out hF8)
  have HC8 := Lib.hid hc8
  have HF8 : Hid (Fr B (· ∈ q :: p :: F) w w8) := HF5.out.trans' hF8 (fun b _ e => by subst e; simp)
  have HO8 := Lib.hid (HO5.out.fr hF8)
  clear hc8 hf8 hF8 hF7 hF6 hb7 hb6 hu6 hu7 HK5 HU5 HF0 HF5 HC5 HO5 HS5 HK
  obtain ⟨A1, c1', A2, c2', t, n, hk8, hn8, ho8, _, _, _⟩ := HS8.out
  have x3 := hk8.cell 3
  have x4 := hk8.cell 4
  simp at x3 x4
  have hq8 := hk8.lt
  have HN8 := Lib.hid hn8
  have HO8' := Lib.hid ho8
  have HX8 : Hid (∀ W, Below w8.heap.size w8 W → q < W.heap.size ∧ W.cell? ⟨q, 3, none⟩ = some (.slice A1 s.m.nw.length c1') ∧ W.cell? ⟨q, 4, none⟩ = some (.slice A2 s.m.od.length c2')) := by
    intro W hW
    have h := hk8.below hW hk8.lt
    have y3 := h.cell 3
    have y4 := h.cell 4
    simp at y3 y4
    exact ⟨h.lt, y3, y4⟩
  clear hk8 hn8 ho8
  have HB8 : Hid (Below w8.heap.size w8 (w8.alloc (.cells #[.slice A5 o.length k5, .slice A1 s.m.nw.length c1'] 72)).drew) := ((Below.refl _ _).alloc (Nat.le_refl _) _).drew
  have HCC := Lib.hid (concat_rd B w8.heap.size (.slice A5 o.length k5) (.slice A1 s.m.nw.length c1') o s.m.nw (w8.alloc (.cells #[.slice A5 o.length k5, .slice A1 s.m.nw.length c1'] 72)).drew ((Blk.new w8 72 #[.slice A5 o.length k5, .slice A1 s.m.nw.length c1']).drewN 1) (HO8.out.below HB8.out) (HN8.out.below HB8.out) (by omega) (by omega))
  generalize hN : noteM c2 s ⟨0, b2, o ++ s.m.nw, s.m.od⟩ = N at *
  obtain ⟨c3, s3, n3⟩ := N
  have HN : Hid (noteM c2 s ⟨0, b2, o ++ s.m.nw, s.m.od⟩ = (c3, s3, n3)) := hN
  have HCM := Lib.hid (HB3.out c2 c3 s3 b2 n3 trivial rfl HN.out)
  have hle : (o ++ s.m.nw).length = o.length + s.m.nw.length := List.length_append
  have HLE := Lib.hid hle
  have HL2 : Hid ((o ++ s.m.nw).length ≤ 1000 ∧ s.m.od.length ≤ 1000 ∧ 0 ≤ s.m.ep ∧ s.m.ep ≤ 1000000) := ⟨by omega, by omega, by omega, by omega⟩
  clear hN hle
  by_cases hn3 : n3 = 0
  · subst hn3
    go_wp2_with fail
    go_region_with (first
      | (go_at_call 49; refine HCC.out.mono ?_; rintro e w9 ⟨v9, rfl, hu9, hb9⟩; obtain ⟨A9, k9, rfl, _, _, kX⟩ := hu9.form; obtain ⟨hl9, z3, z4⟩ := HX8.out w9 (HB8.out.trans (hb9.mono HB8.out.size)); rw [HLE.out] at hu9 ⊢)
      | (go_at_call 108; refine (snote_any B q p c2 s F _ ⟨0, b2, o ++ s.m.nw, s.m.od⟩ w9 (HS8.out.below (HB8.out.trans (hb9.mono HB8.out.size))) (HC8.out.below (HB8.out.trans (hb9.mono HB8.out.size))) ⟨_, _, rfl, hu9, HO8'.out.below (HB8.out.trans (hb9.mono HB8.out.size))⟩ HL2.out.1 HL2.out.2.1 hat HL2.out.2.2.1 HL2.out.2.2.2).mono ?_; rw [HN.out]; rintro e w10 ⟨rfl, hc10, hs10, hf10⟩; rw [show errV 0 = Value.nilIface from rfl]))
    all_goals
      have HS10 := Lib.hid hs10
      have HC10 := Lib.hid hc10
      have hw9 := HB8.out.trans (hb9.mono HB8.out.size)
      have HF10 : Hid (Fr B (· ∈ q :: p :: F) w w10) := (HF8.out.trans' (Fr.of_below (B := B) (M := (· ∈ q :: p :: F)) hw9) (fun _ _ h => h)).trans' hf10 (fun b _ e => by rcases e with rfl | rfl <;> simp)
      clear hs10 hc10 hf10 hu9 hb9 kX z3 z4 hl9 hw9
      have HTN := Lib.hid (tnew_any B w10 (Nat.le_of_lt (Nat.lt_of_le_of_lt HS10.out.base HS10.out.lt)))
      go_wp2_with fail
      refine HTN.out.mono ?_
      rintro e w11 ⟨⟨rfl, ht11⟩, hb11⟩
      have hs11 := HS10.out.below hb11
      have hc11 := HC10.out.below hb11
      have HQ : Hid (q ∉ [w10.heap.size]) := fun hm => by have h1 := HS10.out.lt; rw [List.mem_singleton] at hm; omega
      have HFS := Lib.hid (store_mem hs11 hc11 ht11 HQ.out (parts 14 s.mem ++ s.tabs))
      have HF11 : Hid (Fr B (· ∈ q :: p :: F) w w11) := HF10.out.trans' (Fr.of_below (B := B) (M := (· ∈ q :: p :: F)) hb11) (fun _ _ h => h)
      obtain ⟨A7, c7, A8, c8, t7, n7, hk11, _⟩ := hs11
      have y6 := hk11.cell 6
      have f6 := hk11.frozen 6
      simp at y6
      have HW10 : Hid (w.heap.size ≤ w10.heap.size) := HF10.out.size
      clear hk11 hc11 ht11 hb11 HTN
      go_wp2_with fail
      go_ret
      rw [HCM.out]
      exact ⟨rfl, HFS.out.2.1, ⟨_, HFS.out.1, fun b hb => by simp at hb; subst hb; exact .inr HW10.out⟩, HF11.out.trans' HFS.out.2.2 (fun b _ e => by subst e; simp)⟩
  · have he := errV_pos hn3
    have HE := Lib.hid he
    clear he
    go_wp2_with fail
    go_region_with (first
      | (go_at_call 49; refine HCC.out.mono ?_; rintro e w9 ⟨v9, rfl, hu9, hb9⟩; obtain ⟨A9, k9, rfl, _, _, kX⟩ := hu9.form; obtain ⟨hl9, z3, z4⟩ := HX8.out w9 (HB8.out.trans (hb9.mono HB8.out.size)); rw [HLE.out] at hu9 ⊢)
      | (go_at_call 108; refine (snote_any B q p c2 s F _ ⟨0, b2, o ++ s.m.nw, s.m.od⟩ w9 (HS8.out.below (HB8.out.trans (hb9.mono HB8.out.size))) (HC8.out.below (HB8.out.trans (hb9.mono HB8.out.size))) ⟨_, _, rfl, hu9, HO8'.out.below (HB8.out.trans (hb9.mono HB8.out.size))⟩ HL2.out.1 HL2.out.2.1 hat HL2.out.2.2.1 HL2.out.2.2.2).mono ?_; rw [HN.out]; rintro e w10 ⟨rfl, hc10, hs10, hf10⟩; rw [HE.out]))
    all_goals
      have HS10 := Lib.hid hs10
      have HC10 := Lib.hid hc10
      have hw9 := HB8.out.trans (hb9.mono HB8.out.size)
      have HF10 : Hid (Fr B (· ∈ q :: p :: F) w w10) := (HF8.out.trans' (Fr.of_below (B := B) (M := (· ∈ q :: p :: F)) hw9) (fun _ _ h => h)).trans' hf10 (fun b _ e => by rcases e with rfl | rfl <;> simp)
      clear hs10 hc10 hf10 hu9 hb9 kX z3 z4 hl9 hw9
      have HN3 := Lib.hid hn3
      clear hn3
      go_wp2_with fail
      go_ret
      rw [HCM.out]
      refine ⟨by rw [HE.out]; rfl, HC10.out, ⟨F, ?_, fun b hb => .inl hb⟩, HF10.out⟩
      simp only
      rw [if_neg HN3.out]
      exact HS10.out
end Go.Proofs.YtaepdbkfaoiimabGreatDoor
/- The contracts of store.Flush, Check, room. Conditions: the store is sound. -/
set_option linter.unusedVariables false
set_option linter.unusedSimpArgs false
namespace Go.Proofs.YtaepdbkfaoiimabGreatDoor
open Go.RowKit
attribute [local go_sem ↓] eql_err eql_nilerr neq_err neq_nilerr guard_err guard_nilerr guardn_err guardn_nilerr
theorem SPost.step {B q p : Nat} {F F1 : List Nat} {w w1 w2 : World} {r : Chip × SM × Nat} {e : Ending} (hf : Fr B (· ∈ q :: p :: F) w w1) (hF : ∀ b ∈ F1, b ∈ F ∨ w.heap.size ≤ b) (h : SPost B q p F1 w1 r e w2) : SPost B q p F w r e w2 := by
  obtain ⟨he, hc, ⟨F2, hs, hF2⟩, hf2⟩ := h
  refine ⟨he, hc, ⟨F2, hs, fun b hb => (hF2 b hb).elim (hF b) (fun h => .inr (Nat.le_trans hf.size h))⟩, hf.trans' hf2 (fun b hb hm => ?_)⟩
  rcases List.mem_cons.1 hm with rfl | hm
  · simp
  · rcases List.mem_cons.1 hm with rfl | hm
    · simp
    · rcases hF b hm with h | h
      · simp [h]
      · omega
theorem flush_1 {c c1 : Chip} {s s1 : SM} {n : Nat} (h : fewM c s = (c1, s1, n)) (hn : n ≠ 0) : flushM c s = (c1, s1, n) := by
  unfold flushM
  rw [h]
  simp only
  rw [if_pos hn]
theorem flush_2 {c c1 c2 : Chip} {s s1 s2 : SM} {n : Nat} (h : fewM c s = (c1, s1, 0)) (h2 : layM c1 s1 = (c2, s2, n)) (hn : n ≠ 0) : flushM c s = (c2, s2, n) := by
  unfold flushM
  rw [h]
  simp only
  rw [if_neg (by simp), h2]
  simp only
  rw [if_pos hn]
theorem flush_3 {c c1 c2 : Chip} {s s1 s2 : SM} (h : fewM c s = (c1, s1, 0)) (h2 : layM c1 s1 = (c2, s2, 0)) : flushM c s = fewM c2 s2 := by
  unfold flushM
  rw [h]
  simp only
  rw [if_neg (by simp), h2]
  simp only
  rw [if_neg (by simp)]
set_option maxRecDepth 20000 in
set_option maxHeartbeats 4000000 in
theorem flush_any (B : Nat) (q p : Nat) (c : Chip) (s : SM) (F : List Nat) (w : World) (h : StoreR B w q p s F) (hc : ChipR B w p c) (hi : Inv c s) (hep : s.m.ep + 3 ≤ 100000) :
    Calls Tryz.prog 59 #[.pointer (some ⟨q, 0, none⟩)] w (SPost B q p F w (flushM c s)) := by
  obtain ⟨c1, s1, n1, e1, _, g1⟩ := few_calm hi (by omega)
  have h1 := few_any B q p c s F w h hc hi
  rw [e1] at h1
  have hx1 := flush_1 e1
  have hx2 := fun c2 s2 n => flush_2 (c := c) (c1 := c1) (c2 := c2) (s := s) (s1 := s1) (s2 := s2) (n := n)
  have hx3 := fun c2 s2 => flush_3 (c := c) (c1 := c1) (c2 := c2) (s := s) (s1 := s1) (s2 := s2)
  by_cases hn : n1 = 0
  case neg =>
    have HE := Lib.hid (errV_pos hn)
    have HX := Lib.hid (hx1 hn)
    have H1 := Lib.hid h1
    clear hx1 hx2 hx3 hn h1 g1 e1 hi h hc
    go_enter Tryz.func59, Tryz.ntmps59
    go_wp2_with fail
    refine H1.out.mono ?_
    rintro e w1 ⟨rfl, hr⟩
    have HR := Lib.hid hr
    clear hr H1
    simp only
    rw [HE.out]
    go_wp2_with fail
    go_ret
    rw [HX.out]
    exact ⟨by rw [HE.out]; rfl, HR.out⟩
  subst hn
  rcases g1 with ⟨_, hi1, hrw1, hep1, hep2, _, _, hnw1, _⟩ | ⟨h9, _⟩
  case inr => omega
  obtain ⟨c2, s2, n2, e2, _, g2⟩ := lay_calm hi1 (by omega) hnw1
  have HL := Lib.hid (fun w F h hc => lay_any B q p c1 s1 F w h hc hi1)
  rw [e2] at HL
  have H1 := Lib.hid h1
  by_cases hn2 : n2 = 0
  case neg =>
    have HE := Lib.hid (errV_pos hn2)
    have HX := Lib.hid (hx2 c2 s2 n2 e1 e2 hn2)
    clear hx1 hx2 hx3 hn2 h1 g2 e1 e2 hi hi1 h hc
    go_enter Tryz.func59, Tryz.ntmps59
    go_wp2_with fail
    refine H1.out.mono ?_
    rintro e w1 ⟨rfl, hc1, ⟨F1, hs1, hF1⟩, hf1⟩
    have HF1 := Lib.hid (And.intro hf1 hF1)
    have HL1 := Lib.hid (HL.out w1 F1 hs1 hc1)
    clear hc1 hs1 hF1 hf1 H1 HL
    simp only
    rw [show errV 0 = Value.nilIface from rfl]
    go_wp2_with fail
    refine HL1.out.mono ?_
    rintro e w2 ⟨rfl, hr⟩
    have HR := Lib.hid hr
    clear hr HL1
    simp only
    rw [HE.out]
    go_wp2_with fail
    go_ret
    rw [HX.out]
    exact SPost.step HF1.out.1 HF1.out.2 ⟨by rw [HE.out]; rfl, HR.out⟩
  subst hn2
  rcases g2 with ⟨_, hi2, hrw2, hep3, _⟩ | ⟨h9, _⟩
  case inr => omega
  have HX := Lib.hid (hx3 c2 s2 e1 e2)
  have HW := Lib.hid (fun w F h hc => few_any B q p c2 s2 F w h hc hi2)
  clear hx1 hx2 hx3 h1 e1 e2 hi hi1 hi2 h hc
  go_enter Tryz.func59, Tryz.ntmps59
  go_wp2_with fail
  refine H1.out.mono ?_
  rintro e w1 ⟨rfl, hc1, ⟨F1, hs1, hF1⟩, hf1⟩
  have HF1 := Lib.hid (And.intro hf1 hF1)
  have HL1 := Lib.hid (HL.out w1 F1 hs1 hc1)
  clear hc1 hs1 hF1 hf1 H1 HL
  simp only
  rw [show errV 0 = Value.nilIface from rfl]
  go_wp2_with fail
  refine HL1.out.mono ?_
  rintro e w2 ⟨rfl, hc2, ⟨F2, hs2, hF2⟩, hf2⟩
  have HF2 := Lib.hid (And.intro hf2 hF2)
  have HW2 := Lib.hid (HW.out w2 F2 hs2 hc2)
  clear hc2 hs2 hF2 hf2 HL1 HW
  simp only
  rw [show errV 0 = Value.nilIface from rfl]
  go_wp2_with fail
  refine HW2.out.mono ?_
  rintro e w3 ⟨rfl, hr⟩
  have HR := Lib.hid hr
  clear hr HW2
  go_wp2_with fail
  go_ret
  rw [HX.out]
  exact SPost.step HF1.out.1 HF1.out.2 (SPost.step HF2.out.1 HF2.out.2 ⟨rfl, HR.out⟩)
set_option maxRecDepth 20000 in
set_option maxHeartbeats 4000000 in
theorem room_any (B : Nat) (q p : Nat) (c : Chip) (s : SM) (F : List Nat) (w : World) (h : StoreR B w q p s F) (hc : ChipR B w p c) (hi : Inv c s) (hep : s.m.ep + 3 ≤ 100000) :
    Calls Tryz.prog 97 #[.pointer (some ⟨q, 0, none⟩)] w (SPost B q p F w (roomM c s)) := by
  have hrg := hi.body.rng s.m.log (by simp [Man.all])
  have HNX := Lib.hid (next_any B p c s.m.log w.drew (hc.drewN 1) (by omega) (by omega))
  have HFL := Lib.hid (flush_any B q p c s F w.drew (h.drewN 1) (hc.drewN 1) hi hep)
  have HRE : Hid (SPost B q p F w (c, s, 0) (.returned .nilIface) w.drew) := ⟨rfl, hc.drewN 1, ⟨F, h.drewN 1, fun b hb => .inl hb⟩, (Fr.refl _ _ _).drewN 1⟩
  obtain ⟨A1, c1, A2, c2, t, n, hk, _⟩ := h
  have x0 := hk.cell 0
  have x2 := hk.cell 2
  simp at x0 x2
  have HS : Hid (w.drew.cell? ⟨q, 0, none⟩ = some (.pointer (some ⟨p, 0, none⟩)) ∧ w.drew.cell? ⟨q, 2, none⟩ = some (.int .i64 s.m.log)) := ⟨x0, x2⟩
  have HF0 : Hid (Fr B (· ∈ q :: p :: F) w w.drew) := (Fr.refl _ _ _).drewN 1
  clear hk hc hi
  by_cases h8 : (c.b s.m.log.toNat).l.length < 8
  · have HR : Hid (roomM c s = (c, s, 0)) := if_pos h8
    have t13 : decide (((c.b s.m.log.toNat).l.length : Int) < 8) = true := decide_eq_true (by omega)
    clear h8 HFL
    go_enter Tryz.func97, Tryz.ntmps97
    go_wp2_with fail
    go_region_held3 (fun w' => w'.cell? ⟨q, 0, none⟩ = some (.pointer (some ⟨p, 0, none⟩)) ∧ w'.cell? ⟨q, 2, none⟩ = some (.int .i64 s.m.log))
      ((first | exact HS.out | assumption))
      ((first | (go_at_call 45; refine HNX.out.mono ?_; rintro e w2 ⟨rfl, rfl⟩)))
    go_wp2_with fail
    go_ret
    rw [HR.out]
    exact HRE.out
  · have HR : Hid (roomM c s = flushM c s) := if_neg h8
    have t13 : decide (((c.b s.m.log.toNat).l.length : Int) < 8) = false := decide_eq_false (by omega)
    clear h8 HRE
    go_enter Tryz.func97, Tryz.ntmps97
    go_wp2_with fail
    go_region_held3 (fun w' => w'.cell? ⟨q, 0, none⟩ = some (.pointer (some ⟨p, 0, none⟩)) ∧ w'.cell? ⟨q, 2, none⟩ = some (.int .i64 s.m.log))
      ((first | exact HS.out | assumption))
      ((first | (go_at_call 45; refine HNX.out.mono ?_; rintro e w2 ⟨rfl, rfl⟩)))
    go_wp2_with fail
    refine HFL.out.mono ?_
    rintro e w1 ⟨rfl, hr⟩
    have HRR := Lib.hid hr
    clear hr HFL
    go_wp2_with fail
    go_ret
    rw [HR.out]
    exact SPost.step HF0.out (fun b hb => .inl hb) ⟨rfl, HRR.out⟩
end Go.Proofs.YtaepdbkfaoiimabGreatDoor
/- The contract of store.Write. Conditions: the store is sound. -/
set_option linter.unusedVariables false
set_option linter.unusedSimpArgs false
namespace Go.Proofs.YtaepdbkfaoiimabGreatDoor
open Go.RowKit
attribute [local go_sem ↓] eql_err eql_nilerr neq_err neq_nilerr guard_err guard_nilerr guardn_err guardn_nilerr
theorem write_bad {c : Chip} {s : SM} {l : List Ent} (h : checkM s l ≠ 0) : writeM c s l = (c, s, checkM s l) := if_pos h
theorem write_log {c c' : Chip} {s s' : SM} {l : List Ent} {n : Nat} (h : checkM s l = 0) (hl : logM (bytesL l.length l) 2 c s = (c', s', n)) : writeM c s l = (c', if n = 0 then { s' with mem := l.foldl putE s'.mem } else s', n) := by
  unfold writeM
  rw [if_neg (by simp [h]), hl]
  simp only
  by_cases hn : n = 0
  · subst hn; rw [if_pos rfl, if_pos rfl]
  · rw [if_neg hn, if_neg hn]
theorem write_nine {c c' : Chip} {s s' : SM} {l : List Ent} (h : checkM s l = 0) (hl : logM (bytesL l.length l) 2 c s = (c', s', 9)) : writeM c s l = (c', s', 9) := write_log h hl
theorem write_zero {c c' : Chip} {s s' : SM} {l : List Ent} (h : checkM s l = 0) (hl : logM (bytesL l.length l) 2 c s = (c', s', 0)) : writeM c s l = (c', { s' with mem := l.foldl putE s'.mem }, 0) := write_log h hl
/-- What lies where, while Write tries its block. -/
structure WrS (B q p : Nat) (F : List Nat) (w : World) (l : List Ent) (c0 : Chip) (s0 : SM) (g : Nat) (c : Chip) (s : SM) (F' : List Nat) (W : World) : Prop where
  st : StoreR B W q p s F'
  ch : ChipR B W p c
  fr : Fr B (· ∈ q :: p :: F) w W
  new : ∀ b ∈ F', b ∈ F ∨ w.heap.size ≤ b
  inv : Inv c s
  log : logM (bytesL l.length l) g c s = logM (bytesL l.length l) 2 c0 s0
  rows : s.rows = s0.rows
  ep : g = 2 ∧ s.m.ep ≤ s0.m.ep ∨ g = 1 ∧ s.m.ep ≤ s0.m.ep + 6 ∧ (c.b s.m.log.toNat).weak = false
theorem WrS.post {B q p : Nat} {F : List Nat} {w W W1 : World} {l : List Ent} {c0 c c1 : Chip} {s0 s s1 : SM} {g : Nat} {F' : List Nat} (h : WrS B q p F w l c0 s0 g c s F' W) {n : Nat} {e : Ending} (hp : SPost B q p F' W (c1, s1, n) e W1) : SPost B q p F w (c1, s1, n) e W1 := SPost.step h.fr h.new hp
set_option maxRecDepth 20000 in
set_option maxHeartbeats 8000000 in
theorem write_any (B : Nat) (q p : Nat) (c : Chip) (s : SM) (F : List Nat) (v : Value) (l : List Ent) (w : World) (h : StoreR B w q p s F) (hc : ChipR B w p c) (hi : Inv c s) (hl : Ents B w v l) (hep : s.m.ep + 9 ≤ 100000) :
    Calls Tryz.prog 56 #[.pointer (some ⟨q, 0, none⟩), v] w (SPost B q p F w (writeM c s l)) := by
  have hck := scheck_any B q p c s F v l w h hc hi hl
  have hB0 : B ≤ w.heap.size := Nat.le_of_lt (Nat.lt_of_le_of_lt h.base h.lt)
  have hqp := h.apart hc q (by simp)
  obtain ⟨A, cp, rfl, hc1, hc2, _⟩ := hl.form
  by_cases hn : checkM s l = 0
  case neg =>
    have HX := Lib.hid (write_bad (c := c) hn)
    have HE := Lib.hid (errV_pos hn)
    have HPO : Hid (∀ W, Below w.heap.size w W → SPost B q p F w (c, s, checkM s l) (.returned (errV (checkM s l))) W) := fun W hW => ⟨rfl, hc.below hW, ⟨F, h.below hW, fun b hb => .inl hb⟩, Fr.of_below hW⟩
    rw [HE.out] at hck
    have HCK := Lib.hid hck
    clear hck hn h hc hi hl
    go_enter Tryz.func56, Tryz.ntmps56
    go_wp2_with fail
    refine HCK.out.mono ?_
    rintro e w1 ⟨rfl, hb1⟩
    have HP := Lib.hid (HPO.out w1 hb1)
    clear hb1 HCK HPO
    go_wp2_with fail
    go_ret
    rw [HX.out]
    rw [HE.out] at HP
    exact HP.out
  obtain ⟨hl0, hl4, hby, hnew⟩ := checkM_zero hn
  have HW9 := Lib.hid (fun c' s' => write_nine (c := c) (c' := c') (s' := s') hn)
  have HW0 := Lib.hid (fun c' s' => write_zero (c := c) (c' := c') (s' := s') hn)
  rw [hn, show errV 0 = Value.nilIface from rfl] at hck
  have HCK := Lib.hid hck
  have HBY : Hid (∀ W, Below w.heap.size w W → Calls Tryz.prog 96 #[.slice A l.length cp] W fun d w' => d = .returned (.tuple #[.string (bytesL l.length l), .nilIface]) ∧ Below W.heap.size W w') := by
    intro W hW
    have := bytes_any B _ l W (hl.below hW) (by omega)
    rw [hby, show bytesS l = bytesL l.length l from if_pos hby] at this
    exact this
  have HPA := Lib.hid (bytesF_parts hby)
  have HBF := Lib.hid hby
  have HNW := Lib.hid hnew
  have HL := Lib.hid hl
  have HS0 : Hid (∀ W, Below w.heap.size w W → WrS B q p F w l c s 2 c s F W) := fun W hW => ⟨h.below hW, hc.below hW, Fr.of_below hW, fun b hb => .inl hb, hi, rfl, rfl, .inl ⟨rfl, Int.le_refl _⟩⟩
  clear hck hn h hc hi hl hby hnew
  go_enter Tryz.func56, Tryz.ntmps56
  go_wp2_with fail
  refine HCK.out.mono ?_
  rintro e w1 ⟨rfl, hb1⟩
  have HB1 := Lib.hid hb1
  have HY1 := Lib.hid (HBY.out w1 hb1)
  clear hb1 HCK HBY
  go_wp2_with fail
  refine HY1.out.mono ?_
  rintro e w2 ⟨rfl, hb2⟩
  have HS2 := Lib.hid (HS0.out w2 (HB1.out.trans (hb2.mono HB1.out.size)))
  clear hb2 HY1 HS0 HB1
  go_wp2_with fail
  go_loopg [5] 2 (fun g e wr => ∃ (c' : Chip) (s' : SM) (F' : List Nat), Hid (WrS B q p F w l c s g c' s' F' wr))
  case atStart => exact ⟨c, s, F, HS2.out⟩
  case round =>
    obtain ⟨c', s', F', hS⟩ := hrel
    obtain ⟨g, rfl⟩ : ∃ g, gk = g + 1 := ⟨gk - 1, by rcases hS.out.ep with h | h <;> omega⟩
    have hep1 : s'.m.ep ≤ s.m.ep + 6 := by rcases hS.out.ep with h | h <;> omega
    obtain ⟨c1, s1, n1, e1, _, g1⟩ := room_calm hS.out.inv (by omega)
    have hrm := room_any B q p c' s' F' wr hS.out.st hS.out.ch hS.out.inv (by omega)
    have hlog := hS.out.log
    rw [logM, e1] at hlog
    rw [e1] at hrm
    by_cases hn1 : n1 = 0
    case neg =>
      have h9 : n1 = 9 := by rcases g1 with ⟨h, _⟩ | ⟨h, _⟩; exact absurd h hn1; exact h
      subst h9
      simp only at hlog
      rw [if_pos (by decide)] at hlog
      have HX := Lib.hid (HW9.out c1 s1 hlog.symm)
      have HRM := Lib.hid hrm
      clear hlog hrm g1 e1 hn1
      go_wp2_with fail
      refine HRM.out.mono ?_
      rintro e w3 ⟨rfl, hr⟩
      have HR := Lib.hid hr
      clear hr HRM
      simp only
      rw [show errV 9 = Value.iface 39 (.int .i64 9) from rfl]
      go_wp2_with fail
      go_ret
      rw [HX.out]
      exact hS.out.post ⟨rfl, HR.out⟩
    subst hn1
    rcases g1 with ⟨_, hi1, hrw1, hep2, hep3, _, _, h8, hwk1⟩ | ⟨h9, _⟩
    case inr => omega
    simp only at hlog
    rw [if_neg (by simp)] at hlog
    have hrows : s1.rows = s.rows := hrw1.trans hS.out.rows
    obtain ⟨c2, n2, e2, _, g2⟩ := logw_calm (l := l) hi1 hl4 HBF.out (by rw [hrows]; exact HNW.out) h8
    rw [e2] at hlog
    simp only at hlog
    have HRM := Lib.hid hrm
    have HS1 : Hid (∀ w3, SPost B q p F' wr (c1, s1, 0) (.returned (errV 0)) w3 → ∃ F1, StoreR B w3 q p s1 F1 ∧ ChipR B w3 p c1 ∧ Fr B (· ∈ q :: p :: F) w w3 ∧ (∀ b ∈ F1, b ∈ F ∨ w.heap.size ≤ b)) := by
      intro w3 hp
      obtain ⟨_, hc, ⟨F1, hs, hF⟩, hf⟩ := hS.out.post hp
      exact ⟨F1, hs, hc, hf, hF⟩
    have HCW0 := Lib.hid (fun W (hW : ChipR B W p c1) => cwrite_any B p c1 s1.m.log (bytesL l.length l) W hW (by have := HPA.out.2; omega))
    rw [e2] at HCW0
    have HEP := Lib.hid hS.out.ep
    clear hrm e2 hrw1 e1
    by_cases hn7 : n2 = 7
    case neg =>
      rw [if_pos hn7] at hlog
      by_cases hn0 : n2 = 0
      case neg =>
        have h9 : n2 = 9 := by rcases g2 with ⟨h, _⟩ | ⟨h, _⟩ | ⟨h, _⟩; exact absurd h hn0; exact absurd h hn7; exact h
        subst h9
        have HX := Lib.hid (HW9.out c2 s1 hlog.symm)
        clear hlog g2 hn7 hn0 hi1 hwk1 h8
        go_wp2_with fail
        refine HRM.out.mono ?_
        rintro e w3 ⟨rfl, hr⟩
        obtain ⟨F1, hs3, hc3, hf3, hF3⟩ := HS1.out w3 ⟨rfl, hr⟩
        have HS3 := Lib.hid hs3
        have HC3 := Lib.hid hc3
        have HF3 := Lib.hid (And.intro hf3 hF3)
        obtain ⟨A1, c1', A2, c2', t, n, hk, _⟩ := hs3
        have x0 := hk.cell 0
        have x2 := hk.cell 2
        simp at x0 x2
        have HZ : Hid (∀ w', w' = w3.drew → w'.cell? ⟨q, 0, none⟩ = some (.pointer (some ⟨p, 0, none⟩)) ∧ w'.cell? ⟨q, 2, none⟩ = some (.int .i64 s1.m.log)) := fun w' e => by subst e; exact ⟨x0, x2⟩
        have HZ2 : Hid (∀ w', Fr B (· = p) w3.drew w' → w'.cell? ⟨q, 0, none⟩ = some (.pointer (some ⟨p, 0, none⟩)) ∧ w'.cell? ⟨q, 2, none⟩ = some (.int .i64 s1.m.log)) := by
          intro w' hf
          have hk2 := (hk.drewN 1).fr hf (.inr (.inl hqp))
          have y0 := hk2.cell 0
          have y2 := hk2.cell 2
          simp at y0 y2
          exact ⟨y0, y2⟩
        have HCW := Lib.hid (HCW0.out w3.drew (hc3.drewN 1))
        clear hr hc3 hf3 hF3 hk HRM HS1 HCW0
        simp only
        rw [show errV 0 = Value.nilIface from rfl]
        go_wp2_with fail
        go_region_held3 (fun w' => w'.cell? ⟨q, 0, none⟩ = some (.pointer (some ⟨p, 0, none⟩)) ∧ w'.cell? ⟨q, 2, none⟩ = some (.int .i64 s1.m.log))
          ((first | exact HZ.out _ (by rfl) | exact HZ2.out _ hf5))
          ((first | (go_at_call 46; refine HCW.out.mono ?_; rintro e w5 ⟨rfl, hc5, hf5⟩; rw [show errV 9 = Value.iface 39 (.int .i64 9) from rfl])))
        have hs5 := (HS3.out.drewN 1).chip (HC3.out.drewN 1) hf5
        have HFI : Hid (SPost B q p F w (c2, s1, 9) (.returned (errV 9)) w5) := ⟨rfl, hc5, ⟨F1, hs5, HF3.out.2⟩, (HF3.out.1.drewN 1).trans' hf5 (fun b _ e => by subst e; simp)⟩
        clear hs5 hc5 hf5 HCW x0 x2
        go_wp2_with fail
        go_ret
        rw [HX.out]
        exact HFI.out
      subst hn0
      have HX := Lib.hid (HW0.out c2 s1 hlog.symm)
      have hml := Fallen.mem_len hi1
      clear hlog g2 hn7 hi1 hwk1 h8
      go_wp2_with fail
      refine HRM.out.mono ?_
      rintro e w3 ⟨rfl, hr⟩
      obtain ⟨F1, hs3, hc3, hf3, hF3⟩ := HS1.out w3 ⟨rfl, hr⟩
      have HS3 := Lib.hid hs3
      have HC3 := Lib.hid hc3
      have HF3 := Lib.hid (And.intro hf3 hF3)
      obtain ⟨A1, c1', A2, c2', t, n, hk, _⟩ := hs3
      have x0 := hk.cell 0
      have x2 := hk.cell 2
      simp at x0 x2
      have HZ : Hid (∀ w', w' = w3.drew → w'.cell? ⟨q, 0, none⟩ = some (.pointer (some ⟨p, 0, none⟩)) ∧ w'.cell? ⟨q, 2, none⟩ = some (.int .i64 s1.m.log)) := fun w' e => by subst e; exact ⟨x0, x2⟩
      have HZ2 : Hid (∀ w', Fr B (· = p) w3.drew w' → w'.cell? ⟨q, 0, none⟩ = some (.pointer (some ⟨p, 0, none⟩)) ∧ w'.cell? ⟨q, 2, none⟩ = some (.int .i64 s1.m.log)) := by
        intro w' hf
        have hk2 := (hk.drewN 1).fr hf (.inr (.inl hqp))
        have y0 := hk2.cell 0
        have y2 := hk2.cell 2
        simp at y0 y2
        exact ⟨y0, y2⟩
      have HCW := Lib.hid (HCW0.out w3.drew (hc3.drewN 1))
      clear hr hc3 hf3 hF3 hk HRM HS1 HCW0
      simp only
      rw [show errV 0 = Value.nilIface from rfl]
      go_wp2_with fail
      go_region_held3 (fun w' => w'.cell? ⟨q, 0, none⟩ = some (.pointer (some ⟨p, 0, none⟩)) ∧ w'.cell? ⟨q, 2, none⟩ = some (.int .i64 s1.m.log))
        ((first | exact HZ.out _ (by rfl) | exact HZ2.out _ hf5))
        ((first | (go_at_call 46; refine HCW.out.mono ?_; rintro e w5 ⟨rfl, hc5, hf5⟩; rw [show errV 0 = Value.nilIface from rfl])))
      have hs5 := (HS3.out.drewN 1).chip (HC3.out.drewN 1) hf5
      have hls5 : Ents B w5 (.slice A l.length cp) l := ((HL.out.fr HF3.out.1).drewN 1).fr hf5
      have HF5 : Hid (Fr B (· ∈ q :: p :: F) w w5) := (HF3.out.1.drewN 1).trans' hf5 (fun b _ e => by subst e; simp)
      have HTK := Lib.hid (take_any B q p s1 F1 _ l w5 hs5 hls5 (by omega) (Nat.le_trans hB0 HF5.out.size))
      have HAP := Lib.hid (hs5.apart hc5)
      have HC5 := Lib.hid hc5
      clear hs5 hc5 hf5 HCW x0 x2 hls5
      go_wp2_with fail
      refine HTK.out.mono ?_
      rintro e w6 ⟨F6, rfl, hs6, hf6, hF6⟩
      have HFI : Hid (SPost B q p F w (c2, { s1 with mem := l.foldl putE s1.mem }, 0) (.returned .nilIface) w6) := by
        refine ⟨rfl, HC5.out.keep hf6 (fun hm => HAP.out p hm rfl), ⟨F6, hs6, fun b hb => ?_⟩, HF5.out.trans' hf6 (fun b hb hm => ?_)⟩
        · rcases hF6 b hb with h | h
          · exact HF3.out.2 b h
          · exact .inr (Nat.le_trans HF5.out.size h)
        · rcases List.mem_cons.1 hm with rfl | hm
          · simp
          · rcases HF3.out.2 b hm with h | h
            · simp [h]
            · omega
      clear hs6 hf6 hF6 HTK
      go_wp2_with fail
      go_ret
      rw [HX.out]
      exact HFI.out
    subst hn7
    rw [if_neg (by simp)] at hlog
    rcases g2 with ⟨h, _⟩ | ⟨_, hwk, hi2, _⟩ | ⟨h, _⟩
    case inl => omega
    case inr.inr => omega
    have hg2 : g + 1 = 2 ∧ s'.m.ep ≤ s.m.ep := by
      rcases HEP.out with h | ⟨_, _, h⟩
      · exact h
      · have := hwk1 h; rw [hwk] at this; cases this
    obtain ⟨hg2, hep0⟩ := hg2
    obtain ⟨c3, s3, n3, e3, _, g3⟩ := flush_calm hi2 (by omega)
    rw [e3] at hlog
    simp only at hlog
    have HFL0 := Lib.hid (fun W F2 (hS : StoreR B W q p s1 F2) (hC : ChipR B W p c2) => flush_any B q p c2 s1 F2 W hS hC hi2 (by omega))
    rw [e3] at HFL0
    clear e3
    by_cases hn3 : n3 = 0
    case neg =>
      have h9 : n3 = 9 := by rcases g3 with ⟨h, _⟩ | ⟨h, _⟩; exact absurd h hn3; exact h
      subst h9
      rw [if_pos (by decide)] at hlog
      have HX := Lib.hid (HW9.out c3 s3 hlog.symm)
      clear hlog g3 hn3 hi1 hi2 hwk hwk1 h8
      go_wp2_with fail
      refine HRM.out.mono ?_
      rintro e w3 ⟨rfl, hr⟩
      obtain ⟨F1, hs3, hc3, hf3, hF3⟩ := HS1.out w3 ⟨rfl, hr⟩
      have HS3 := Lib.hid hs3
      have HC3 := Lib.hid hc3
      have HF3 := Lib.hid (And.intro hf3 hF3)
      obtain ⟨A1, c1', A2, c2', t, n, hk, _⟩ := hs3
      have x0 := hk.cell 0
      have x2 := hk.cell 2
      simp at x0 x2
      have HZ : Hid (∀ w', w' = w3.drew → w'.cell? ⟨q, 0, none⟩ = some (.pointer (some ⟨p, 0, none⟩)) ∧ w'.cell? ⟨q, 2, none⟩ = some (.int .i64 s1.m.log)) := fun w' e => by subst e; exact ⟨x0, x2⟩
      have HZ2 : Hid (∀ w', Fr B (· = p) w3.drew w' → w'.cell? ⟨q, 0, none⟩ = some (.pointer (some ⟨p, 0, none⟩)) ∧ w'.cell? ⟨q, 2, none⟩ = some (.int .i64 s1.m.log)) := by
        intro w' hf
        have hk2 := (hk.drewN 1).fr hf (.inr (.inl hqp))
        have y0 := hk2.cell 0
        have y2 := hk2.cell 2
        simp at y0 y2
        exact ⟨y0, y2⟩
      have HCW := Lib.hid (HCW0.out w3.drew (hc3.drewN 1))
      clear hr hc3 hf3 hF3 hk HRM HS1 HCW0
      simp only
      rw [show errV 0 = Value.nilIface from rfl]
      go_wp2_with fail
      go_region_held3 (fun w' => w'.cell? ⟨q, 0, none⟩ = some (.pointer (some ⟨p, 0, none⟩)) ∧ w'.cell? ⟨q, 2, none⟩ = some (.int .i64 s1.m.log))
        ((first | exact HZ.out _ (by rfl) | exact HZ2.out _ hf5))
        ((first | (go_at_call 46; refine HCW.out.mono ?_; rintro e w5 ⟨rfl, hc5, hf5⟩; rw [show errV 7 = Value.iface 39 (.int .i64 7) from rfl])))
      have hs5 := (HS3.out.drewN 1).chip (HC3.out.drewN 1) hf5
      have HFL := Lib.hid (HFL0.out w5 F1 hs5 hc5)
      have HF5 : Hid (Fr B (· ∈ q :: p :: F) w w5) := (HF3.out.1.drewN 1).trans' hf5 (fun b _ e => by subst e; simp)
      clear hs5 hc5 hf5 HCW x0 x2 HFL0
      go_wp2_with fail
      refine HFL.out.mono ?_
      rintro e w6 ⟨rfl, hr⟩
      have HFI : Hid (SPost B q p F w (c3, s3, 9) (.returned (errV 9)) w6) := SPost.step HF5.out HF3.out.2 ⟨rfl, hr⟩
      clear hr HFL
      simp only
      rw [show errV 9 = Value.iface 39 (.int .i64 9) from rfl]
      go_wp2_with fail
      go_ret
      rw [HX.out]
      exact HFI.out
    subst hn3
    rw [if_neg (by simp)] at hlog
    rcases g3 with ⟨_, hi3, hrw3, hep4, hep5, _, _, _, ⟨b3, hb3, _, hb4, _⟩, _⟩ | ⟨h, _⟩
    case inr => omega
    have HLG := Lib.hid hlog
    have HI3 := Lib.hid hi3
    have HRW : Hid (s3.rows = s.rows) := hrw3.trans hrows
    have HWK : Hid ((c3.b s3.m.log.toNat).weak = false) := by rw [Hid, hb3, Int.toNat_natCast]; exact hb4
    clear hlog hi3 hi1 hi2 hwk hwk1 h8 hrw3 hb3 hb4 hrows
    go_wp2_with fail
    refine HRM.out.mono ?_
    rintro e w3 ⟨rfl, hr⟩
    obtain ⟨F1, hs3, hc3, hf3, hF3⟩ := HS1.out w3 ⟨rfl, hr⟩
    have HS3 := Lib.hid hs3
    have HC3 := Lib.hid hc3
    have HF3 := Lib.hid (And.intro hf3 hF3)
    obtain ⟨A1, c1', A2, c2', t, n, hk, _⟩ := hs3
    have x0 := hk.cell 0
    have x2 := hk.cell 2
    simp at x0 x2
    have HZ : Hid (∀ w', w' = w3.drew → w'.cell? ⟨q, 0, none⟩ = some (.pointer (some ⟨p, 0, none⟩)) ∧ w'.cell? ⟨q, 2, none⟩ = some (.int .i64 s1.m.log)) := fun w' e => by subst e; exact ⟨x0, x2⟩
    have HZ2 : Hid (∀ w', Fr B (· = p) w3.drew w' → w'.cell? ⟨q, 0, none⟩ = some (.pointer (some ⟨p, 0, none⟩)) ∧ w'.cell? ⟨q, 2, none⟩ = some (.int .i64 s1.m.log)) := by
      intro w' hf
      have hk2 := (hk.drewN 1).fr hf (.inr (.inl hqp))
      have y0 := hk2.cell 0
      have y2 := hk2.cell 2
      simp at y0 y2
      exact ⟨y0, y2⟩
    have HCW := Lib.hid (HCW0.out w3.drew (hc3.drewN 1))
    clear hr hc3 hf3 hF3 hk HRM HS1 HCW0
    simp only
    rw [show errV 0 = Value.nilIface from rfl]
    go_wp2_with fail
    go_region_held3 (fun w' => w'.cell? ⟨q, 0, none⟩ = some (.pointer (some ⟨p, 0, none⟩)) ∧ w'.cell? ⟨q, 2, none⟩ = some (.int .i64 s1.m.log))
      ((first | exact HZ.out _ (by rfl) | exact HZ2.out _ hf5))
      ((first | (go_at_call 46; refine HCW.out.mono ?_; rintro e w5 ⟨rfl, hc5, hf5⟩; rw [show errV 7 = Value.iface 39 (.int .i64 7) from rfl])))
    have hs5 := (HS3.out.drewN 1).chip (HC3.out.drewN 1) hf5
    have HFL := Lib.hid (HFL0.out w5 F1 hs5 hc5)
    have HF5 : Hid (Fr B (· ∈ q :: p :: F) w w5) := (HF3.out.1.drewN 1).trans' hf5 (fun b _ e => by subst e; simp)
    clear hs5 hc5 hf5 HCW x0 x2 HFL0
    go_wp2_with fail
    refine HFL.out.mono ?_
    rintro e w6 ⟨rfl, hr⟩
    have hfi : SPost B q p F w (c3, s3, 0) (.returned (errV 0)) w6 := SPost.step HF5.out HF3.out.2 ⟨rfl, hr⟩
    have HFI := Lib.hid hfi
    clear hr HFL hfi
    simp only
    rw [show errV 0 = Value.nilIface from rfl]
    go_wp2_with fail
    go_roundg g
    case measure => omega
    case rel =>
      obtain ⟨_, hc6, ⟨F6, hs6, hF6⟩, hf6⟩ := HFI.out
      exact ⟨c3, s3, F6, hs6, hc6, hf6, hF6, HI3.out, HLG.out, HRW.out, .inr ⟨by omega, by omega, HWK.out⟩⟩
end Go.Proofs.YtaepdbkfaoiimabGreatDoor
