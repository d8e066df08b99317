/- The contracts of table.page and table.All. Conditions: none but those that each names. -/
import Derived.Test.YtaepdbkfaoiimaaTab
import Derived.Test.YtaepdbkfaoiimaaParse
import Derived.Test.YtaepdbkfaoiimaaFind
set_option linter.unusedVariables false
set_option linter.unusedSimpArgs false
namespace Go.Proofs.Ytaepdbkfaoiimaa
open Go.RowKit
attribute [local go_sem ↓] eql_err eql_nilerr neq_err neq_nilerr guard_err guard_nilerr guardn_err guardn_nilerr
theorem ents_nil (B : Nat) (w : World) : Ents B w (.slice none 0 0) [] := ⟨Rd.nil _ _ _ _, fun e he => by simp at he⟩
theorem read_size {c : Chip} (h : CWf c) (b q : Int) : (c.read b q).1.size ≤ 9223372036854775807 := by
  unfold Chip.read
  split
  · decide
  · split
    · decide
    · rename_i hb
      split
      · decide
      · rename_i s hs
        split
        · decide
        · rename_i ht
          have := h.size b.toNat (by omega) s (List.mem_of_getElem? hs) (by simpa using ht)
          show s.d.size ≤ _
          omega
/-- What a page of a table has, as it is read: its entries, its error. -/
def pageR (r : ByteArray × Nat) : List Ent × Nat :=
  if r.2 = 5 then ([], 0) else if r.2 ≠ 0 then ([], r.2) else ((parseR r.1).getD [], perr r.1)
set_option maxRecDepth 20000 in
set_option maxHeartbeats 1000000 in
theorem page_any (B p : Nat) (c : Chip) (b q : Int) (w : World) (h : ChipR B w p c) :
    Calls Try.prog 136 #[.pointer (some ⟨p, 0, none⟩), .int .i64 b, .int .i64 q] w fun e w' => ∃ v, e = .returned (.tuple #[v, errV (pageR (c.read b q)).2]) ∧ Ents B w' v (pageR (c.read b q)).1 ∧ Below w.heap.size w w' := by
  have HR := Lib.hid (cread_any B p c b q w h)
  have hsz : (c.read b q).1.size ≤ 9223372036854775807 := read_size h.wf b q
  generalize hr : c.read b q = r at *
  clear hr h
  obtain ⟨s, n⟩ := r
  by_cases h5 : n = 5
  · subst h5
    have HE : Hid (pageR (s, 5) = ([], 0)) := rfl
    rw [show errV ((s, 5) : ByteArray × Nat).2 = Value.iface 137 (.int .i64 5) from rfl] at HR
    have fin : ∀ (tmps : Array Value), tmps[6]? = some (.slice none 0 0) → tmps[7]? = some .nilIface →
        bodyPost Try.prog Try.f136 (fun e w' => ∃ v, e = .returned (.tuple #[v, errV (pageR (s, 5)).2]) ∧ Ents B w' v (pageR (s, 5)).1 ∧ Below w.heap.size w w') .ret { tmps := tmps, defers := [] } w := by
      intro tmps h6 h7
      exact bodyPost_ret (v := .tuple #[.slice none 0 0, .nilIface]) (by simp [results, Try.results136, go_sem, h6, h7]) rfl ⟨_, rfl, ents_nil _ _, Below.refl _ _⟩
    have FIN := Lib.hid fin
    clear fin
    go_enter Try.func136, Try.ntmps136
    go_wp2_with (go_at_call 54; refine HR.out.mono ?_; rintro e2 w2 ⟨rfl, rfl⟩)
    exact FIN.out _ rfl rfl
  · by_cases h0 : n = 0
    · subst h0
      have HE : Hid (pageR (s, 0) = ((parseR s).getD [], perr s)) := rfl
      rw [show errV ((s, 0) : ByteArray × Nat).2 = Value.nilIface from rfl] at HR
      have HP := Lib.hid (parse_any B s w hsz)
      have fin : ∀ (tmps : Array Value) (v : Value) (w2 : World), Ents B w2 v ((parseR s).getD []) → Below w.heap.size w w2 → tmps[6]? = some v → tmps[7]? = some (errV (perr s)) →
          bodyPost Try.prog Try.f136 (fun e w' => ∃ v, e = .returned (.tuple #[v, errV (pageR (s, 0)).2]) ∧ Ents B w' v (pageR (s, 0)).1 ∧ Below w.heap.size w w') .ret { tmps := tmps, defers := [] } w2 := by
        intro tmps v w2 hv hb h6 h7
        rw [HE.out]
        exact bodyPost_ret (v := .tuple #[v, errV (perr s)]) (by simp [results, Try.results136, go_sem, h6, h7]) rfl ⟨_, rfl, hv, hb⟩
      have FIN := Lib.hid fin
      clear fin
      go_enter Try.func136, Try.ntmps136
      go_wp2_with (first
        | (go_at_call 54; refine HR.out.mono ?_; rintro e2 w2 ⟨rfl, rfl⟩)
        | (go_at_call 39; refine HP.out.mono ?_; rintro e2 w2 ⟨v2, rfl, hv2, hb2⟩; have HV2 := Lib.hid hv2; have HB2 := Lib.hid hb2; clear hv2 hb2))
      exact FIN.out _ _ _ HV2.out HB2.out rfl rfl
    · have e : errV ((s, n) : ByteArray × Nat).2 = .iface 137 (.int .i64 n) := by unfold errV; rw [if_neg h0]
      have HE : Hid (pageR (s, n) = ([], n)) := by rw [Hid, pageR, if_neg h5, if_pos h0]
      rw [e] at HR
      have g5 : (((n : Nat) : Int) == 5) = false := beq_eq_false_iff_ne.2 (by omega)
      have fin : ∀ (tmps : Array Value), tmps[6]? = some (.slice none 0 0) → tmps[7]? = some (.iface 137 (.int .i64 n)) →
          bodyPost Try.prog Try.f136 (fun e w' => ∃ v, e = .returned (.tuple #[v, errV (pageR (s, n)).2]) ∧ Ents B w' v (pageR (s, n)).1 ∧ Below w.heap.size w w') .ret { tmps := tmps, defers := [] } w := by
        intro tmps h6 h7
        rw [HE.out]
        exact bodyPost_ret (v := .tuple #[.slice none 0 0, .iface 137 (.int .i64 n)]) (by simp [results, Try.results136, go_sem, h6, h7]) rfl ⟨_, by rw [← e], ents_nil _ _, Below.refl _ _⟩
      have FIN := Lib.hid fin
      clear fin e h0 h5
      go_enter Try.func136, Try.ntmps136
      go_wp2_with (go_at_call 54; refine HR.out.mono ?_; rintro e2 w2 ⟨rfl, rfl⟩)
      exact FIN.out _ rfl rfl
theorem chkT_all {p : Option ByteArray} {l : List Ent} (h : chkT p l = 0) : ∀ e ∈ l, faultE e = 0 := by
  induction l generalizing p with
  | nil => intro e he; simp at he
  | cons a l ih =>
    have h : (if faultE a ≠ 0 then faultE a else if (match p with | none => false | some k => leB a.k k) then 3 else chkT (some a.k) l) = 0 := h
    generalize hm : (match p with | none => false | some k => leB a.k k) = mm at h
    by_cases h1 : faultE a ≠ 0
    · rw [if_pos h1] at h; exact absurd h h1
    · rw [if_neg h1] at h
      cases mm
      · rw [if_neg (by simp)] at h
        intro e he
        rcases List.mem_cons.1 he with rfl | he
        · exact Classical.byContradiction h1
        · exact ih h e he
      · rw [if_pos rfl] at h; cases h
theorem chkT_rises {p : Option ByteArray} {l : List Ent} (h : chkT p l = 0) : Rises l ∧ ∀ k, p = some k → ∀ e ∈ l, ltB k e.k = true := by
  induction l generalizing p with
  | nil => exact ⟨List.Pairwise.nil, fun k _ e he => by simp at he⟩
  | cons a l ih =>
    have h : (if faultE a ≠ 0 then faultE a else if (match p with | none => false | some k => leB a.k k) then 3 else chkT (some a.k) l) = 0 := h
    generalize hm : (match p with | none => false | some k => leB a.k k) = mm at h
    by_cases h1 : faultE a ≠ 0
    · rw [if_pos h1] at h; exact absurd h h1
    · rw [if_neg h1] at h
      cases mm
      · rw [if_neg (by simp)] at h
        obtain ⟨i1, i2⟩ := ih h
        refine ⟨rises_cons.2 ⟨fun y hy => i2 _ rfl y hy, i1⟩, fun k hk e he => ?_⟩
        subst hk
        have hka : ltB k a.k = true := by
          have hm : leB a.k k = false := hm
          rw [leB_eq] at hm
          simpa using hm
        rcases List.mem_cons.1 he with rfl | he
        · exact hka
        · exact ltB_trans hka (i2 _ rfl e he)
      · rw [if_pos rfl] at h; cases h
theorem tabF_parts {l : List Ent} (h : tabF l = 0) : 0 < l.length ∧ l.length ≤ 14 ∧ chkT none l = 0 := by
  unfold tabF at h
  split at h
  · cases h
  · exact ⟨by omega, by omega, h⟩
theorem chunks2_flatten : (l : List Ent) → (chunks2 l).flatten = l
  | [] => rfl
  | [a] => rfl
  | a :: b :: l => by rw [chunks2, List.flatten_cons, chunks2_flatten l]; rfl
theorem chunks2_len : (l : List Ent) → (chunks2 l).length = (l.length + 1) / 2
  | [] => by simp [chunks2]
  | [a] => by simp [chunks2]
  | a :: b :: l => by rw [chunks2, List.length_cons, chunks2_len l]; simp only [List.length_cons]; omega
theorem chunks2_mem : {l : List Ent} → {p : List Ent} → p ∈ chunks2 l → p.length ≤ 2 ∧ ∀ e ∈ p, e ∈ l
  | [], p, h => by cases h
  | [a], p, h => by
    have := List.mem_singleton.1 h
    subst this
    exact ⟨by simp, fun e he => he⟩
  | a :: b :: l, p, h => by
    rw [chunks2] at h
    rcases List.mem_cons.1 h with rfl | h
    · exact ⟨by simp, fun e he => by simp at he; rcases he with rfl | rfl <;> simp⟩
    · have := chunks2_mem h
      exact ⟨this.1, fun e he => List.mem_cons_of_mem _ (List.mem_cons_of_mem _ (this.2 e he))⟩
/-- What stands in a block of a chip is what a table of these entries is written with. -/
structure TabAt (c : Chip) (b : Nat) (l : List Ent) : Prop where
  pages : (c.b b).l = tabPages l
  ok : tabF l = 0
theorem tab_read0 {c : Chip} {b : Nat} {l : List Ent} (hb : b < 24) (hd : c.down = false) (h : TabAt c b l) : c.read b 0 = (pad (bitsB (fOf (l.map Ent.k))), 0) := by
  unfold Chip.read
  rw [hd, if_neg (by simp), if_neg (by omega), Int.toNat_natCast, h.pages]
  rfl
theorem pad_data {d : ByteArray} : (pad d).data.toList = d.data.toList ++ List.replicate (64 - d.size) 0 := rfl
theorem tab_pageR {c : Chip} {b k : Nat} {l : List Ent} (hb : b < 24) (hk : k < 7) (hd : c.down = false) (h : TabAt c b l) : pageR (c.read b ((1 : Int) + (k : Int))) = (((chunks2 l)[k]?).getD [], 0) := by
  have e : c.read b ((1 : Int) + (k : Int)) = match (chunks2 l)[k]? with | none => (ByteArray.empty, 5) | some p => (pad (bytesL p.length p), 0) := by
    unfold Chip.read
    rw [hd, if_neg (by simp), if_neg (by omega), Int.toNat_natCast, h.pages, show ((1 : Int) + (k : Int)).toNat = k + 1 from by omega]
    simp only [tabPages, rawPages, List.map_cons, List.getElem?_cons_succ, List.map_map, List.getElem?_map]
    cases (chunks2 l)[k]? <;> rfl
  rw [e]
  cases hp : (chunks2 l)[k]? with
  | none => rfl
  | some q =>
    have hm := chunks2_mem (List.mem_of_getElem? hp)
    have hall := chkT_all (tabF_parts h.ok).2.2
    have := parse_bytes q (fun x hx => hall x (hm.2 x hx)) (by omega) (s := pad (bytesL q.length q)) (k := 64 - (bytesL q.length q).size) pad_data
    have he : perr (pad (bytesL q.length q)) = 0 := by unfold perr; rw [this]; rfl
    show pageR (pad (bytesL q.length q), 0) = (q, 0)
    rw [pageR, if_neg (by simp), if_neg (by simp), this, he]
    rfl
theorem taball_down (B p b : Nat) (c : Chip) (w : World) (h : ChipR B w p c) (hd : c.down = true) :
    Calls Try.prog 126 #[.pointer (some ⟨p, 0, none⟩), .int .i64 b] w fun e w' => e = .returned (.tuple #[.slice none 0 0, errV 9]) ∧ w = w' := by
  have HR := Lib.hid (cread_any B p c b 0 w h)
  have e : c.read b 0 = (ByteArray.empty, 9) := by unfold Chip.read; rw [hd, if_pos rfl]
  rw [e, show errV ((ByteArray.empty, 9) : ByteArray × Nat).2 = Value.iface 137 (.int .i64 9) from rfl] at HR
  clear e h hd
  have fin : ∀ (tmps : Array Value), tmps[4]? = some (.slice none 0 0) → tmps[5]? = some (.iface 137 (.int .i64 9)) →
      bodyPost Try.prog Try.f126 (fun e w' => e = .returned (.tuple #[.slice none 0 0, errV 9]) ∧ w = w') .ret { tmps := tmps, defers := [] } w := by
    intro tmps h4 h5
    exact bodyPost_ret (v := .tuple #[.slice none 0 0, .iface 137 (.int .i64 9)]) (by simp [results, Try.results126, go_sem, h4, h5]) rfl ⟨rfl, rfl⟩
  have FIN := Lib.hid fin
  clear fin
  go_enter Try.func126, Try.ntmps126
  go_wp2_with (go_at_call 54; refine HR.out.mono ?_; rintro e2 w2 ⟨rfl, rfl⟩)
  exact FIN.out _ rfl rfl
theorem ents_one (l : List Ent) : ∀ u ∈ l.flatMap Ent.cells, u.oneCell' = true := by
  intro u hu
  obtain ⟨e, _, he⟩ := List.mem_flatMap.1 hu
  exact ent_one e u he
theorem take_flat {ps : List (List Ent)} {k : Nat} : (ps.take (k + 1)).flatten = (ps.take k).flatten ++ (ps[k]?).getD [] := by
  rcases Nat.lt_or_ge k ps.length with h | h
  · rw [List.take_succ_eq_append_getElem h, List.flatten_append, List.getElem?_eq_getElem h]; simp
  · rw [List.take_of_length_le (by omega), List.take_of_length_le h, List.getElem?_eq_none h]; simp
theorem flat_le {ps : List (List Ent)} {k : Nat} : (ps.take k).flatten.length ≤ ps.flatten.length := by
  conv => rhs; rw [← List.take_append_drop k ps, List.flatten_append, List.length_append]
  omega
set_option maxRecDepth 20000 in
set_option maxHeartbeats 4000000 in
theorem taball_any (B p b : Nat) (c : Chip) (l : List Ent) (w : World) (h : ChipR B w p c) (hb : b < 24) (hd : c.down = false) (ht : TabAt c b l) :
    Calls Try.prog 126 #[.pointer (some ⟨p, 0, none⟩), .int .i64 b] w fun e w' => ∃ v, e = .returned (.tuple #[v, .nilIface]) ∧ Ents B w' v l ∧ Below w.heap.size w w' := by
  have hbb : B ≤ w.heap.size := by obtain ⟨V, u, hv, _⟩ := h; have := hv.base; have := hv.blk.lt; omega
  have HR := Lib.hid (cread_any B p c b 0 w h)
  rw [tab_read0 hb hd ht, show errV ((pad (bitsB (fOf (l.map Ent.k))), 0) : ByteArray × Nat).2 = Value.nilIface from rfl] at HR
  have HU := Lib.hid (fun w => unbits_any (fOf (l.map Ent.k)) (fOf_lt _) w)
  generalize pad (bitsB (fOf (l.map Ent.k))) = s0 at *
  generalize fOf (l.map Ent.k) = f0 at *
  have hpart := tabF_parts ht.ok
  have hfl := chunks2_flatten l
  have hcl := chunks2_len l
  have HPG : Hid (∀ k : Nat, k < 7 → ∀ w', Below w.heap.size w w' → Calls Try.prog 136 #[.pointer (some ⟨p, 0, none⟩), .int .i64 b, .int .i64 ((1 : Int) + (k : Int))] w' fun e w2 => ∃ v, e = .returned (.tuple #[v, .nilIface]) ∧ Ents w.heap.size w2 v (((chunks2 l)[k]?).getD []) ∧ Below w'.heap.size w' w2) := by
    intro k hk w' hb'
    refine (page_any B p c b ((1 : Int) + (k : Int)) w' (h.below hb')).mono ?_
    rintro e w2 ⟨v, rfl, hv, hb2⟩
    rw [tab_pageR hb hk hd ht] at hv ⊢
    exact ⟨v, rfl, ⟨hv.1.mono hbb, hv.2⟩, hb2⟩
  have HCK := Lib.hid (fun w' v (hv : Ents B w' v l) => tcheck_any B v l w' hv)
  rw [ht.ok, show errV 0 = Value.nilIface from rfl] at HCK
  have HFL := Lib.hid hfl
  generalize chunks2 l = ps at *
  clear ht hd h
  have fin : ∀ (tmps : Array Value) (v : Value) (w2 : World), Ents B w2 v l → Below w.heap.size w w2 → tmps[4]? = some v → tmps[5]? = some .nilIface →
      bodyPost Try.prog Try.f126 (fun e w' => ∃ v, e = .returned (.tuple #[v, .nilIface]) ∧ Ents B w' v l ∧ Below w.heap.size w w') .ret { tmps := tmps, defers := [] } w2 := by
    intro tmps v w2 hv hb h4 h5
    exact bodyPost_ret (v := .tuple #[v, .nilIface]) (by simp [results, Try.results126, go_sem, h4, h5]) rfl ⟨_, rfl, hv, hb⟩
  have FIN := Lib.hid fin
  clear fin hfl
  go_enter Try.func126, Try.ntmps126
  go_wp2_with (first
    | (go_at_call 54; refine HR.out.mono ?_; rintro e2 w2 ⟨rfl, rfl⟩)
    | (go_at_call 135; refine (HU.out _).mono ?_; rintro e2 w2 ⟨rfl, n2, rfl⟩))
  go_loopw [10, 11] (fun u i wr => ∃ k : Nat, k ≤ 7 ∧ i = .int .i64 ((1 : Int) + (k : Int)) ∧ Hid (wr.ownsRow w.heap.size 35 3 u ((ps.take k).flatten).length ((ps.take k).flatten.flatMap Ent.cells)) ∧ Hid (∀ e ∈ (ps.take k).flatten, EntOk e) ∧ Below w.heap.size w wr) (fun _ i _ => 8 - (intOf i).toNat)
  case atStart => exact ⟨0, by omega, rfl, World.ownsRow_nil _ _ _ _, fun e he => by simp at he, below_drewN (Below.refl _ _) _⟩
  case round =>
    obtain ⟨k, hk, rfl, hown, hok, hbl⟩ := hrel
    have hfk := flat_le (ps := ps) (k := k)
    rw [HFL.out] at hfk
    by_cases hlt : k < 7
    · have t1 : decide ((1 : Int) + (k : Int) < 8) = true := decide_eq_true (by omega)
      obtain ⟨i0, hi, hz0, hz1, hz2⟩ := info_parts info_entry
      have HB := Lib.hid hbl
      have HP1 := Lib.hid (HPG.out k hlt wr hbl)
      have HT := Lib.hid (take_flat (ps := ps) (k := k))
      generalize (ps[k]?).getD [] = q at *
      have hq := flat_le (ps := ps) (k := k + 1)
      rw [HFL.out, HT.out, List.length_append] at hq
      clear hbl
      go_wp2_with (first
        | (go_at_call 136; refine HP1.out.mono ?_; rintro e2 w2 ⟨v2, rfl, hv2, hb2⟩; have HV2 := Lib.hid hv2; have HB2 := Lib.hid (HB.out.trans (hb2.mono HB.out.size)); have HO2 := Lib.hid (own_below hown.out hb2); clear hv2 hb2; have hs2 := HB2.out.size)
        | (at_builtin; go_loud (refine wpList_append_rd _ rfl (.tmp 45) (.tmp 46) 32 rfl w.heap.size 35 i0 _ 3 40 Try.underlying32 hi hz0 hz1 hz2 rfl (by decide) u10 _ _ rfl HO2.out w.heap.size 35 v2 _ _ rfl HV2.out.1 (ents_one _) (by unfold maxLen; omega) (by omega) (by omega) ?_); intro v4 w4 hown4 hg4 hat4))
      have HO4 : Hid (w4.ownsRow w.heap.size 35 3 v4 ((ps.take (k + 1)).flatten).length ((ps.take (k + 1)).flatten.flatMap Ent.cells)) := by
        rw [Hid, HT.out, List.length_append, List.flatMap_append]
        exact hown4
      have HE4 : Hid (∀ e ∈ (ps.take (k + 1)).flatten, EntOk e) := by
        intro e he
        rw [HT.out] at he
        rcases List.mem_append.1 he with he | he
        · exact hok.out e he
        · exact HV2.out.2 e he
      have HB4 := Lib.hid (below_own HB2.out (Nat.le_refl _) HO2.out hg4)
      clear hi hz0 hz1 hz2 hg4 hat4 hown4
      go_roundw
      case rel => exact ⟨k + 1, by omega, by go_num, HO4, HE4, HB4.out⟩
      case measure => simp [intOf] <;> omega
    · have hk7 : k = 7 := by omega
      subst hk7
      have t1 : decide ((1 : Int) + ((7 : Nat) : Int) < 8) = false := by decide
      have hall : Hid ((ps.take 7).flatten = l) := by rw [Hid, List.take_of_length_le (by omega), HFL.out]
      have HV : Hid (Ents B wr u10 l) := by
        refine ⟨?_, fun e he => hok.out e (by rw [hall.out]; exact he)⟩
        have := Rd.of_own (B := B) hown.out
        rw [hall.out] at this
        exact this
      have HCK2 := Lib.hid (HCK.out wr u10 HV.out)
      go_wp2_with (go_at_call 137; refine HCK2.out.mono ?_; rintro e2 w2 ⟨rfl, hb2⟩; have HB2 := Lib.hid (hbl.trans (hb2.mono hbl.size)); have HV2 := Lib.hid (HV.out.below hb2); clear hb2)
      exact FIN.out _ _ _ HV2.out HB2.out rfl rfl
end Go.Proofs.Ytaepdbkfaoiimaa
