/- Several texts of this proof, one behind the other: walks and plain laws that the statements rest on. Conditions: none but those that each lemma names. -/
import Derived.Test.YtaepdbkfaoiimabMe
/- The contract of table.Get. Conditions: the block holds a table. -/
set_option linter.unusedVariables false
set_option linter.unusedSimpArgs false
namespace Go.Proofs.Ytaepdbkfaoiimab
open Go.RowKit
attribute [local go_sem ↓] eql_err eql_nilerr neq_err neq_nilerr guard_err guard_nilerr guardn_err guardn_nilerr

def cmpv (a b : ByteArray) : Int := Lib.compareBytes a.data.toList b.data.toList
theorem cb_lt : ∀ x y : List UInt8, (Lib.compareBytes x y < 0 ↔ Op.bytesLess x y = true) ∧ (Lib.compareBytes x y = 0 ↔ x = y) ∧ (Lib.compareBytes x y = -1 ∨ Lib.compareBytes x y = 0 ∨ Lib.compareBytes x y = 1)
  | [], [] => by simp [Lib.compareBytes, Op.bytesLess]
  | [], _ :: _ => by simp [Lib.compareBytes, Op.bytesLess]
  | _ :: _, [] => by simp [Lib.compareBytes, Op.bytesLess]
  | a :: x, b :: y => by
    obtain ⟨h1, h2, h3⟩ := cb_lt x y
    rw [Lib.compareBytes]
    by_cases hab : a < b
    · rw [if_pos hab]
      have hne : a ≠ b := fun e => by subst e; exact absurd hab (UInt8.lt_irrefl a)
      simp [Op.bytesLess, hab, hne]
    · rw [if_neg hab]
      by_cases hba : b < a
      · rw [if_pos hba]
        have hne : a ≠ b := fun e => by subst e; exact absurd hba (UInt8.lt_irrefl a)
        simp [Op.bytesLess, hab, hne]
      · rw [if_neg hba]
        have he : a = b := UInt8.le_antisymm (UInt8.not_lt.1 hba) (UInt8.not_lt.1 hab)
        subst he
        refine ⟨by simp [Op.bytesLess, h1, hab], by simp [h2], h3⟩
theorem cmpv_lt (a b : ByteArray) : cmpv a b < 0 ↔ ltB a b = true := by
  unfold cmpv ltB
  rw [← ByteArray.toList_eq, ← ByteArray.toList_eq]
  exact (cb_lt _ _).1
theorem cmpv_eq (a b : ByteArray) : cmpv a b = 0 ↔ a = b := by
  unfold cmpv
  rw [← ByteArray.toList_eq, ← ByteArray.toList_eq]
  exact (cb_lt _ _).2.1.trans (toList_inj a b)
theorem rises_at {es : List Ent} (h : Rises es) {i j : Nat} {x y : Ent} (hij : i < j) (hx : es[i]? = some x) (hy : es[j]? = some y) : ltB x.k y.k = true := by
  have hj : j < es.length := by
    rcases Nat.lt_or_ge j es.length with h | h
    · exact h
    · rw [List.getElem?_eq_none h] at hy; cases hy
  have hi : i < es.length := by omega
  rw [List.getElem?_eq_getElem hi] at hx
  rw [List.getElem?_eq_getElem hj] at hy
  cases hx; cases hy
  exact List.pairwise_iff_getElem.1 h i j hi hj hij
theorem get1_any (x : Ent) (key : ByteArray) (w : World) :
    Calls Try.prog 79 #[.agg #[.string x.k, .string x.v, .bool x.g], .string key] w fun e w' => e = .returned (.int .i64 (cmpv x.k key)) ∧ Below w.heap.size w w' := by
  have HC := Lib.hid (fun w => Try.strings_Compare x.k key w)
  go_enter Try.func79, Try.ntmps79
  go_wp2_with (go_at_call 80; refine (HC.out _).mono ?_; rintro e2 w2 ⟨rfl, rfl⟩)
  go_ret
  exact ⟨rfl, (Below.refl _ _).alloc (Nat.le_refl _) _⟩
/-- Where a key stands in entries that rise, and whether it does. -/
structure BsR (es : List Ent) (key : ByteArray) (a : Nat) (is : Bool) : Prop where
  le : a ≤ es.length
  lo : ∀ i e, i < a → es[i]? = some e → ltB e.k key = true
  hi : ∀ i e, a ≤ i → es[i]? = some e → ltB e.k key = false
  is : is = true ↔ ∃ e, es[a]? = some e ∧ e.k = key
set_option maxRecDepth 20000 in
set_option maxHeartbeats 4000000 in
theorem bsf_any (B : Nat) (v : Value) (es : List Ent) (key : ByteArray) (w : World) (h : Ents B w v es) (hr : Rises es) (hn : es.length ≤ 1000000) :
    Calls Try.prog 78 #[v, .string key, .func (.func 79) #[] #[]] w fun e w' => ∃ a is, e = .returned (.tuple #[.int .i64 (a : Nat), .bool is]) ∧ BsR es key a is ∧ Below w.heap.size w w' := by
  obtain ⟨A, c, rfl, hc, hc2, hcell⟩ := h.form
  have HC := Lib.hid hcell
  have HRI := Lib.hid hr
  clear hcell h hr
  go_enter Try.func78, Try.ntmps78
  go_wp2_with fail
  go_loopw [9, 10] (fun i j wr => ∃ a d : Nat, a ≤ d ∧ d ≤ es.length ∧ i = .int .i64 a ∧ j = .int .i64 d ∧ Hid ((∀ i e, i < a → es[i]? = some e → ltB e.k key = true) ∧ (∀ i e, d ≤ i → es[i]? = some e → ltB e.k key = false)) ∧ Below w.heap.size w wr) (fun i j _ => (intOf j).toNat - (intOf i).toNat)
  case atStart => exact ⟨0, es.length, Nat.zero_le _, Nat.le_refl _, rfl, rfl, ⟨fun i e h => absurd h (by omega), fun i e h h2 => by rw [List.getElem?_eq_none h] at h2; cases h2⟩, Below.refl _ _⟩
  case round =>
    obtain ⟨a, d, had, hd, rfl, rfl, hinv, hbl⟩ := hrel
    by_cases hlt : a < d
    · have t1 : decide ((a : Int) < (d : Int)) = true := decide_eq_true (by omega)
      obtain ⟨m, hm⟩ : ∃ m : Nat, (a + d) / 2 = m := ⟨_, rfl⟩
      have hmn : m < es.length := by omega
      obtain ⟨x, hx, htk, _⟩ := getElem?_of_lt hmn
      obtain ⟨b, o, rfl, hb, c1, c2, c3⟩ := HC.out m x hx
      have d1 := (hbl.cell (p := ⟨b, o + m * 3, none⟩) hb).trans c1
      have d2 := (hbl.cell (p := ⟨b, o + m * 3 + 1, none⟩) hb).trans c2
      have d3 := (hbl.cell (p := ⟨b, o + m * 3 + 2, none⟩) hb).trans c3
      have hm2 : ((a : Int) + (d : Int)) / 2 = (m : Int) := by omega
      have HCM := Lib.hid (get1_any x key wr)
      clear htk c1 c2 c3
      have g1 : (0 : Int) ≤ (m : Int) := by omega
      have g2 : (m : Int) < (es.length : Int) := by omega
      have HX := Lib.hid hx
      have HBL := Lib.hid hbl
      clear hx
      have hinv := hinv.out
      by_cases hl : cmpv x.k key < 0
      · have hlo : Hid ((∀ i e, i < m + 1 → es[i]? = some e → ltB e.k key = true) ∧ (∀ i e, d ≤ i → es[i]? = some e → ltB e.k key = false)) := by
          refine ⟨fun i e hi he => ?_, hinv.2⟩
          rcases Nat.lt_or_ge i m with h | h
          · exact ltB_trans (rises_at HRI.out h he HX.out) ((cmpv_lt _ _).1 hl)
          · have : i = m := by omega
            subst this
            rw [HX.out] at he
            cases he
            exact (cmpv_lt _ _).1 hl
        have t2 : decide (cmpv x.k key < 0) = true := decide_eq_true hl
        generalize cmpv x.k key = cv at *
        clear hinv hbl
        go_wp2_with (go_at_call 79; refine HCM.out.mono ?_; rintro e2 w2 ⟨rfl, hb2⟩; have HB2 := Lib.hid (HBL.out.trans (hb2.mono HBL.out.size)); clear hb2)
        go_roundw
        case rel => exact ⟨m + 1, d, by omega, hd, by go_num, rfl, hlo, HB2.out⟩
        case measure => simp [intOf] <;> omega
      · have hlo : Hid ((∀ i e, i < a → es[i]? = some e → ltB e.k key = true) ∧ (∀ i e, m ≤ i → es[i]? = some e → ltB e.k key = false)) := by
          refine ⟨hinv.1, fun i e hi he => ?_⟩
          have hx0 : ltB x.k key = false := by
            cases hh : ltB x.k key
            · rfl
            · exact absurd ((cmpv_lt _ _).2 hh) hl
          rcases Nat.lt_or_ge m i with h | h
          · cases hh : ltB e.k key
            · rfl
            · have := ltB_trans (rises_at HRI.out h HX.out he) hh
              rw [hx0] at this
              cases this
          · have : i = m := by omega
            subst this
            rw [HX.out] at he
            cases he
            exact hx0
        have t2 : decide (cmpv x.k key < 0) = false := decide_eq_false hl
        generalize cmpv x.k key = cv at *
        clear hinv hbl
        go_wp2_with (go_at_call 79; refine HCM.out.mono ?_; rintro e2 w2 ⟨rfl, hb2⟩; have HB2 := Lib.hid (HBL.out.trans (hb2.mono HBL.out.size)); clear hb2)
        go_roundw
        case rel => exact ⟨a, m, by omega, by omega, rfl, by go_num, hlo, HB2.out⟩
        case measure => simp [intOf] <;> omega
    · have had2 : a = d := by omega
      subst had2
      have t1 : decide ((a : Int) < (a : Int)) = false := decide_eq_false (by omega)
      by_cases hlast : a < es.length
      · obtain ⟨x, hx, htk, _⟩ := getElem?_of_lt hlast
        obtain ⟨b, o, rfl, hb, c1, c2, c3⟩ := HC.out a x hx
        have d1 := (hbl.cell (p := ⟨b, o + a * 3, none⟩) hb).trans c1
        have d2 := (hbl.cell (p := ⟨b, o + a * 3 + 1, none⟩) hb).trans c2
        have d3 := (hbl.cell (p := ⟨b, o + a * 3 + 2, none⟩) hb).trans c3
        have HCM := Lib.hid (get1_any x key wr)
        have HX := Lib.hid hx
        have HBL := Lib.hid hbl
        clear htk c1 c2 c3 hx hbl
        have t3 : decide ((a : Int) < (es.length : Int)) = true := decide_eq_true (by omega)
        have g1 : (0 : Int) ≤ (a : Int) := by omega
        have g2 : (a : Int) < (es.length : Int) := by omega
        have HEND : Hid (BsR es key a (cmpv x.k key == 0)) := by
          refine ⟨hd, hinv.out.1, hinv.out.2, ?_⟩
          rw [beq_iff_eq, cmpv_eq, HX.out]
          exact ⟨fun h => ⟨x, rfl, h⟩, fun ⟨e, h1, h2⟩ => by cases h1; exact h2⟩
        generalize cmpv x.k key = cv at *
        go_wp2_with (go_at_call 79; refine HCM.out.mono ?_; rintro e2 w2 ⟨rfl, hb2⟩; have HB2 := Lib.hid (HBL.out.trans (hb2.mono HBL.out.size)); clear hb2)
        go_ret2
        exact ⟨a, _, rfl, HEND.out, HB2.out⟩
      · have t3 : decide ((a : Int) < (es.length : Int)) = false := decide_eq_false (by omega)
        have HEND : Hid (BsR es key a false) := by
          refine ⟨hd, hinv.out.1, hinv.out.2, ?_⟩
          rw [List.getElem?_eq_none (by omega)]
          exact ⟨fun h => (by cases h), fun ⟨e, h1, _⟩ => by cases h1⟩
        go_wp2_with fail
        go_ret2
        exact ⟨a, false, rfl, HEND.out, hbl⟩
/-- An entry or the zero one. -/
def entO : Option Ent → Value
  | some e => .agg #[.string e.k, .string e.v, .bool e.g]
  | none => .agg #[.string ByteArray.empty, .string ByteArray.empty, .bool false]
theorem getE_none {l : List Ent} {key : ByteArray} (h : ∀ e ∈ l, e.k ≠ key) : getE l key = none := by
  unfold getE
  rw [List.find?_eq_none]
  intro e he
  simpa using h e he
theorem rises_app {a b : List Ent} (h : Rises (a ++ b)) : Rises a ∧ Rises b ∧ ∀ x ∈ a, ∀ y ∈ b, ltB x.k y.k = true := List.pairwise_append.1 h
/-- One page is looked at. -/
theorem get_parts {ps : List (List Ent)} {l q : List Ent} {key : ByteArray} {k a : Nat} {is : Bool} (hl : ps.flatten = l) (hr : Rises l) (hq : ps[k]? = some q) (hne : q ≠ []) (hb : BsR q key a is) :
    (is = true → ∃ e, q[a]? = some e ∧ getE l key = some e) ∧
    (is = false → a = 0 → ∀ e ∈ (ps.drop k).flatten, ltB key e.k = true) ∧
    (is = false → a = q.length → ∀ e ∈ (ps.take (k + 1)).flatten, ltB e.k key = true) ∧
    (is = false → a ≠ 0 → a ≠ q.length → getE l key = none) := by
  have hk : k < ps.length := by
    rcases Nat.lt_or_ge k ps.length with h | h
    · exact h
    · rw [List.getElem?_eq_none h] at hq; cases hq
  have hqe : ps[k] = q := by rw [List.getElem?_eq_getElem hk] at hq; exact Option.some.inj hq
  have hsp : l = (ps.take k).flatten ++ (q ++ (ps.drop (k + 1)).flatten) := by
    rw [← hl]
    conv => lhs; rw [← List.take_append_drop k ps, List.drop_eq_getElem_cons hk, hqe]
    simp
  have hdr : (ps.drop k).flatten = q ++ (ps.drop (k + 1)).flatten := by rw [List.drop_eq_getElem_cons hk, hqe]; rfl
  have htk : (ps.take (k + 1)).flatten = (ps.take k).flatten ++ q := by rw [List.take_succ_eq_append_getElem hk, hqe]; simp
  rw [hsp] at hr
  obtain ⟨r1, r2, r3⟩ := rises_app hr
  obtain ⟨r4, r5, r6⟩ := rises_app r2
  obtain ⟨x0, q', rfl⟩ : ∃ x q', q = x :: q' := by cases q with | nil => exact absurd rfl hne | cons x q' => exact ⟨x, q', rfl⟩
  have hgt : ∀ e, is = false → ∀ i, a ≤ i → (x0 :: q')[i]? = some e → ltB key e.k = true := by
    intro e hi i hai he
    have h1 := hb.hi i e hai he
    cases hh : ltB key e.k
    · have := ltB_tri h1 hh
      exfalso
      rcases Nat.lt_or_ge a i with h2 | h2
      · have hai' : a < (x0 :: q').length := by
          have : i < (x0 :: q').length := by
            rcases Nat.lt_or_ge i (x0 :: q').length with h | h
            · exact h
            · rw [List.getElem?_eq_none h] at he; cases he
          omega
        have hy := List.getElem?_eq_getElem hai'
        have h3 := hb.hi a _ (Nat.le_refl _) hy
        have h4 := rises_at r4 h2 hy he
        rw [this] at h4
        rw [h4] at h3
        cases h3
      · have : i = a := by omega
        subst this
        have := hb.is.2 ⟨e, he, by assumption⟩
        rw [hi] at this
        cases this
    · rfl
  refine ⟨fun hi => ?_, fun hi ha => ?_, fun hi ha => ?_, fun hi h0 hn => ?_⟩
  · obtain ⟨e, he, hk⟩ := hb.is.1 hi
    refine ⟨e, he, ?_⟩
    rw [← hk, hsp]
    exact getE_of_mem hr (List.mem_append_right _ (List.mem_append_left _ (List.mem_of_getElem? he)))
  · subst ha
    rw [hdr]
    intro e he
    have hx := hgt x0 hi 0 (Nat.le_refl _) rfl
    rcases List.mem_append.1 he with he | he
    · obtain ⟨i, hi2, hie⟩ := List.getElem_of_mem he
      exact hgt e hi i (Nat.zero_le _) (by rw [List.getElem?_eq_getElem hi2, hie])
    · exact ltB_trans hx (r6 x0 (List.mem_cons_self) e he)
  · have hall : ∀ e ∈ (x0 :: q'), ltB e.k key = true := by
      intro e he
      obtain ⟨i, hi2, hie⟩ := List.getElem_of_mem he
      exact hb.lo i e (by omega) (by rw [List.getElem?_eq_getElem hi2, hie])
    rw [htk]
    intro e he
    rcases List.mem_append.1 he with he | he
    · exact ltB_trans (r3 e he x0 (List.mem_append_left _ List.mem_cons_self)) (hall x0 List.mem_cons_self)
    · exact hall e he
  · have hle := hb.le
    have hx := hb.lo 0 x0 (by omega) rfl
    have hal : a < (x0 :: q').length := by omega
    have hy := List.getElem?_eq_getElem hal
    have hy2 := hgt _ hi a (Nat.le_refl _) hy
    rw [hsp]
    refine getE_none fun e he hek => ?_
    rcases List.mem_append.1 he with he | he
    · have := ltB_trans (r3 e he x0 (List.mem_append_left _ List.mem_cons_self)) hx
      rw [hek, ltB_irrefl] at this; cases this
    · rcases List.mem_append.1 he with he | he
      · obtain ⟨i, hi2, hie⟩ := List.getElem_of_mem he
        rcases Nat.lt_or_ge i a with h | h
        · have := hb.lo i e h (by rw [List.getElem?_eq_getElem hi2, hie])
          rw [hek, ltB_irrefl] at this; cases this
        · have := hgt e hi i h (by rw [List.getElem?_eq_getElem hi2, hie])
          rw [hek, ltB_irrefl] at this; cases this
      · have := ltB_trans hy2 (r6 _ (List.mem_of_getElem? hy) e he)
        rw [hek, ltB_irrefl] at this; cases this
theorem ent3 {n g T : Nat} {w W : World} {x y z : Value} (hk : Blk W g T #[x, y, z]) (hb : Below n w W) (hn : n ≤ g) (hg : w.heap.size ≤ W.heap.size) (a b c : Value) :
    Below n w (((W.setCell ⟨g, 0, none⟩ a).setCell ⟨g, 1, none⟩ b).setCell ⟨g, 2, none⟩ c) ∧ (((W.setCell ⟨g, 0, none⟩ a).setCell ⟨g, 1, none⟩ b).setCell ⟨g, 2, none⟩ c).cell? ⟨g, 0, none⟩ = some a ∧
      (((W.setCell ⟨g, 0, none⟩ a).setCell ⟨g, 1, none⟩ b).setCell ⟨g, 2, none⟩ c).cell? ⟨g, 1, none⟩ = some b ∧ (((W.setCell ⟨g, 0, none⟩ a).setCell ⟨g, 1, none⟩ b).setCell ⟨g, 2, none⟩ c).cell? ⟨g, 2, none⟩ = some c := by
  have h := ((hk.set_ 0 a).set_ 1 b).set_ 2 c
  refine ⟨((hb.setCell (p := ⟨g, 0, none⟩) hn _).setCell (p := ⟨g, 1, none⟩) hn _).setCell (p := ⟨g, 2, none⟩) hn _, ?_, ?_, ?_⟩ <;> rw [h.cell] <;> rfl
theorem errV9 : errV 9 = .iface 107 (.int .i64 9) := rfl
theorem chunks_ne {l : List Ent} : ∀ q ∈ chunks2 l, q ≠ [] := by
  have key : ∀ (n : Nat) (l : List Ent), l.length ≤ n → ∀ q ∈ chunks2 l, q ≠ [] := by
    intro n
    induction n using Nat.strongRecOn with
    | _ n ih =>
      intro l hn q hq
      match l, hn, hq with
      | [], _, hq => cases hq
      | [a], _, hq => have := List.mem_singleton.1 hq; subst this; simp
      | a :: b :: l, hn, hq =>
        rcases List.mem_cons.1 hq with rfl | hq
        · simp
        · simp only [List.length_cons] at hn
          exact ih (n - 2) (by omega) l (by omega) q hq
  exact key _ l (Nat.le_refl _)
set_option maxRecDepth 20000 in
set_option maxHeartbeats 8000000 in
theorem tabget_any (B p b : Nat) (c : Chip) (l : List Ent) (key : ByteArray) (w : World) (h : ChipR B w p c) (hb : b < 24) (hd : c.down = false) (ht : TabAt c b l) (hks : key.size ≤ 9223372036854775807)
    (hmay : mayB (fOf (l.map Ent.k)) key = false → getE l key = none) :
    Calls Try.prog 47 #[.pointer (some ⟨p, 0, none⟩), .int .i64 b, .string key] w fun e w' => e = .returned (.tuple #[entO (getE l key), .bool (getE l key).isSome, .nilIface]) ∧ Below w.heap.size w w' := by
  have hB0 : B ≤ w.heap.size := by obtain ⟨V, u, hv, _⟩ := h; have := hv.base; have := hv.blk.lt; omega
  have hpart := tabF_parts ht.ok
  have hris := (chkT_rises hpart.2.2).1
  have hcl := chunks2_len l
  have hpn : (chunks2 l).length ≤ 7 := by omega
  have hpl : (c.b b).l.length = 1 + (chunks2 l).length := by rw [ht.pages]; simp [tabPages, rawPages]; omega
  have HA : Hid (∀ W, Below w.heap.size w W → ChipR B W p c) := fun W hb => h.below hb
  have HRD : Hid (∀ W, Below w.heap.size w W → Calls Try.prog 42 #[.pointer (some ⟨p, 0, none⟩), .int .i64 b, .int .i64 0] W fun e w' => e = .returned (.tuple #[.string (pad (bitsB (fOf (l.map Ent.k)))), .nilIface]) ∧ W = w') := by
    intro W hb'
    have := cread_any B p c b 0 W (h.below hb')
    rw [tab_read0 hb hd ht] at this
    exact this
  have HNX : Hid (∀ W, Below w.heap.size w W → Calls Try.prog 34 #[.pointer (some ⟨p, 0, none⟩), .int .i64 b] W fun e w' => e = .returned (.int .i64 (1 + (chunks2 l).length : Nat)) ∧ W = w') := by
    intro W hb'
    have := next_any B p c b W (h.below hb') (by omega) (by omega)
    rw [Int.toNat_natCast, hpl] at this
    exact this
  have HUB := Lib.hid (fun W => unbits_any (fOf (l.map Ent.k)) (fOf_lt _) W)
  have HMY := Lib.hid (fun W => may_any (fOf (l.map Ent.k)) key W hks (fOf_lt _))
  have HPG : Hid (∀ (k : Nat) (q : List Ent), (chunks2 l)[k]? = some q → ∀ W, Below w.heap.size w W → Calls Try.prog 77 #[.pointer (some ⟨p, 0, none⟩), .int .i64 b, .int .i64 ((k : Int) + 1)] W fun e w2 => ∃ v, e = .returned (.tuple #[v, .nilIface]) ∧ Ents w.heap.size w2 v q ∧ Below W.heap.size W w2) := by
    intro k q hq W hb'
    have hk : k < (chunks2 l).length := by
      rcases Nat.lt_or_ge k (chunks2 l).length with h | h
      · exact h
      · rw [List.getElem?_eq_none h] at hq; cases hq
    have hpr := tab_pageR hb (show k < 7 by omega) hd ht
    rw [show ((1 : Int) + (k : Int)) = (k : Int) + 1 from by omega, hq] at hpr
    refine (page_any B p c b ((k : Int) + 1) W (h.below hb')).mono ?_
    rintro e w2 ⟨v, rfl, hv, hb2⟩
    rw [hpr] at hv ⊢
    exact ⟨v, rfl, ⟨hv.1.mono hB0, hv.2⟩, hb2⟩
  have HPS : Hid ((chunks2 l).flatten = l) := chunks2_flatten l
  have HNE : Hid (∀ q ∈ chunks2 l, q ≠ [] ∧ Rises q ∧ q.length ≤ 2) := fun q hq => ⟨chunks_ne q hq, by
    obtain ⟨i, hi, hie⟩ := List.getElem_of_mem hq
    have hr := hris
    rw [← chunks2_flatten l, ← List.take_append_drop i (chunks2 l), List.flatten_append, List.drop_eq_getElem_cons hi, hie, List.flatten_cons] at hr
    exact (rises_app (rises_app hr).2.1).1, (chunks2_mem hq).1⟩
  have HRS := Lib.hid hris
  have HMN := Lib.hid hmay
  generalize chunks2 l = ps at *
  generalize pad (bitsB (fOf (l.map Ent.k))) = s0 at *
  generalize fOf (l.map Ent.k) = f0 at *
  have fin : ∀ (W : World) (tmps : Array Value) (o : Option Ent), getE l key = o → Below w.heap.size w W → W.cell? ⟨w.heap.size, 0, none⟩ = some (.string ((o.map Ent.k).getD ByteArray.empty)) → W.cell? ⟨w.heap.size, 1, none⟩ = some (.string ((o.map Ent.v).getD ByteArray.empty)) → W.cell? ⟨w.heap.size, 2, none⟩ = some (.bool ((o.map Ent.g).getD false)) →
      tmps[6]? = some (.pointer (some ⟨w.heap.size, 0, none⟩)) → tmps[7]? = some (.bool o.isSome) → tmps[8]? = some .nilIface →
      bodyPost Try.prog Try.f47 (fun e w' => e = .returned (.tuple #[entO (getE l key), .bool (getE l key).isSome, .nilIface]) ∧ Below w.heap.size w w') .ret { tmps := tmps, defers := [] } W := by
    intro W tmps o ho hb c0 c1 c2 t6 t7 t8
    rw [ho]
    refine bodyPost_ret (v := .tuple #[.agg #[.string ((o.map Ent.k).getD ByteArray.empty), .string ((o.map Ent.v).getD ByteArray.empty), .bool ((o.map Ent.g).getD false)], .bool o.isSome, .nilIface]) (by simp [results, Try.results47, go_sem, t6, t7, t8, c0, c1, c2]) rfl ⟨?_, hb⟩
    cases o <;> rfl
  have FIN := Lib.hid fin
  clear fin h hd ht hpart hris hmay hpl hcl
  go_enter Try.func47, Try.ntmps47
  have HB0 : Hid (Below w.heap.size w (w.alloc (.cells #[.string ByteArray.empty, .string ByteArray.empty, .bool false] 25))) := (Below.refl _ _).alloc (Nat.le_refl _) _
  have HE0 := Lib.hid (Blk.new w 25 #[.string ByteArray.empty, .string ByteArray.empty, .bool false])
  cases hm : mayB f0 key
  · have HGN := Lib.hid (HMN.out hm)
    rw [hm] at HMY
    go_wp2_with (first
      | (go_at_call 42; refine (HRD.out _ HB0.out).mono ?_; rintro e2 w2 ⟨rfl, rfl⟩)
      | (go_at_call 75; refine (HUB.out _).mono ?_; rintro e2 w2 ⟨rfl, n2, rfl⟩)
      | (go_at_call 76; refine (HMY.out _).mono ?_; rintro e2 w2 ⟨rfl, rfl⟩))
    have h3 := ent3 (HE0.out.drewN n2) (below_drewN HB0.out n2) (Nat.le_refl _) (by simp) (.string ByteArray.empty) (.string ByteArray.empty) (.bool false)
    exact FIN.out _ _ none HGN.out h3.1 h3.2.1 h3.2.2.1 h3.2.2.2 rfl rfl rfl
  · rw [hm] at HMY
    go_wp2_with (first
      | (go_at_call 42; refine (HRD.out _ HB0.out).mono ?_; rintro e2 w2 ⟨rfl, rfl⟩)
      | (go_at_call 75; refine (HUB.out _).mono ?_; rintro e2 w2 ⟨rfl, n2, rfl⟩)
      | (go_at_call 76; refine (HMY.out _).mono ?_; rintro e2 w2 ⟨rfl, rfl⟩)
      | (go_at_call 34; refine (HNX.out _ (below_drewN HB0.out _)).mono ?_; rintro e2 w2 ⟨rfl, rfl⟩))
    clear HRD HNX HUB HMY HMN
    go_loopw [13, 14] (fun i j wr => ∃ lo hi : Nat, lo ≤ hi ∧ hi ≤ ps.length ∧ i = .int .i64 ((lo + 1 : Nat) : Int) ∧ j = .int .i64 ((hi + 1 : Nat) : Int) ∧ Hid ((∀ e ∈ (ps.take lo).flatten, ltB e.k key = true) ∧ (∀ e ∈ (ps.drop hi).flatten, ltB key e.k = true)) ∧ Below w.heap.size w wr ∧ Hid (Blk wr w.heap.size 25 #[.string ByteArray.empty, .string ByteArray.empty, .bool false])) (fun i j _ => (intOf j).toNat - (intOf i).toNat)
    case atStart => exact ⟨0, ps.length, Nat.zero_le _, Nat.le_refl _, rfl, by congr 1; omega, ⟨fun e he => by simp at he, fun e he => by simp at he⟩, below_drewN HB0.out _, HE0.out.drewN _⟩
    case round =>
      obtain ⟨lo, hi, hle, hhi, rfl, rfl, hinv, hbl, hblk⟩ := hrel
      by_cases hlt : lo < hi
      · have t1 : decide (((lo + 1 : Nat) : Int) < ((hi + 1 : Nat) : Int)) = true := decide_eq_true (by omega)
        obtain ⟨m, hm⟩ : ∃ m : Nat, (lo + hi) / 2 = m := ⟨_, rfl⟩
        have hmm : ((lo : Int) + 1 + ((hi : Int) + 1)).tdiv 2 = (m : Int) + 1 := by
          rw [Int.tdiv_eq_ediv_of_nonneg (by omega)]
          omega
        have hmp : m < ps.length := by omega
        obtain ⟨q, hq⟩ : ∃ q, ps[m]? = some q := ⟨_, List.getElem?_eq_getElem hmp⟩
        obtain ⟨hqn, hqr, hq2⟩ := HNE.out q (List.mem_of_getElem? hq)
        have HP := Lib.hid (HPG.out m q hq wr hbl)
        have HPT := Lib.hid (fun a is (h : BsR q key a is) => get_parts HPS.out HRS.out hq hqn h)
        have HBS := Lib.hid (fun W v (hv : Ents w.heap.size W v q) => bsf_any w.heap.size v q key W hv hqr (by omega))
        have HBL := Lib.hid hbl
        have HQR := Lib.hid hqr
        clear hq hqn hqr hbl
        go_wp2_with (go_at_call 77; refine HP.out.mono ?_; rintro e3 w3 ⟨v3, rfl, hv3, hb3⟩; have HV3 := Lib.hid hv3; have HB3 := Lib.hid (HBL.out.trans (hb3.mono HBL.out.size)); have HK3 := Lib.hid (hblk.out.below hb3 hblk.out.lt); clear hb3 hv3)
        refine (HBS.out _ _ HV3.out).mono ?_
        rintro e4 w4 ⟨a, is, rfl, hbs, hb4⟩
        have HB4 := Lib.hid (HB3.out.trans (hb4.mono HB3.out.size))
        have hv4 := HV3.out.below hb4
        obtain ⟨A3, cp3, rfl, hcp3, hcp4, hcell3⟩ := hv4.form
        have HC4 := Lib.hid hcell3
        have hk4 := HK3.out.below hb4 HK3.out.lt
        have HK4 := Lib.hid hk4
        have HPR := Lib.hid (HPT.out a is hbs)
        have hal := hbs.le
        have q0 := hk4.cell 0
        have q1 := hk4.cell 1
        have q2 := hk4.cell 2
        have f0' := hk4.frozen 0
        have f1' := hk4.frozen 1
        have f2' := hk4.frozen 2
        simp at q0 q1 q2
        clear hb4 hbs hv4 hcell3 hk4 HPT HBS HP HPG HNE
        cases is
        · by_cases ha0 : a = 0
          · have t5 : (((a : Nat) : Int) == 0) = true := by rw [ha0]; rfl
            have hnew : Hid ((∀ e ∈ (ps.take lo).flatten, ltB e.k key = true) ∧ (∀ e ∈ (ps.drop m).flatten, ltB key e.k = true)) := ⟨hinv.out.1, HPR.out.2.1 rfl ha0⟩
            go_wp2_with fail
            go_roundw
            case rel => exact ⟨lo, m, by omega, by omega, by go_num, by go_num, hnew, HB4.out, HK4⟩
            case measure => simp [intOf] <;> omega
          · have t5 : (((a : Nat) : Int) == 0) = false := beq_eq_false_iff_ne.2 (by omega)
            by_cases han : a = q.length
            · have t6 : (((a : Nat) : Int) == ((q.length : Nat) : Int)) = true := by rw [han]; simp
              have hnew : Hid ((∀ e ∈ (ps.take (m + 1)).flatten, ltB e.k key = true) ∧ (∀ e ∈ (ps.drop hi).flatten, ltB key e.k = true)) := ⟨HPR.out.2.2.1 rfl han, hinv.out.2⟩
              go_wp2_with fail
              go_roundw
              case rel => exact ⟨m + 1, hi, by omega, by omega, by go_num, by go_num, hnew, HB4.out, HK4⟩
              case measure => simp [intOf] <;> omega
            · have t6 : (((a : Nat) : Int) == ((q.length : Nat) : Int)) = false := beq_eq_false_iff_ne.2 (by omega)
              have HGN := Lib.hid (HPR.out.2.2.2 rfl ha0 han)
              have h3 := Lib.hid (ent3 HK4.out HB4.out (Nat.le_refl _) HB4.out.size (.string ByteArray.empty) (.string ByteArray.empty) (.bool false))
              go_wp2_with fail
              exact FIN.out _ _ none HGN.out h3.out.1 h3.out.2.1 h3.out.2.2.1 h3.out.2.2.2 rfl rfl rfl
        · obtain ⟨e, he1, he2⟩ := HPR.out.1 rfl
          obtain ⟨b', o', rfl, hb', c1, c2, c3⟩ := HC4.out a e he1
          have HGN := Lib.hid he2
          have hal2 : a < q.length := by
            rcases Nat.lt_or_ge a q.length with h | h
            · exact h
            · rw [List.getElem?_eq_none h] at he1; cases he1
          have g1 : (0 : Int) ≤ (a : Int) := by omega
          have g2 : (a : Int) < (q.length : Int) := by omega
          have h3 := Lib.hid (ent3 HK4.out HB4.out (Nat.le_refl _) HB4.out.size (.string e.k) (.string e.v) (.bool e.g))
          clear he1 he2
          go_wp2_with fail
          exact FIN.out _ _ (some e) HGN.out h3.out.1 h3.out.2.1 h3.out.2.2.1 h3.out.2.2.2 rfl rfl rfl
      · have he : lo = hi := by omega
        subst he
        have t1 : decide (((lo + 1 : Nat) : Int) < ((lo + 1 : Nat) : Int)) = false := decide_eq_false (by omega)
        have HGN : Hid (getE l key = none) := by
          refine getE_none fun e he hek => ?_
          rw [← HPS.out, ← List.take_append_drop lo ps, List.flatten_append] at he
          rcases List.mem_append.1 he with he | he
          · have := hinv.out.1 e he
            rw [hek, ltB_irrefl] at this; cases this
          · have := hinv.out.2 e he
            rw [hek, ltB_irrefl] at this; cases this
        have q0 := hblk.out.cell 0
        have q1 := hblk.out.cell 1
        have q2 := hblk.out.cell 2
        have f0' := hblk.out.frozen 0
        have f1' := hblk.out.frozen 1
        have f2' := hblk.out.frozen 2
        simp at q0 q1 q2
        have h3 := Lib.hid (ent3 hblk.out hbl (Nat.le_refl _) hbl.size (.string ByteArray.empty) (.string ByteArray.empty) (.bool false))
        go_wp2_with fail
        exact FIN.out _ _ none HGN.out h3.out.1 h3.out.2.1 h3.out.2.2.1 h3.out.2.2.2 rfl rfl rfl
end Go.Proofs.Ytaepdbkfaoiimab
/- The contracts of store.Rows, Get. Conditions: none but those that each names. -/
set_option linter.unusedVariables false
set_option linter.unusedSimpArgs false
namespace Go.Proofs.Ytaepdbkfaoiimab
open Go.RowKit
attribute [local go_sem ↓] eql_err eql_nilerr neq_err neq_nilerr guard_err guard_nilerr guardn_err guardn_nilerr
theorem orbitQ (l : List ByteArray) : ∀ (n i : Nat), n.testBit i = true → (l.foldl (fun f s => f ||| spBits s) n).testBit i = true := by
  induction l with
  | nil => intro n i h; exact h
  | cons s l ih => intro n i h; exact ih _ _ (by rw [Nat.testBit_or, h, Bool.true_or])
theorem spaQ (s : ByteArray) : (spBits s).testBit (spA s) = true := by rw [spBits, Nat.testBit_or, Nat.testBit_two_pow_self, Bool.true_or]
theorem spbQ (s : ByteArray) : (spBits s).testBit (spB s) = true := by rw [spBits, Nat.testBit_or, Nat.testBit_two_pow_self, Bool.or_true]
theorem ormemQ (l : List ByteArray) (s : ByteArray) (h : s ∈ l) : ∀ (n i : Nat), (spBits s).testBit i = true → (l.foldl (fun f s => f ||| spBits s) n).testBit i = true := by
  induction l with
  | nil => cases h
  | cons a l ih =>
    intro n i hi
    rcases List.mem_cons.1 h with rfl | h
    · exact orbitQ l _ _ (by rw [Nat.testBit_or, hi, Bool.or_true])
    · exact ih h _ _ hi
theorem maymemQ (l : List ByteArray) (s : ByteArray) (h : s ∈ l) : mayB (fOf l) s = true := by
  rw [mayB, fOf, ormemQ l s h _ _ (spaQ s), ormemQ l s h _ _ (spbQ s)]; rfl
theorem maygetQ (l : List Ent) (key : ByteArray) (h : mayB (fOf (l.map Ent.k)) key = false) : getE l key = none := by
  cases hg : getE l key with
  | none => rfl
  | some e =>
    obtain ⟨h1, h2⟩ := getE_mem hg
    rw [← h2, maymemQ _ _ (List.mem_map.2 ⟨e, h1, rfl⟩)] at h
    cases h

theorem sum_tabs : ∀ (ls : List (List Ent)), (∀ l ∈ ls, tabF l = 0) → sumLen ls ≤ 14 * ls.length
  | [], _ => by simp [sumLen]
  | l :: ls, h => by
    have h1 := sum_tabs ls fun x hx => h x (by simp [hx])
    have h2 := (tabF_parts (h l (by simp))).2.1
    simp only [sumLen, List.map_cons, List.sum_cons, List.length_cons] at *
    omega
theorem sum_lists {c : Chip} {s : SM} (hi : Inv c s) : sumLen (s.mem :: s.tabs) ≤ 1000 ∧ s.tabs.length ≤ 8 := by
  have h1 := sum_tabs s.tabs (tabsAt_ok hi.body.tabs)
  have h2 := tabsAt_len hi.body.tabs
  have h3 := hi.body.nwl
  have h4 := hi.body.odl
  have h5 := Fallen.mem_len hi
  rw [List.length_append] at h2
  simp only [sumLen, List.map_cons, List.sum_cons] at *
  omega
set_option maxHeartbeats 1000000 in
theorem srows_any (B : Nat) (q p : Nat) (c : Chip) (s : SM) (F : List Nat) (w : World) (h : StoreR B w q p s F) (hc : ChipR B w p c) (hi : Inv c s) :
    Calls Try.prog 89 #[.pointer (some ⟨q, 0, none⟩)] w fun e w' => ∃ v, e = .returned (.tuple #[v, .nilIface]) ∧ Ents B w' v s.rows ∧ Below w.heap.size w w' := by
  have fin : ∀ (wr : World) (tmps : Array Value) (v : Value), Ents B wr v s.rows → Below w.heap.size w wr → tmps[2]? = some v → tmps[3]? = some .nilIface →
      bodyPost Try.prog Try.f89 (fun e w' => ∃ v, e = .returned (.tuple #[v, .nilIface]) ∧ Ents B w' v s.rows ∧ Below w.heap.size w w') .ret { tmps := tmps, defers := [] } wr := by
    intro wr tmps v hv hb t2 t3
    exact bodyPost_ret (v := .tuple #[v, .nilIface]) (by simp [results, Try.results89, go_sem, t2, t3]) rfl ⟨v, rfl, hv, hb⟩
  have FIN := Lib.hid fin
  have HL := Lib.hid (lists_any B q p c s F w h hc hi)
  obtain ⟨h1, h2⟩ := sum_lists hi
  have h3 := mergeAll_len (s.mem :: s.tabs)
  have HROW : Hid (liveE (mergeAll (s.mem :: s.tabs)) = s.rows) := rfl
  have h4 : (s.mem :: s.tabs).length ≤ 1000 := by rw [List.length_cons]; omega
  generalize s.mem :: s.tabs = ls at *
  clear fin h hc hi h2
  go_enter Try.func89, Try.ntmps89
  go_wp2_with fail
  refine HL.out.mono ?_
  rintro e w1 ⟨v1, rfl, hv1, hb1⟩
  have HM := Lib.hid (all_any B v1 ls w1 hv1 (by omega) (by omega))
  have HB1 := Lib.hid hb1
  clear hv1 hb1 HL
  go_wp2_with fail
  refine HM.out.mono ?_
  rintro e w2 ⟨v2, rfl, hv2, hb2⟩
  have HV := Lib.hid (live_any B v2 _ w2 hv2 (by omega))
  have HB2 := Lib.hid (HB1.out.trans (hb2.mono HB1.out.size))
  clear hv2 hb2 HM
  go_wp2_with fail
  refine HV.out.mono ?_
  rintro e w3 ⟨v3, rfl, hv3, hb3⟩
  rw [HROW.out] at hv3
  have HV3 := Lib.hid hv3
  have HB3 := Lib.hid (HB2.out.trans (hb3.mono HB2.out.size))
  clear hv3 hb3 HV
  go_wp2_with fail
  exact FIN.out _ _ _ HV3.out HB3.out rfl rfl
/-- The first list that has a key tells. -/
def firstE (ls : List (List Ent)) (key : ByteArray) : Option Ent := ls.findSome? (fun l => getE l key)
theorem firstE_eq (key : ByteArray) : ∀ {ls : List (List Ent)}, (∀ l ∈ ls, Rises l) → getE (mergeAll ls) key = firstE ls key
  | [], _ => rfl
  | l :: ls, h => by
    rw [get_mergeAll_cons (h l (by simp)) (fun x hx => h x (by simp [hx])), firstE_eq key (fun x hx => h x (by simp [hx]))]
    unfold firstE
    rw [List.findSome?_cons]
    cases getE l key <;> rfl
/-- What a key has. -/
def SM.get (s : SM) (key : ByteArray) : Option Ent := (getE s.mem key).or (firstE s.tabs key)
theorem SM.get_rows {c : Chip} {s : SM} (hi : Inv c s) (key : ByteArray) : getE s.rows key = (s.get key).filter (fun e => !e.g) := by
  unfold SM.get SM.rows
  rw [rows_get hi.body.mem hi.body.tab, firstE_eq key hi.body.tab]
theorem firstE_drop {ls : List (List Ent)} {k : Nat} {l : List Ent} (h : ls[k]? = some l) (key : ByteArray) : firstE (ls.drop k) key = (getE l key).or (firstE (ls.drop (k + 1)) key) := by
  have hk : k < ls.length := by
    rcases Nat.lt_or_ge k ls.length with h' | h'
    · exact h'
    · rw [List.getElem?_eq_none h'] at h; cases h
  rw [List.drop_eq_getElem_cons hk]
  rw [List.getElem?_eq_getElem hk] at h
  cases h
  unfold firstE
  rw [List.findSome?_cons]
  cases getE ls[k] key <;> rfl
/-- What is told of a key. -/
def toldV (o : Option Ent) : Value := .tuple #[.string (o.getD Ent.zero).v, .bool (o.isSome && !(o.getD Ent.zero).g), .nilIface]
theorem entO_val' (o : Option Ent) : entO o = (o.getD Ent.zero).val := by cases o <;> rfl
set_option maxRecDepth 20000 in
set_option maxHeartbeats 4000000 in
theorem sget_any (B : Nat) (q p : Nat) (c : Chip) (s : SM) (F : List Nat) (key : ByteArray) (w : World) (h : StoreR B w q p s F) (hc : ChipR B w p c) (hi : Inv c s) (hks : key.size ≤ 9223372036854775807) :
    Calls Try.prog 83 #[.pointer (some ⟨q, 0, none⟩), .string key] w fun e w' => e = .returned (toldV (s.get key)) ∧ Below w.heap.size w w' := by
  have fin : ∀ (wr : World) (tmps : Array Value) (o : Option Ent) (x y : Value), s.get key = o → Below w.heap.size w wr → toldV o = .tuple #[x, y, .nilIface] → tmps[4]? = some x → tmps[5]? = some y → tmps[6]? = some .nilIface →
      bodyPost Try.prog Try.f83 (fun e w' => e = .returned (toldV (s.get key)) ∧ Below w.heap.size w w') .ret { tmps := tmps, defers := [] } wr := by
    intro wr tmps o x y ho hb hx t4 t5 t6
    rw [ho]
    exact bodyPost_ret (v := toldV o) (by rw [hx]; simp [results, Try.results83, go_sem, t4, t5, t6]) rfl ⟨rfl, hb⟩
  have FIN := Lib.hid fin
  clear fin
  have hlt := h.lt
  have hn5 := hi.body.nwl
  have ho3 := hi.body.odl
  have hml := Fallen.mem_len hi
  have hrng := hi.body.rng
  have HUP := Lib.hid hi.up
  have HTB := Lib.hid hi.body.tabs
  have HCR := Lib.hid hc
  have HRN : Hid (∀ b ∈ s.m.nw ++ s.m.od, 2 ≤ b ∧ b < 24) := fun b hb => hrng b (by simp only [Man.all, List.mem_cons]; exact .inr hb)
  have hbl : (s.m.nw ++ s.m.od).length ≤ 8 := by rw [List.length_append]; omega
  have hBw : B ≤ w.heap.size := Nat.le_of_lt (Nat.lt_of_le_of_lt h.base hlt)
  obtain ⟨bs, hbs⟩ : ∃ bs, bs = s.m.nw ++ s.m.od := ⟨_, rfl⟩
  rw [← hbs] at HTB HRN hbl
  have HBS := Lib.hid hbs
  clear hbs
  obtain ⟨A1, c1, A2, c2, t, n, hk, hn, ho, ht, _, _⟩ := h
  have HN := Lib.hid hn
  have HO := Lib.hid ho
  have x0 := hk.cell 0
  have x3 := hk.cell 3
  have x4 := hk.cell 4
  have x6 := hk.cell 6
  simp at x0 x3 x4 x6
  have HC : Hid (∀ w' : World, Below w.heap.size w w' → (w'.cell? ⟨q, 3, none⟩ = some (.slice A1 s.m.nw.length c1) ∧ w'.cell? ⟨q, 4, none⟩ = some (.slice A2 s.m.od.length c2)) ∧ Below w.heap.size w w') := fun w' hb =>
    ⟨⟨(hb.cell (p := ⟨q, 3, none⟩) hlt).trans x3, (hb.cell (p := ⟨q, 4, none⟩) hlt).trans x4⟩, hb⟩
  have HC0 : Hid (∀ w' : World, Below w.heap.size w w' → w'.cell? ⟨q, 0, none⟩ = some (.pointer (some ⟨p, 0, none⟩))) := fun w' hb => (hb.cell (p := ⟨q, 0, none⟩) hlt).trans x0
  have HG := Lib.hid (tget_two B t s.mem F key w ht (by omega))
  have HGET : Hid (s.get key = (getE s.mem key).or (firstE s.tabs key)) := rfl
  clear hrng hi hc hk hn ho ht x0 x3 x4
  go_enter Try.func83, Try.ntmps83
  go_wp2_with fail
  refine HG.out.mono ?_
  rintro e w1 ⟨⟨x, hx, rfl⟩, hb1⟩
  have hs1 := hb1.size
  have HB2 : Hid (Below w.heap.size w (w1.alloc (.cells #[.string x.k, .string x.v, .bool x.g] 25))) := hb1.alloc hs1 _
  have HX := Lib.hid hx
  clear hx HG hb1
  cases hg : getE s.mem key with
  | some e0 =>
    rw [hg] at HX HGET
    have HXE : Hid (x = e0) := HX.out
    have HGE : Hid (s.get key = some e0) := HGET.out
    clear hg HX HGET
    simp only [Option.isSome_some]
    go_wp2_with fail
    go_quiet (fail)
    go_wp2_with fail
    exact FIN.out _ _ _ (.string x.v) (.bool (!x.g)) HGE.out (below_drewN' HB2.out _) (by rw [HXE.out]; rfl) rfl rfl rfl
  | none =>
    rw [hg, Option.none_or] at HGET
    clear hg HX
    simp only [Option.isSome_none]
    have hsz2 : (w1.alloc (.cells #[.string x.k, .string x.v, .bool x.g] 25)).heap.size = w1.heap.size + 1 := by simp
    have hCC := concat_store (q := q) (p := p) (F := F) HN.out HO.out HB2.out (by omega) (by omega)
    rw [hsz2, ← HBS.out] at hCC
    have HCC := Lib.hid hCC
    have HB2D : Hid (Below w.heap.size w (w1.alloc (.cells #[.string x.k, .string x.v, .bool x.g] 25)).drew) := HB2.out.drew
    clear hCC hsz2
    go_wp2_with fail
    go_region_held3 (fun w' => (w'.cell? ⟨q, 3, none⟩ = some (.slice A1 s.m.nw.length c1) ∧ w'.cell? ⟨q, 4, none⟩ = some (.slice A2 s.m.od.length c2)) ∧ Below w.heap.size w w')
      ((first | exact HC.out _ HB2D.out | exact HC.out _ hB3 | exact HC.out _ (HB2.out.alloc HB2.out.size _).drew))
      ((first | (go_at_call 59; refine HCC.out.mono ?_; rintro e w3 ⟨v3, rfl, hi3, hB3, hBW⟩; obtain ⟨A3, c3, rfl, k5, k6, kc⟩ := hi3.form)))
    have HI3 := Lib.hid hi3
    have HB3 := Lib.hid hB3
    have HTL : Hid (bs.length = s.tabs.length) := tabsAt_len HTB.out
    clear hi3 hB3 kc hBW HC HN HO HB2 HB2D HCC
    go_wp2_with fail
    go_loopw [42] (fun i wr => ∃ (k : Nat), k ≤ bs.length ∧ i = .int .i64 (k : Int) ∧ Hid (s.get key = firstE (s.tabs.drop k) key) ∧ Hid (Ints B wr (.slice A3 bs.length c3) bs) ∧ Below w.heap.size w wr) (fun i _ => bs.length - (intOf i).toNat)
    case atStart => exact ⟨0, Nat.zero_le _, rfl, by rw [Hid, HGET.out]; rfl, HI3.out, HB3.out⟩
    case round =>
      obtain ⟨k, hk, rfl, hge, hi4, hbl4⟩ := hrel
      clear HI3 HB3 HGET
      by_cases hlt : k < bs.length
      · obtain ⟨b, hb, _, _⟩ := getElem?_of_lt hlt
        obtain ⟨l, hl, htab⟩ := tabsAt_at HTB.out k b hb
        have hbr := HRN.out b (List.mem_of_getElem? hb)
        obtain ⟨bn, rfl⟩ := Int.eq_ofNat_of_zero_le (show 0 ≤ b by omega)
        rw [Int.toNat_natCast] at htab
        obtain ⟨A4, c4, e4, _, _, hcell⟩ := hi4.out.form
        obtain ⟨bb, oo, rfl, hbb, y1⟩ := hcell k _ hb
        cases e4
        have hT := tabget_any B p bn c l key wr (HCR.out.below hbl4) (by omega) HUP.out htab hks (maygetQ _ _)
        rw [entO_val'] at hT
        have HGN : Hid (s.get key = (getE l key).or (firstE (s.tabs.drop (k + 1)) key)) := by rw [Hid, hge.out, firstE_drop hl]
        have x0 := HC0.out wr hbl4
        have HB4 := Lib.hid hbl4
        have hs4 := hbl4.size
        have g1 : (0 : Int) ≤ (k : Int) := by omega
        have g2 : (k : Int) < (bs.length : Int) := by omega
        obtain ⟨y, hy⟩ : ∃ y, y = (getE l key).getD Ent.zero := ⟨_, rfl⟩
        rw [← hy, show y.val = .agg #[.string y.k, .string y.v, .bool y.g] from rfl] at hT
        cases hgl : getE l key with
        | some e0 =>
          rw [hgl] at hT hy HGN
          have HXE : Hid (y = e0) := hy
          have HGE : Hid (s.get key = some e0) := HGN.out
          have HT := Lib.hid hT
          clear hb hl htab hcell hbr hbl4 hT hgl hy HGN hge
          go_wp2_with fail
          refine HT.out.mono ?_
          rintro e5 w5 ⟨rfl, hb5⟩
          have hbE : Below w.heap.size w (w5.alloc (.cells #[.string y.k, .string y.v, .bool y.g] 25)) := (HB4.out.trans (hb5.mono hs4)).alloc (Nat.le_trans hs4 hb5.size) _
          have HBE := Lib.hid hbE
          clear hb5 hbE HT
          simp only [Option.isSome_some]
          go_wp2_with fail
          go_quiet (fail)
          go_wp2_with fail
          exact FIN.out _ _ _ (.string y.v) (.bool (!y.g)) HGE.out (below_drewN' HBE.out _) (by rw [HXE.out]; rfl) rfl rfl rfl
        | none =>
          rw [hgl] at hT hy HGN
          have HGE : Hid (s.get key = firstE (s.tabs.drop (k + 1)) key) := by rw [Hid, HGN.out, Option.none_or]
          have HT := Lib.hid hT
          clear hb hl htab hcell hbr hbl4 hT hgl hy HGN hge
          go_wp2_with fail
          refine HT.out.mono ?_
          rintro e5 w5 ⟨rfl, hb5⟩
          have hb5' : Below wr.heap.size wr (w5.alloc (.cells #[.string y.k, .string y.v, .bool y.g] 25)) := hb5.alloc hb5.size _
          have HBE := Lib.hid (HB4.out.trans (hb5'.mono hs4))
          have HI5 := Lib.hid (hi4.out.below hb5')
          clear hb5 hb5' HT
          simp only [Option.isSome_none]
          go_wp2_with fail
          go_roundw
          case rel => exact ⟨k + 1, by omega, by go_num, HGE, HI5, HBE.out⟩
          case measure => simp [intOf] <;> omega
      · have g2 : decide ((k : Int) < (bs.length : Int)) = false := decide_eq_false (by omega)
        have HGE : Hid (s.get key = none) := by
          have := HTL.out
          rw [Hid, hge.out, List.drop_eq_nil_of_le (by omega)]
          rfl
        go_wp2_with fail
        exact FIN.out _ _ none (.string ByteArray.empty) (.bool false) HGE.out hbl4 rfl rfl rfl rfl
end Go.Proofs.Ytaepdbkfaoiimab
/- The contracts of store.Compact, few, flush, Flush. Conditions: the store is sound. -/
set_option linter.unusedVariables false
set_option linter.unusedSimpArgs false
namespace Go.Proofs.Ytaepdbkfaoiimab
open Go.RowKit
attribute [local go_sem ↓] eql_err eql_nilerr neq_err neq_nilerr guard_err guard_nilerr guardn_err guardn_nilerr
/-- What a function of the store leaves, that answers an error. -/
def SPost (B q p : Nat) (F : List Nat) (w : World) (r : Chip × SM × Nat) (e : Ending) (w' : World) : Prop :=
  e = .returned (errV r.2.2) ∧ ChipR B w' p r.1 ∧ (∃ F', StoreR B w' q p r.2.1 F' ∧ ∀ b ∈ F', b ∈ F ∨ w.heap.size ≤ b) ∧ Fr B (· ∈ q :: p :: F) w w'
theorem Lss.cut {B : Nat} {w : World} {b o n c : Nat} {y : List Ent} {ys : List (List Ent)} (h : Lss B w (.slice (some ⟨b, o, none⟩) n c) (y :: ys)) :
    Lss B w (.slice (if c = 1 then some ⟨b, o, none⟩ else some ⟨b, o + 1, none⟩) ys.length (c - 1)) ys := by
  obtain ⟨vs, h1, ⟨h2, A, c', h3, h4, h5, h6⟩, h7⟩ := h
  simp only [List.length_cons] at h1 h2 h3 h4 h6
  injection h3 with e1 e2 e3
  subst e1; subst e3
  obtain ⟨x, vs, rfl⟩ : ∃ x vs', vs = x :: vs' := by
    cases vs with
    | nil => simp at h1
    | cons x vs => exact ⟨x, vs, rfl⟩
  have h1 : vs.length = ys.length := by simpa using h1
  have h2 : vs.length + 1 = (ys.length + 1) * 1 := by simpa using h2
  refine ⟨vs, by omega, ⟨by omega, _, _, rfl, by omega, by omega, fun hn => ?_⟩, fun i u l hu hl => h7 (i + 1) u l hu hl⟩
  rw [if_neg (by omega)]
  obtain ⟨b', o', e, hk, hb, hc⟩ := h6 (by omega)
  injection e with e
  injection e with eb eo
  subst eb; subst eo
  refine ⟨_, _, rfl, hk, hb, fun j u hu => ?_⟩
  rw [Nat.add_assoc, Nat.add_comm 1 j]
  exact hc (j + 1) u hu
theorem Lss.cut1 {B : Nat} {w : World} {b o n : Nat} {y : List Ent} {ys : List (List Ent)} (h : Lss B w (.slice (some ⟨b, o, none⟩) n 1) (y :: ys)) :
    Lss B w (.slice (some ⟨b, o, none⟩) ys.length 0) ys := by
  have := h.cut
  rw [if_pos rfl] at this
  exact this
theorem Lss.cut2 {B : Nat} {w : World} {b o n c : Nat} {y : List Ent} {ys : List (List Ent)} (h : Lss B w (.slice (some ⟨b, o, none⟩) n c) (y :: ys)) (hc : c ≠ 1) :
    Lss B w (.slice (some ⟨b, o + 1, none⟩) ys.length (c - 1)) ys := by
  have := h.cut
  rw [if_neg hc] at this
  exact this
theorem tablesM_len (used : List Int) : ∀ (ps : List (List Ent)) (c : Chip) (out : List Int), (tablesM used ps c out).2.1.length ≤ out.length + ps.length
  | [], c, out => by rw [tablesM]; simp
  | x :: ps, c, out => by
    rw [tablesM]
    split
    · have := tablesM_len used ps (seek (fun c b => tabWrite c b x) (used ++ out) 25 c).1 (out ++ [(seek (fun c b => tabWrite c b x) (used ++ out) 25 c).2.1])
      rw [List.length_append] at this
      simp at this ⊢
      omega
    · simp
theorem comp_ok {c c1 c2 : Chip} {s s2 : SM} {o : List Int} {n : Nat} (h1 : tablesM s.m.all (parts 14 (liveE (mergeAll s.tabs))) c [] = (c1, o, 0)) (h2 : noteM c1 s ⟨0, s.m.log, [], o⟩ = (c2, s2, n)) :
    compM c s = (c2, if n = 0 then { s2 with tabs := parts 14 (liveE (mergeAll s.tabs)) } else s2, n) := by
  unfold compM
  rw [h1]
  simp only
  rw [if_neg (by simp), h2]
  simp only
  by_cases hn : n = 0
  · subst hn; rw [if_pos rfl, if_pos rfl]
  · rw [if_neg hn, if_neg hn]
theorem comp_bad {c c1 : Chip} {s : SM} {o : List Int} {n : Nat} (h1 : tablesM s.m.all (parts 14 (liveE (mergeAll s.tabs))) c [] = (c1, o, n)) (hn : n ≠ 0) : compM c s = (c1, s, n) := by
  unfold compM
  rw [h1]
  simp only
  rw [if_pos hn]
theorem StoreR.tabs {B q p : Nat} {w : World} {s : SM} {F : List Nat} (h : StoreR B w q p s F) (t : List (List Ent)) : StoreR B w q p { s with tabs := t } F := h
theorem StoreR.ite {B q p : Nat} {w : World} {s : SM} {F : List Nat} {P : Prop} [Decidable P] (h : StoreR B w q p s F) (t : List (List Ent)) : StoreR B w q p (if P then { s with tabs := t } else s) F := by split <;> exact h
set_option maxRecDepth 20000 in
set_option maxHeartbeats 4000000 in
theorem compact_any (B : Nat) (q p : Nat) (c : Chip) (s : SM) (F : List Nat) (w : World) (h : StoreR B w q p s F) (hc : ChipR B w p c) (hi : Inv c s) :
    Calls Try.prog 85 #[.pointer (some ⟨q, 0, none⟩)] w (SPost B q p F w (compM c s)) := by
  have hB0 : B ≤ w.heap.size := Nat.le_of_lt (Nat.lt_of_le_of_lt h.base h.lt)
  have hlt := h.lt
  obtain ⟨hsum, htl⟩ := sum_lists hi
  have hsum2 : sumLen s.tabs ≤ 1000 := by simp only [sumLen, List.map_cons, List.sum_cons] at hsum ⊢; omega
  have hml := mergeAll_len s.tabs
  have hll := liveE_len (mergeAll s.tabs)
  have hpl : (parts 14 (liveE (mergeAll s.tabs))).length ≤ 100 := by rw [parts_len]; omega
  have hnl := hi.body.nwl
  have hol := hi.body.odl
  have hat := hi.head.at_
  have hal : s.m.all.length ≤ 9 := by simp [Man.all]; omega
  have hep0 := (fault_zero.1 hi.body.fault).1
  have hep1 := (fault_zero.1 hi.body.fault).2.1
  have HLI := Lib.hid (lists_any B q p c s F w h hc hi)
  have HS := Lib.hid h
  have HC := Lib.hid hc
  have HUP := Lib.hid hi.up
  have HOK := Lib.hid (parts_ok (rises_live (rises_mergeAll hi.body.tab)) (faults_live hi.body))
  have hlen := tablesM_len s.m.all (parts 14 (liveE (mergeAll s.tabs))) c []
  have hcok := fun c1 c2 s2 o n => comp_ok (c := c) (c1 := c1) (c2 := c2) (s := s) (s2 := s2) (o := o) (n := n)
  have hcbad := fun c1 o n => comp_bad (c := c) (c1 := c1) (s := s) (o := o) (n := n)
  have hx2 : w.cell? ⟨q, 2, none⟩ = some (.int .i64 s.m.log) := by
    obtain ⟨A1, c1, A2, c2, t, n, hk, _⟩ := h
    have := hk.cell 2
    simpa using this
  have HX2 : Hid (∀ W, Fr B (· = p) w W → W.cell? ⟨q, 2, none⟩ = some (.int .i64 s.m.log)) := by
    intro W hf
    obtain ⟨A1, c1, A2, c2, t, n, hk, _⟩ := h.fr hf (h.apart hc)
    have := hk.cell 2
    simpa using this
  generalize hL : liveE (mergeAll s.tabs) = L at *
  have HMA : Hid (liveE (mergeAll s.tabs) = L) := hL
  generalize hT : tablesM s.m.all (parts 14 L) c [] = T at *
  have HT : Hid (tablesM s.m.all (parts 14 L) c [] = T) := hT
  obtain ⟨c1, o, n1⟩ := T
  simp only at hlen
  clear hi h hc hL hT hx2
  go_enter Try.func85, Try.ntmps85
  go_wp2_with fail
  refine HLI.out.mono ?_
  rintro e w1 ⟨v1, rfl, hv1, hb1⟩
  obtain ⟨A1, k1, rfl, g1, g2, hcell⟩ := hv1.form
  obtain ⟨bb, oo, u, rfl, _⟩ := hcell 0 s.mem rfl
  have HB1 := Lib.hid hb1
  have hk1 : 1 ≤ k1 := by simp at g1; omega
  by_cases hk2 : k1 = 1
  · subst hk2
    have HALL := Lib.hid (all_any B _ s.tabs w1 hv1.cut1 (by omega) (by omega))
    clear hcell hv1 hb1 HLI g1
    rw [List.length_cons]
    go_wp2_with fail
    refine HALL.out.mono ?_
    rintro e w2 ⟨v2, rfl, hv2, hb2⟩
    have HLV := Lib.hid (live_any B v2 _ w2 hv2 (by omega))
    have HB2 := Lib.hid (HB1.out.trans (hb2.mono HB1.out.size))
    clear hv2 hb2 HALL HB1
    go_wp2_with fail
    refine HLV.out.mono ?_
    rintro e w3 ⟨v3, rfl, hv3, hb3⟩
    rw [HMA.out] at hv3
    have HV3 := Lib.hid hv3
    have HB3 := Lib.hid (HB2.out.trans (hb3.mono HB2.out.size))
    have HU := Lib.hid (used_any B q p s F w3 (HS.out.below HB3.out) (by omega) (by omega))
    clear hv3 hb3 HLV HB2
    go_wp2_with fail
    refine HU.out.mono ?_
    rintro e w4 ⟨v4, rfl, hu4, hb4⟩
    have HB4 := Lib.hid (HB3.out.trans (hb4.mono HB3.out.size))
    have HTB := Lib.hid (tables_any B q p c s F v3 v4 L s.m.all w4 (HS.out.below HB4.out) (HC.out.below HB4.out) (HV3.out.below hb4) hu4 HUP.out HOK.out (by omega) (by omega))
    rw [HT.out] at HTB
    simp only at HTB
    have HF4 : Hid (Fr B (· ∈ q :: p :: F) w w4) := Fr.of_below HB4.out
    have HS4 := Lib.hid (HS.out.below HB4.out)
    have HC4 := Lib.hid (HC.out.below HB4.out)
    clear hu4 hb4 HU HV3 HB3
    by_cases hn : n1 = 0
    · subst hn
      rw [show errV 0 = Value.nilIface from rfl] at HTB
      have hol2 : o.length ≤ 100 := by simp at hlen; omega
      have HCOK := Lib.hid (fun c2 s2 n => hcok c1 c2 s2 o n)
      clear hcok hcbad hlen
      go_wp2_with fail
      refine HTB.out.mono ?_
      rintro e w5 ⟨vo, rfl, ho5, hc5, hf5⟩
      obtain ⟨A5, k5, rfl, _, _, kX⟩ := ho5.form
      have hs5 := HS4.out.chip HC4.out hf5
      have x2 := HX2.out w5 ((Fr.of_below HB4.out).trans' hf5 (fun _ _ h => h))
      have HF5 : Hid (Fr B (· ∈ q :: p :: F) w w5) := HF4.out.trans' hf5 (fun b _ e => by subst e; simp)
      have HNT := Lib.hid (snote_any B q p c1 s F (.agg #[.int .i64 0, .int .i64 s.m.log, .slice none 0 0, .slice A5 o.length k5]) ⟨0, s.m.log, [], o⟩ w5 hs5 hc5 ⟨_, _, rfl, Rd.nil _ _ _ _, ho5⟩ (by simp) (by simpa using (by omega : o.length ≤ 1000)) hat (by omega) (by omega))
      clear kX ho5 hc5 hf5 hs5 HTB
      generalize hN : noteM c1 s ⟨0, s.m.log, [], o⟩ = N at *
      obtain ⟨c2, s2, n2⟩ := N
      have HCM := Lib.hid (HCOK.out c2 s2 n2 trivial (by rw [← hN]))
      simp only at HNT
      clear hN
      go_wp2_with fail
      refine HNT.out.mono ?_
      rintro e w6 ⟨rfl, hc6, hs6, hf6⟩
      have HFIN : Hid (ChipR B w6 p c2 ∧ StoreR B w6 q p s2 F ∧ Fr B (· ∈ q :: p :: F) w w6) := ⟨hc6, hs6, HF5.out.trans' hf6 (fun b _ e => by rcases e with rfl | rfl <;> simp)⟩
      clear hc6 hs6 hf6 HNT
      go_wp2_with fail
      go_ret
      rw [HCM.out]
      exact ⟨rfl, HFIN.out.1, ⟨F, HFIN.out.2.1.ite _, fun b hb => .inl hb⟩, HFIN.out.2.2⟩
    · have he := errV_pos hn
      rw [he] at HTB
      have HE := Lib.hid he
      have HCM := Lib.hid (hcbad c1 o n1 rfl hn)
      clear hcok hcbad hn he
      go_wp2_with fail
      refine HTB.out.mono ?_
      rintro e w5 ⟨vo, rfl, ho5, hc5, hf5⟩
      have hs5 := HS4.out.chip HC4.out hf5
      have HFIN : Hid (ChipR B w5 p c1 ∧ StoreR B w5 q p s F ∧ Fr B (· ∈ q :: p :: F) w w5) := ⟨hc5, hs5, HF4.out.trans' hf5 (fun b _ e => by subst e; simp)⟩
      clear ho5 hc5 hf5 hs5 HTB
      go_wp2_with fail
      go_ret
      rw [HCM.out]
      exact ⟨by rw [HE.out]; rfl, HFIN.out.1, ⟨F, HFIN.out.2.1, fun b hb => .inl hb⟩, HFIN.out.2.2⟩
  · have HALL := Lib.hid (all_any B _ s.tabs w1 (hv1.cut2 hk2) (by omega) (by omega))
    clear hcell hv1 hb1 HLI g1
    rw [List.length_cons]
    go_wp2_with fail
    refine HALL.out.mono ?_
    rintro e w2 ⟨v2, rfl, hv2, hb2⟩
    have HLV := Lib.hid (live_any B v2 _ w2 hv2 (by omega))
    have HB2 := Lib.hid (HB1.out.trans (hb2.mono HB1.out.size))
    clear hv2 hb2 HALL HB1
    go_wp2_with fail
    refine HLV.out.mono ?_
    rintro e w3 ⟨v3, rfl, hv3, hb3⟩
    rw [HMA.out] at hv3
    have HV3 := Lib.hid hv3
    have HB3 := Lib.hid (HB2.out.trans (hb3.mono HB2.out.size))
    have HU := Lib.hid (used_any B q p s F w3 (HS.out.below HB3.out) (by omega) (by omega))
    clear hv3 hb3 HLV HB2
    go_wp2_with fail
    refine HU.out.mono ?_
    rintro e w4 ⟨v4, rfl, hu4, hb4⟩
    have HB4 := Lib.hid (HB3.out.trans (hb4.mono HB3.out.size))
    have HTB := Lib.hid (tables_any B q p c s F v3 v4 L s.m.all w4 (HS.out.below HB4.out) (HC.out.below HB4.out) (HV3.out.below hb4) hu4 HUP.out HOK.out (by omega) (by omega))
    rw [HT.out] at HTB
    simp only at HTB
    have HF4 : Hid (Fr B (· ∈ q :: p :: F) w w4) := Fr.of_below HB4.out
    have HS4 := Lib.hid (HS.out.below HB4.out)
    have HC4 := Lib.hid (HC.out.below HB4.out)
    clear hu4 hb4 HU HV3 HB3
    by_cases hn : n1 = 0
    · subst hn
      rw [show errV 0 = Value.nilIface from rfl] at HTB
      have hol2 : o.length ≤ 100 := by simp at hlen; omega
      have HCOK := Lib.hid (fun c2 s2 n => hcok c1 c2 s2 o n)
      clear hcok hcbad hlen
      go_wp2_with fail
      refine HTB.out.mono ?_
      rintro e w5 ⟨vo, rfl, ho5, hc5, hf5⟩
      obtain ⟨A5, k5, rfl, _, _, kX⟩ := ho5.form
      have hs5 := HS4.out.chip HC4.out hf5
      have x2 := HX2.out w5 ((Fr.of_below HB4.out).trans' hf5 (fun _ _ h => h))
      have HF5 : Hid (Fr B (· ∈ q :: p :: F) w w5) := HF4.out.trans' hf5 (fun b _ e => by subst e; simp)
      have HNT := Lib.hid (snote_any B q p c1 s F (.agg #[.int .i64 0, .int .i64 s.m.log, .slice none 0 0, .slice A5 o.length k5]) ⟨0, s.m.log, [], o⟩ w5 hs5 hc5 ⟨_, _, rfl, Rd.nil _ _ _ _, ho5⟩ (by simp) (by simpa using (by omega : o.length ≤ 1000)) hat (by omega) (by omega))
      clear kX ho5 hc5 hf5 hs5 HTB
      generalize hN : noteM c1 s ⟨0, s.m.log, [], o⟩ = N at *
      obtain ⟨c2, s2, n2⟩ := N
      have HCM := Lib.hid (HCOK.out c2 s2 n2 trivial (by rw [← hN]))
      simp only at HNT
      clear hN
      go_wp2_with fail
      refine HNT.out.mono ?_
      rintro e w6 ⟨rfl, hc6, hs6, hf6⟩
      have HFIN : Hid (ChipR B w6 p c2 ∧ StoreR B w6 q p s2 F ∧ Fr B (· ∈ q :: p :: F) w w6) := ⟨hc6, hs6, HF5.out.trans' hf6 (fun b _ e => by rcases e with rfl | rfl <;> simp)⟩
      clear hc6 hs6 hf6 HNT
      go_wp2_with fail
      go_ret
      rw [HCM.out]
      exact ⟨rfl, HFIN.out.1, ⟨F, HFIN.out.2.1.ite _, fun b hb => .inl hb⟩, HFIN.out.2.2⟩
    · have he := errV_pos hn
      rw [he] at HTB
      have HE := Lib.hid he
      have HCM := Lib.hid (hcbad c1 o n1 rfl hn)
      clear hcok hcbad hn he
      go_wp2_with fail
      refine HTB.out.mono ?_
      rintro e w5 ⟨vo, rfl, ho5, hc5, hf5⟩
      have hs5 := HS4.out.chip HC4.out hf5
      have HFIN : Hid (ChipR B w5 p c1 ∧ StoreR B w5 q p s F ∧ Fr B (· ∈ q :: p :: F) w w5) := ⟨hc5, hs5, HF4.out.trans' hf5 (fun b _ e => by subst e; simp)⟩
      clear ho5 hc5 hf5 hs5 HTB
      go_wp2_with fail
      go_ret
      rw [HCM.out]
      exact ⟨by rw [HE.out]; rfl, HFIN.out.1, ⟨F, HFIN.out.2.1, fun b hb => .inl hb⟩, HFIN.out.2.2⟩
end Go.Proofs.Ytaepdbkfaoiimab
/- The contracts of store.few, flush. Conditions: the store is sound. -/
set_option linter.unusedVariables false
set_option linter.unusedSimpArgs false
namespace Go.Proofs.Ytaepdbkfaoiimab
open Go.RowKit
attribute [local go_sem ↓] eql_err eql_nilerr neq_err neq_nilerr guard_err guard_nilerr guardn_err guardn_nilerr
theorem SPost.refl {B q p : Nat} {F : List Nat} {w : World} {c : Chip} {s : SM} (h : StoreR B w q p s F) (hc : ChipR B w p c) : SPost B q p F w (c, s, 0) (.returned .nilIface) w :=
  ⟨rfl, hc, ⟨F, h, fun b hb => .inl hb⟩, Fr.refl _ _ _⟩
set_option maxRecDepth 20000 in
set_option maxHeartbeats 4000000 in
theorem few_any (B : Nat) (q p : Nat) (c : Chip) (s : SM) (F : List Nat) (w : World) (h : StoreR B w q p s F) (hc : ChipR B w p c) (hi : Inv c s) :
    Calls Try.prog 102 #[.pointer (some ⟨q, 0, none⟩)] w (SPost B q p F w (fewM c s)) := by
  have HCO := Lib.hid (compact_any B q p c s F w h hc hi)
  have HRE := Lib.hid (SPost.refl h hc)
  obtain ⟨A1, c1, A2, c2, t, n, hk, _⟩ := h
  have x3 := hk.cell 3
  simp at x3
  clear hk hc hi
  by_cases h3 : s.m.nw.length < 3
  · have HF : Hid (fewM c s = (c, s, 0)) := if_pos h3
    have t9 : decide ((s.m.nw.length : Int) < 3) = true := decide_eq_true (by omega)
    clear h3 HCO
    go_enter Try.func102, Try.ntmps102
    go_wp2_with fail
    go_ret
    rw [HF.out]
    exact HRE.out
  · have HF : Hid (fewM c s = compM c s) := if_neg h3
    have t9 : decide ((s.m.nw.length : Int) < 3) = false := decide_eq_false (by omega)
    rw [← HF.out] at HCO
    clear h3 HF HRE
    go_enter Try.func102, Try.ntmps102
    go_wp2_with fail
    refine HCO.out.mono ?_
    rintro e w1 ⟨rfl, hr⟩
    have HR := Lib.hid hr
    clear hr HCO
    go_wp2_with fail
    go_ret
    exact ⟨rfl, HR.out⟩
theorem lay_facts {c : Chip} {s : SM} (h : Inv c s) : ∀ c1 o n1, tablesM s.m.all (parts 14 s.mem) c [] = (c1, o, n1) → n1 = 0 → c1.down = false ∧ o.length ≤ 3 := by
  intro c1 o n1 he hn
  have hb := h.body
  have hml := Fallen.mem_len h
  obtain ⟨es, hlog⟩ := hb.log
  have hpl : (parts 14 s.mem).length ≤ 3 := by rw [parts_len]; omega
  obtain ⟨c1', o', n1', e1, w1, x1, f1, g1⟩ := tables_calm s.m.all (parts 14 s.mem) c [] h.wf h.up hb.weak (by
    have := hb.odl
    have := hb.nwl
    simp [Man.all]; omega) (parts_ok hb.mem hlog.fault)
  have hlen := tablesM_len s.m.all (parts 14 s.mem) c []
  rw [he] at e1 hlen
  simp only [List.length_nil] at hlen
  cases e1
  rcases g1 with ⟨_, d1, _⟩ | ⟨h9, _⟩
  · exact ⟨d1, by omega⟩
  · omega
theorem lay_bad1 {c c1 : Chip} {s : SM} {o : List Int} {n : Nat} (h1 : tablesM s.m.all (parts 14 s.mem) c [] = (c1, o, n)) (hn : n ≠ 0) : layM c s = (c1, s, n) := by
  unfold layM
  rw [h1]
  simp only
  rw [if_pos hn]
theorem lay_bad2 {c c1 c2 : Chip} {s : SM} {o : List Int} {b : Int} {n : Nat} (h1 : tablesM s.m.all (parts 14 s.mem) c [] = (c1, o, 0)) (h2 : blankM (s.m.all ++ o) c1 = (c2, b, n)) (hn : n ≠ 0) : layM c s = (c2, s, n) := by
  unfold layM
  rw [h1]
  simp only
  rw [if_neg (by simp), h2]
  simp only
  rw [if_pos hn]
theorem lay_ok {c c1 c2 c3 : Chip} {s s3 : SM} {o : List Int} {b : Int} {n : Nat} (h1 : tablesM s.m.all (parts 14 s.mem) c [] = (c1, o, 0)) (h2 : blankM (s.m.all ++ o) c1 = (c2, b, 0)) (h3 : noteM c2 s ⟨0, b, o ++ s.m.nw, s.m.od⟩ = (c3, s3, n)) :
    layM c s = (c3, if n = 0 then { s3 with mem := [], tabs := parts 14 s.mem ++ s.tabs } else s3, n) := by
  unfold layM
  rw [h1]
  simp only
  rw [if_neg (by simp), h2]
  simp only
  rw [if_neg (by simp), h3]
  simp only
  by_cases hn : n = 0
  · subst hn; rw [if_pos rfl, if_pos rfl]
  · rw [if_neg hn, if_neg hn]
/-- What is at hand is another tower. -/
theorem store_mem {B q p t' : Nat} {w : World} {s : SM} {F F' : List Nat} {c : Chip} (h : StoreR B w q p s F) (hc : ChipR B w p c) (ht : Tower B w t' [] F') (hF : q ∉ F') (tb : List (List Ent)) :
    StoreR B (w.setCell ⟨q, 6, none⟩ (.pointer (some ⟨t', 0, none⟩))) q p { s with mem := [], tabs := tb } F' ∧ ChipR B (w.setCell ⟨q, 6, none⟩ (.pointer (some ⟨t', 0, none⟩))) p c ∧ Fr B (· = q) w (w.setCell ⟨q, 6, none⟩ (.pointer (some ⟨t', 0, none⟩))) := by
  have hqp := h.apart hc q (by simp)
  obtain ⟨A1, c1, A2, c2, t, n, hk, hn, ho, _, hB, _⟩ := h
  have hmut : ∃ cs T fz, w.heap[q]? = some (.cells cs T fz) ∧ mutT T = true := ⟨_, _, _, hk, by decide⟩
  have hf : Fr B (· = q) w (w.setCell ⟨q, 6, none⟩ (.pointer (some ⟨t', 0, none⟩))) := (Fr.refl B (· = q) w).setCell (p := ⟨q, 6, none⟩) hB (.inl rfl) (fun _ => hmut) _
  exact ⟨⟨A1, c1, A2, c2, t', n, hk.set_ 6 _, hn.fr hf, ho.fr hf, ht.fr hf (fun b hb e => hF (e ▸ hb)), hB, hF⟩, hc.keep hf (fun e => hqp e.symm), hf⟩
set_option maxRecDepth 20000 in
set_option maxHeartbeats 4000000 in
theorem lay_any (B : Nat) (q p : Nat) (c : Chip) (s : SM) (F : List Nat) (w : World) (h : StoreR B w q p s F) (hc : ChipR B w p c) (hi : Inv c s) :
    Calls Try.prog 103 #[.pointer (some ⟨q, 0, none⟩)] w (SPost B q p F w (layM c s)) := by
  have hlt := h.lt
  have hqB := h.base
  have hqp := h.apart hc q (by simp)
  have hml := Fallen.mem_len hi
  have hnl := hi.body.nwl
  have hol := hi.body.odl
  have hat := hi.head.at_
  have hal : s.m.all.length ≤ 9 := by simp [Man.all]; omega
  have hep0 := (fault_zero.1 hi.body.fault).1
  have hep1 := (fault_zero.1 hi.body.fault).2.1
  have hfacts := lay_facts hi
  have HUP := Lib.hid hi.up
  obtain ⟨es, hlog⟩ := hi.body.log
  have HOK := Lib.hid (parts_ok hi.body.mem hlog.fault)
  have hb1 := fun c1 o n => lay_bad1 (c := c) (c1 := c1) (s := s) (o := o) (n := n)
  have hb2 := fun c1 c2 o b n => lay_bad2 (c := c) (c1 := c1) (c2 := c2) (s := s) (o := o) (b := b) (n := n)
  have hb3 := fun c1 c2 c3 s3 o b n => lay_ok (c := c) (c1 := c1) (c2 := c2) (c3 := c3) (s := s) (s3 := s3) (o := o) (b := b) (n := n)
  have HS := Lib.hid h
  have HC := Lib.hid hc
  obtain ⟨A1, c1', A2, c2', t, n, hk, hn, ho, ht, hqF0, hqF⟩ := h
  have HTA := Lib.hid (tall_any B t s.mem F w ht (by omega))
  have x6 := hk.cell 6
  simp at x6
  generalize hT : tablesM s.m.all (parts 14 s.mem) c [] = T at *
  obtain ⟨c1, o, n1⟩ := T
  have HT : Hid (tablesM s.m.all (parts 14 s.mem) c [] = (c1, o, n1)) := hT
  have HFA := Lib.hid (hfacts c1 o n1 rfl)
  have HB1 := Lib.hid (hb1 c1 o n1 rfl)
  have HB2 := Lib.hid (fun c2 b n => hb2 c1 c2 o b n)
  have HB3 := Lib.hid (fun c2 c3 s3 b n => hb3 c1 c2 c3 s3 o b n)
  have HK := Lib.hid (And.intro hk (And.intro hn ho))
  clear hi hc hk hn ho ht hfacts hb1 hb2 hb3 hT hlog
  go_enter Try.func103, Try.ntmps103
  go_wp2_with fail
  refine HTA.out.mono ?_
  rintro e w1 ⟨v1, rfl, hv1, hw1⟩
  have HV1 := Lib.hid hv1
  have HW1 := Lib.hid hw1
  have HU := Lib.hid (used_any B q p s F w1 (HS.out.below hw1) (by omega) (by omega))
  clear hv1 hw1 HTA x6
  go_wp2_with fail
  refine HU.out.mono ?_
  rintro e w4 ⟨v4, rfl, hu4, hb4⟩
  have HB4 := Lib.hid (HW1.out.trans (hb4.mono HW1.out.size))
  have HTB := Lib.hid (tables_any B q p c s F v1 v4 s.mem s.m.all w4 (HS.out.below HB4.out) (HC.out.below HB4.out) (HV1.out.below hb4) hu4 HUP.out HOK.out (by omega) (by omega))
  rw [HT.out] at HTB
  simp only at HTB
  have HF4 : Hid (Fr B (· ∈ q :: p :: F) w w4) := Fr.of_below HB4.out
  have HS4 := Lib.hid (HS.out.below HB4.out)
  have HC4 := Lib.hid (HC.out.below HB4.out)
  clear hu4 hb4 HU HV1 HW1
  by_cases hn : n1 = 0
  case neg =>
    have he := errV_pos hn
    rw [he] at HTB
    have HE := Lib.hid he
    have HCM := Lib.hid (HB1.out hn)
    clear hn he
    go_wp2_with fail
    refine HTB.out.mono ?_
    rintro e w5 ⟨vo, rfl, ho5, hc5, hf5⟩
    have hs5 := HS4.out.chip HC4.out hf5
    have HFIN : Hid (ChipR B w5 p c1 ∧ StoreR B w5 q p s F ∧ Fr B (· ∈ q :: p :: F) w w5) := ⟨hc5, hs5, HF4.out.trans' hf5 (fun b _ e => by subst e; simp)⟩
    clear ho5 hc5 hf5 hs5 HTB
    go_wp2_with fail
    go_ret
    rw [HCM.out]
    exact ⟨by rw [HE.out]; rfl, HFIN.out.1, ⟨F, HFIN.out.2.1, fun b hb => .inl hb⟩, HFIN.out.2.2⟩
  subst hn
  obtain ⟨hd1, hol3⟩ := HFA.out rfl
  have HD1 := Lib.hid hd1
  rw [show errV 0 = Value.nilIface from rfl] at HTB
  clear hd1 HB1 HFA
  go_wp2_with fail
  refine HTB.out.mono ?_
  rintro e w5 ⟨vo, rfl, ho5, hc5, hf5⟩
  obtain ⟨A5, k5, rfl, _, _, kX⟩ := ho5.form
  have HS5 := Lib.hid (HS4.out.chip HC4.out hf5)
  have HF5 : Hid (Fr B (· ∈ q :: p :: F) w w5) := HF4.out.trans' hf5 (fun b _ e => by subst e; simp)
  have HC5 := Lib.hid hc5
  have HO5 := Lib.hid ho5
  have HK5 : Hid (∀ w', Fr B (· = p) w5 w' → (w'.cell? ⟨q, 0, none⟩ = some (.pointer (some ⟨p, 0, none⟩)) ∧ Fr B (· = p) w5 w')) := by
    intro w' hf
    have hf0 : Fr B (· = p) w w' := ((Fr.of_below HB4.out).trans' hf5 (fun _ _ h => h)).trans' hf (fun _ _ h => h)
    have h0 := (HK.out.1.fr hf0 (.inr (.inl hqp))).cell 0
    simp at h0
    exact ⟨h0, hf⟩
  have HU5 := Lib.hid (used_any B q p s F w5.drew (HS5.out.drewN 1) (by omega) (by omega))
  have HF0 : Hid (Fr B (· = p) w5 w5.drew) := (Fr.refl _ _ _).drewN 1
  clear kX ho5 hc5 hf5 HTB HS4 HC4 HF4 HB4
  generalize hBL : blankM (s.m.all ++ o) c1 = BL at *
  obtain ⟨c2, b2, n2⟩ := BL
  have HBL : Hid (blankM (s.m.all ++ o) c1 = (c2, b2, n2)) := hBL
  have HB2' := Lib.hid (HB2.out c2 b2 n2)
  clear hBL
  by_cases hn2 : n2 = 0
  case neg =>
    have he := errV_pos hn2
    have HE := Lib.hid he
    have HCM := Lib.hid (HB2'.out trivial rfl hn2)
    clear he hn2
    go_wp2_with fail
    go_region_held3 (fun w' => (w'.cell? ⟨q, 0, none⟩ = some (.pointer (some ⟨p, 0, none⟩)) ∧ Fr B (· = p) w5 w'))
      ((first
        | exact HK5.out _ hF8
        | exact HK5.out _ hF7
        | exact HK5.out _ (Fr.alloc hF6 _)
        | exact HK5.out _ hF6
        | exact HK5.out _ HF0.out))
      ((first
        | (go_at_call 107; refine HU5.out.mono ?_; rintro e w6 ⟨v6, rfl, hu6, hb6⟩; obtain ⟨A6, k6, rfl, _, _, kX⟩ := hu6.form; have hF6 : Fr B (· = p) w5 w6 := HF0.out.trans' (Fr.of_below (B := B) (M := (· = p)) hb6) (fun _ _ h => h))
        | (go_at_call 59; refine (concat_rd B w6.heap.size _ _ s.m.all o _ (Blk.new w6 _ _) (hu6.below ((Below.refl _ _).alloc (Nat.le_refl _) _)) ((HO5.out.fr hF6).below ((Below.refl _ _).alloc (Nat.le_refl _) _)) (by omega) (by omega)).mono ?_; rintro e w7 ⟨v7, rfl, hu7, hb7⟩; have hF7 : Fr B (· = p) w5 w7 := (Fr.alloc hF6 _).trans' (Fr.of_below (B := B) (M := (· = p)) hb7) (fun _ _ h => h))
        | (go_at_call 104; refine (blank_any B p c1 v7 (s.m.all ++ o) w7 ((((HC5.out.drewN 1).below hb6).below ((Below.refl _ _).alloc (Nat.le_refl _) _)).below hb7) hu7 HD1.out).mono ?_; rw [HBL.out]; rintro e w8 ⟨rfl, hc8, hf8⟩; rw [HE.out]; have hF8 : Fr B (· = p) w5 w8 := hF7.trans' hf8 (fun _ _ h => h))))
    have HFIN : Hid (ChipR B w8 p c2 ∧ StoreR B w8 q p s F ∧ Fr B (· ∈ q :: p :: F) w w8) := ⟨hc8, HS5.out.chip HC5.out hF8, HF5.out.trans' hF8 (fun b _ e => by subst e; simp)⟩
    clear hc8 hf8 hF8 hF7 hF6 hb7 hb6 hu6 hu7
    go_wp2_with fail
    go_ret
    rw [HCM.out]
    exact ⟨by rw [HE.out]; rfl, HFIN.out.1, ⟨F, HFIN.out.2.1, fun b hb => .inl hb⟩, HFIN.out.2.2⟩
  subst hn2
  go_wp2_with fail
  go_region_held3 (fun w' => (w'.cell? ⟨q, 0, none⟩ = some (.pointer (some ⟨p, 0, none⟩)) ∧ Fr B (· = p) w5 w'))
    ((first
      | exact HK5.out _ hF8
      | exact HK5.out _ hF7
      | exact HK5.out _ (Fr.alloc hF6 _)
      | exact HK5.out _ hF6
      | exact HK5.out _ HF0.out))
    ((first
      | (go_at_call 107; refine HU5.out.mono ?_; rintro e w6 ⟨v6, rfl, hu6, hb6⟩; obtain ⟨A6, k6, rfl, _, _, kX⟩ := hu6.form; have hF6 : Fr B (· = p) w5 w6 := HF0.out.trans' (Fr.of_below (B := B) (M := (· = p)) hb6) (fun _ _ h => h))
      | (go_at_call 59; refine (concat_rd B w6.heap.size _ _ s.m.all o _ (Blk.new w6 _ _) (hu6.below ((Below.refl _ _).alloc (Nat.le_refl _) _)) ((HO5.out.fr hF6).below ((Below.refl _ _).alloc (Nat.le_refl _) _)) (by omega) (by omega)).mono ?_; rintro e w7 ⟨v7, rfl, hu7, hb7⟩; have hF7 : Fr B (· = p) w5 w7 := (Fr.alloc hF6 _).trans' (Fr.of_below (B := B) (M := (· = p)) hb7) (fun _ _ h => h))
      | (go_at_call 104; refine (blank_any B p c1 v7 (s.m.all ++ o) w7 ((((HC5.out.drewN 1).below hb6).below ((Below.refl _ _).alloc (Nat.le_refl _) _)).below hb7) hu7 HD1.out).mono ?_; rw [HBL.out]; rintro e w8 ⟨rfl, hc8, hf8⟩; rw [show errV 0 = Value.nilIface from rfl]; have hF8 : Fr B (· = p) w5 w8 := hF7.trans' hf8 (fun _ _ h => h))))
  have HS8 := Lib.hid (HS5.out.chip HC5.out hF8)
  have HC8 := Lib.hid hc8
  have HF8 : Hid (Fr B (· ∈ q :: p :: F) w w8) := HF5.out.trans' hF8 (fun b _ e => by subst e; simp)
  have HO8 := Lib.hid (HO5.out.fr hF8)
  clear hc8 hf8 hF8 hF7 hF6 hb7 hb6 hu6 hu7 HK5 HU5 HF0 HF5 HC5 HO5 HS5 HK
  obtain ⟨A1, c1', A2, c2', t, n, hk8, hn8, ho8, _, _, _⟩ := HS8.out
  have x3 := hk8.cell 3
  have x4 := hk8.cell 4
  simp at x3 x4
  have hq8 := hk8.lt
  have HN8 := Lib.hid hn8
  have HO8' := Lib.hid ho8
  have HX8 : Hid (∀ W, Below w8.heap.size w8 W → q < W.heap.size ∧ W.cell? ⟨q, 3, none⟩ = some (.slice A1 s.m.nw.length c1') ∧ W.cell? ⟨q, 4, none⟩ = some (.slice A2 s.m.od.length c2')) := by
    intro W hW
    have h := hk8.below hW hk8.lt
    have y3 := h.cell 3
    have y4 := h.cell 4
    simp at y3 y4
    exact ⟨h.lt, y3, y4⟩
  clear hk8 hn8 ho8
  have HB8 : Hid (Below w8.heap.size w8 (w8.alloc (.cells #[.slice A5 o.length k5, .slice A1 s.m.nw.length c1'] 34)).drew) := ((Below.refl _ _).alloc (Nat.le_refl _) _).drew
  have HCC := Lib.hid (concat_rd B w8.heap.size (.slice A5 o.length k5) (.slice A1 s.m.nw.length c1') o s.m.nw (w8.alloc (.cells #[.slice A5 o.length k5, .slice A1 s.m.nw.length c1'] 34)).drew ((Blk.new w8 34 #[.slice A5 o.length k5, .slice A1 s.m.nw.length c1']).drewN 1) (HO8.out.below HB8.out) (HN8.out.below HB8.out) (by omega) (by omega))
  generalize hN : noteM c2 s ⟨0, b2, o ++ s.m.nw, s.m.od⟩ = N at *
  obtain ⟨c3, s3, n3⟩ := N
  have HN : Hid (noteM c2 s ⟨0, b2, o ++ s.m.nw, s.m.od⟩ = (c3, s3, n3)) := hN
  have HCM := Lib.hid (HB3.out c2 c3 s3 b2 n3 trivial rfl HN.out)
  have hle : (o ++ s.m.nw).length = o.length + s.m.nw.length := List.length_append
  have HLE := Lib.hid hle
  have HL2 : Hid ((o ++ s.m.nw).length ≤ 1000 ∧ s.m.od.length ≤ 1000 ∧ 0 ≤ s.m.ep ∧ s.m.ep ≤ 1000000) := ⟨by omega, by omega, by omega, by omega⟩
  clear hN hle
  by_cases hn3 : n3 = 0
  · subst hn3
    go_wp2_with fail
    go_region_with (first
      | (go_at_call 59; refine HCC.out.mono ?_; rintro e w9 ⟨v9, rfl, hu9, hb9⟩; obtain ⟨A9, k9, rfl, _, _, kX⟩ := hu9.form; obtain ⟨hl9, z3, z4⟩ := HX8.out w9 (HB8.out.trans (hb9.mono HB8.out.size)); rw [HLE.out] at hu9 ⊢)
      | (go_at_call 108; refine (snote_any B q p c2 s F _ ⟨0, b2, o ++ s.m.nw, s.m.od⟩ w9 (HS8.out.below (HB8.out.trans (hb9.mono HB8.out.size))) (HC8.out.below (HB8.out.trans (hb9.mono HB8.out.size))) ⟨_, _, rfl, hu9, HO8'.out.below (HB8.out.trans (hb9.mono HB8.out.size))⟩ HL2.out.1 HL2.out.2.1 hat HL2.out.2.2.1 HL2.out.2.2.2).mono ?_; rw [HN.out]; rintro e w10 ⟨rfl, hc10, hs10, hf10⟩; rw [show errV 0 = Value.nilIface from rfl]))
    all_goals
      have HS10 := Lib.hid hs10
      have HC10 := Lib.hid hc10
      have hw9 := HB8.out.trans (hb9.mono HB8.out.size)
      have HF10 : Hid (Fr B (· ∈ q :: p :: F) w w10) := (HF8.out.trans' (Fr.of_below (B := B) (M := (· ∈ q :: p :: F)) hw9) (fun _ _ h => h)).trans' hf10 (fun b _ e => by rcases e with rfl | rfl <;> simp)
      clear hs10 hc10 hf10 hu9 hb9 kX z3 z4 hl9 hw9
      have HTN := Lib.hid (tnew_any B w10 (Nat.le_of_lt (Nat.lt_of_le_of_lt HS10.out.base HS10.out.lt)))
      go_wp2_with fail
      refine HTN.out.mono ?_
      rintro e w11 ⟨⟨rfl, ht11⟩, hb11⟩
      have hs11 := HS10.out.below hb11
      have hc11 := HC10.out.below hb11
      have HQ : Hid (q ∉ [w10.heap.size]) := fun hm => by have h1 := HS10.out.lt; rw [List.mem_singleton] at hm; omega
      have HFS := Lib.hid (store_mem hs11 hc11 ht11 HQ.out (parts 14 s.mem ++ s.tabs))
      have HF11 : Hid (Fr B (· ∈ q :: p :: F) w w11) := HF10.out.trans' (Fr.of_below (B := B) (M := (· ∈ q :: p :: F)) hb11) (fun _ _ h => h)
      obtain ⟨A7, c7, A8, c8, t7, n7, hk11, _⟩ := hs11
      have y6 := hk11.cell 6
      have f6 := hk11.frozen 6
      simp at y6
      have HW10 : Hid (w.heap.size ≤ w10.heap.size) := HF10.out.size
      clear hk11 hc11 ht11 hb11 HTN
      go_wp2_with fail
      go_ret
      rw [HCM.out]
      exact ⟨rfl, HFS.out.2.1, ⟨_, HFS.out.1, fun b hb => by simp at hb; subst hb; exact .inr HW10.out⟩, HF11.out.trans' HFS.out.2.2 (fun b _ e => by subst e; simp)⟩
  · have he := errV_pos hn3
    have HE := Lib.hid he
    clear he
    go_wp2_with fail
    go_region_with (first
      | (go_at_call 59; refine HCC.out.mono ?_; rintro e w9 ⟨v9, rfl, hu9, hb9⟩; obtain ⟨A9, k9, rfl, _, _, kX⟩ := hu9.form; obtain ⟨hl9, z3, z4⟩ := HX8.out w9 (HB8.out.trans (hb9.mono HB8.out.size)); rw [HLE.out] at hu9 ⊢)
      | (go_at_call 108; refine (snote_any B q p c2 s F _ ⟨0, b2, o ++ s.m.nw, s.m.od⟩ w9 (HS8.out.below (HB8.out.trans (hb9.mono HB8.out.size))) (HC8.out.below (HB8.out.trans (hb9.mono HB8.out.size))) ⟨_, _, rfl, hu9, HO8'.out.below (HB8.out.trans (hb9.mono HB8.out.size))⟩ HL2.out.1 HL2.out.2.1 hat HL2.out.2.2.1 HL2.out.2.2.2).mono ?_; rw [HN.out]; rintro e w10 ⟨rfl, hc10, hs10, hf10⟩; rw [HE.out]))
    all_goals
      have HS10 := Lib.hid hs10
      have HC10 := Lib.hid hc10
      have hw9 := HB8.out.trans (hb9.mono HB8.out.size)
      have HF10 : Hid (Fr B (· ∈ q :: p :: F) w w10) := (HF8.out.trans' (Fr.of_below (B := B) (M := (· ∈ q :: p :: F)) hw9) (fun _ _ h => h)).trans' hf10 (fun b _ e => by rcases e with rfl | rfl <;> simp)
      clear hs10 hc10 hf10 hu9 hb9 kX z3 z4 hl9 hw9
      have HN3 := Lib.hid hn3
      clear hn3
      go_wp2_with fail
      go_ret
      rw [HCM.out]
      refine ⟨by rw [HE.out]; rfl, HC10.out, ⟨F, ?_, fun b hb => .inl hb⟩, HF10.out⟩
      simp only
      rw [if_neg HN3.out]
      exact HS10.out
end Go.Proofs.Ytaepdbkfaoiimab
/- The contracts of store.Flush, Check, room. Conditions: the store is sound. -/
set_option linter.unusedVariables false
set_option linter.unusedSimpArgs false
namespace Go.Proofs.Ytaepdbkfaoiimab
open Go.RowKit
attribute [local go_sem ↓] eql_err eql_nilerr neq_err neq_nilerr guard_err guard_nilerr guardn_err guardn_nilerr
theorem SPost.step {B q p : Nat} {F F1 : List Nat} {w w1 w2 : World} {r : Chip × SM × Nat} {e : Ending} (hf : Fr B (· ∈ q :: p :: F) w w1) (hF : ∀ b ∈ F1, b ∈ F ∨ w.heap.size ≤ b) (h : SPost B q p F1 w1 r e w2) : SPost B q p F w r e w2 := by
  obtain ⟨he, hc, ⟨F2, hs, hF2⟩, hf2⟩ := h
  refine ⟨he, hc, ⟨F2, hs, fun b hb => (hF2 b hb).elim (hF b) (fun h => .inr (Nat.le_trans hf.size h))⟩, hf.trans' hf2 (fun b hb hm => ?_)⟩
  rcases List.mem_cons.1 hm with rfl | hm
  · simp
  · rcases List.mem_cons.1 hm with rfl | hm
    · simp
    · rcases hF b hm with h | h
      · simp [h]
      · omega
theorem flush_1 {c c1 : Chip} {s s1 : SM} {n : Nat} (h : fewM c s = (c1, s1, n)) (hn : n ≠ 0) : flushM c s = (c1, s1, n) := by
  unfold flushM
  rw [h]
  simp only
  rw [if_pos hn]
theorem flush_2 {c c1 c2 : Chip} {s s1 s2 : SM} {n : Nat} (h : fewM c s = (c1, s1, 0)) (h2 : layM c1 s1 = (c2, s2, n)) (hn : n ≠ 0) : flushM c s = (c2, s2, n) := by
  unfold flushM
  rw [h]
  simp only
  rw [if_neg (by simp), h2]
  simp only
  rw [if_pos hn]
theorem flush_3 {c c1 c2 : Chip} {s s1 s2 : SM} (h : fewM c s = (c1, s1, 0)) (h2 : layM c1 s1 = (c2, s2, 0)) : flushM c s = fewM c2 s2 := by
  unfold flushM
  rw [h]
  simp only
  rw [if_neg (by simp), h2]
  simp only
  rw [if_neg (by simp)]
set_option maxRecDepth 20000 in
set_option maxHeartbeats 4000000 in
theorem flush_any (B : Nat) (q p : Nat) (c : Chip) (s : SM) (F : List Nat) (w : World) (h : StoreR B w q p s F) (hc : ChipR B w p c) (hi : Inv c s) (hep : s.m.ep + 3 ≤ 100000) :
    Calls Try.prog 81 #[.pointer (some ⟨q, 0, none⟩)] w (SPost B q p F w (flushM c s)) := by
  obtain ⟨c1, s1, n1, e1, _, g1⟩ := few_calm hi (by omega)
  have h1 := few_any B q p c s F w h hc hi
  rw [e1] at h1
  have hx1 := flush_1 e1
  have hx2 := fun c2 s2 n => flush_2 (c := c) (c1 := c1) (c2 := c2) (s := s) (s1 := s1) (s2 := s2) (n := n)
  have hx3 := fun c2 s2 => flush_3 (c := c) (c1 := c1) (c2 := c2) (s := s) (s1 := s1) (s2 := s2)
  by_cases hn : n1 = 0
  case neg =>
    have HE := Lib.hid (errV_pos hn)
    have HX := Lib.hid (hx1 hn)
    have H1 := Lib.hid h1
    clear hx1 hx2 hx3 hn h1 g1 e1 hi h hc
    go_enter Try.func81, Try.ntmps81
    go_wp2_with fail
    refine H1.out.mono ?_
    rintro e w1 ⟨rfl, hr⟩
    have HR := Lib.hid hr
    clear hr H1
    simp only
    rw [HE.out]
    go_wp2_with fail
    go_ret
    rw [HX.out]
    exact ⟨by rw [HE.out]; rfl, HR.out⟩
  subst hn
  rcases g1 with ⟨_, hi1, hrw1, hep1, hep2, _, _, hnw1, _⟩ | ⟨h9, _⟩
  case inr => omega
  obtain ⟨c2, s2, n2, e2, _, g2⟩ := lay_calm hi1 (by omega) hnw1
  have HL := Lib.hid (fun w F h hc => lay_any B q p c1 s1 F w h hc hi1)
  rw [e2] at HL
  have H1 := Lib.hid h1
  by_cases hn2 : n2 = 0
  case neg =>
    have HE := Lib.hid (errV_pos hn2)
    have HX := Lib.hid (hx2 c2 s2 n2 e1 e2 hn2)
    clear hx1 hx2 hx3 hn2 h1 g2 e1 e2 hi hi1 h hc
    go_enter Try.func81, Try.ntmps81
    go_wp2_with fail
    refine H1.out.mono ?_
    rintro e w1 ⟨rfl, hc1, ⟨F1, hs1, hF1⟩, hf1⟩
    have HF1 := Lib.hid (And.intro hf1 hF1)
    have HL1 := Lib.hid (HL.out w1 F1 hs1 hc1)
    clear hc1 hs1 hF1 hf1 H1 HL
    simp only
    rw [show errV 0 = Value.nilIface from rfl]
    go_wp2_with fail
    refine HL1.out.mono ?_
    rintro e w2 ⟨rfl, hr⟩
    have HR := Lib.hid hr
    clear hr HL1
    simp only
    rw [HE.out]
    go_wp2_with fail
    go_ret
    rw [HX.out]
    exact SPost.step HF1.out.1 HF1.out.2 ⟨by rw [HE.out]; rfl, HR.out⟩
  subst hn2
  rcases g2 with ⟨_, hi2, hrw2, hep3, _⟩ | ⟨h9, _⟩
  case inr => omega
  have HX := Lib.hid (hx3 c2 s2 e1 e2)
  have HW := Lib.hid (fun w F h hc => few_any B q p c2 s2 F w h hc hi2)
  clear hx1 hx2 hx3 h1 e1 e2 hi hi1 hi2 h hc
  go_enter Try.func81, Try.ntmps81
  go_wp2_with fail
  refine H1.out.mono ?_
  rintro e w1 ⟨rfl, hc1, ⟨F1, hs1, hF1⟩, hf1⟩
  have HF1 := Lib.hid (And.intro hf1 hF1)
  have HL1 := Lib.hid (HL.out w1 F1 hs1 hc1)
  clear hc1 hs1 hF1 hf1 H1 HL
  simp only
  rw [show errV 0 = Value.nilIface from rfl]
  go_wp2_with fail
  refine HL1.out.mono ?_
  rintro e w2 ⟨rfl, hc2, ⟨F2, hs2, hF2⟩, hf2⟩
  have HF2 := Lib.hid (And.intro hf2 hF2)
  have HW2 := Lib.hid (HW.out w2 F2 hs2 hc2)
  clear hc2 hs2 hF2 hf2 HL1 HW
  simp only
  rw [show errV 0 = Value.nilIface from rfl]
  go_wp2_with fail
  refine HW2.out.mono ?_
  rintro e w3 ⟨rfl, hr⟩
  have HR := Lib.hid hr
  clear hr HW2
  go_wp2_with fail
  go_ret
  rw [HX.out]
  exact SPost.step HF1.out.1 HF1.out.2 (SPost.step HF2.out.1 HF2.out.2 ⟨rfl, HR.out⟩)
set_option maxRecDepth 20000 in
set_option maxHeartbeats 4000000 in
theorem room_any (B : Nat) (q p : Nat) (c : Chip) (s : SM) (F : List Nat) (w : World) (h : StoreR B w q p s F) (hc : ChipR B w p c) (hi : Inv c s) (hep : s.m.ep + 3 ≤ 100000) :
    Calls Try.prog 87 #[.pointer (some ⟨q, 0, none⟩)] w (SPost B q p F w (roomM c s)) := by
  have hrg := hi.body.rng s.m.log (by simp [Man.all])
  have HNX := Lib.hid (next_any B p c s.m.log w.drew (hc.drewN 1) (by omega) (by omega))
  have HFL := Lib.hid (flush_any B q p c s F w.drew (h.drewN 1) (hc.drewN 1) hi hep)
  have HRE : Hid (SPost B q p F w (c, s, 0) (.returned .nilIface) w.drew) := ⟨rfl, hc.drewN 1, ⟨F, h.drewN 1, fun b hb => .inl hb⟩, (Fr.refl _ _ _).drewN 1⟩
  obtain ⟨A1, c1, A2, c2, t, n, hk, _⟩ := h
  have x0 := hk.cell 0
  have x2 := hk.cell 2
  simp at x0 x2
  have HS : Hid (w.drew.cell? ⟨q, 0, none⟩ = some (.pointer (some ⟨p, 0, none⟩)) ∧ w.drew.cell? ⟨q, 2, none⟩ = some (.int .i64 s.m.log)) := ⟨x0, x2⟩
  have HF0 : Hid (Fr B (· ∈ q :: p :: F) w w.drew) := (Fr.refl _ _ _).drewN 1
  clear hk hc hi
  by_cases h8 : (c.b s.m.log.toNat).l.length < 8
  · have HR : Hid (roomM c s = (c, s, 0)) := if_pos h8
    have t13 : decide (((c.b s.m.log.toNat).l.length : Int) < 8) = true := decide_eq_true (by omega)
    clear h8 HFL
    go_enter Try.func87, Try.ntmps87
    go_wp2_with fail
    go_region_held3 (fun w' => w'.cell? ⟨q, 0, none⟩ = some (.pointer (some ⟨p, 0, none⟩)) ∧ w'.cell? ⟨q, 2, none⟩ = some (.int .i64 s.m.log))
      ((first | exact HS.out | assumption))
      ((first | (go_at_call 34; refine HNX.out.mono ?_; rintro e w2 ⟨rfl, rfl⟩)))
    go_wp2_with fail
    go_ret
    rw [HR.out]
    exact HRE.out
  · have HR : Hid (roomM c s = flushM c s) := if_neg h8
    have t13 : decide (((c.b s.m.log.toNat).l.length : Int) < 8) = false := decide_eq_false (by omega)
    clear h8 HRE
    go_enter Try.func87, Try.ntmps87
    go_wp2_with fail
    go_region_held3 (fun w' => w'.cell? ⟨q, 0, none⟩ = some (.pointer (some ⟨p, 0, none⟩)) ∧ w'.cell? ⟨q, 2, none⟩ = some (.int .i64 s.m.log))
      ((first | exact HS.out | assumption))
      ((first | (go_at_call 34; refine HNX.out.mono ?_; rintro e w2 ⟨rfl, rfl⟩)))
    go_wp2_with fail
    refine HFL.out.mono ?_
    rintro e w1 ⟨rfl, hr⟩
    have HRR := Lib.hid hr
    clear hr HFL
    go_wp2_with fail
    go_ret
    rw [HR.out]
    exact SPost.step HF0.out (fun b hb => .inl hb) ⟨rfl, HRR.out⟩
end Go.Proofs.Ytaepdbkfaoiimab
/- The contract of store.Check. Conditions: the store is sound. -/
set_option linter.unusedVariables false
set_option linter.unusedSimpArgs false
namespace Go.Proofs.Ytaepdbkfaoiimab
open Go.RowKit
attribute [local go_sem ↓] eql_err eql_nilerr neq_err neq_nilerr guard_err guard_nilerr guardn_err guardn_nilerr
theorem rows_rise {c : Chip} {s : SM} (h : Inv c s) : Rises s.rows := by
  unfold SM.rows rowsOf
  exact rises_live (rises_mergeAll (fun l hl => by
    rcases List.mem_cons.1 hl with rfl | hl
    · exact h.body.mem
    · exact h.body.tab l hl))
set_option maxRecDepth 20000 in
set_option maxHeartbeats 4000000 in
theorem scheck_any (B : Nat) (q p : Nat) (c : Chip) (s : SM) (F : List Nat) (v : Value) (l : List Ent) (w : World) (h : StoreR B w q p s F) (hc : ChipR B w p c) (hi : Inv c s) (hl : Ents B w v l) :
    Calls Try.prog 86 #[.pointer (some ⟨q, 0, none⟩), v] w fun e w' => e = .returned (errV (checkM s l)) ∧ Below w.heap.size w w' := by
  obtain ⟨A, cp, rfl, hc1, hc2, _⟩ := hl.form
  have HL := Lib.hid hl
  by_cases hn : l.length = 0 ∨ 4 < l.length
  · have HF : Hid (checkM s l = 2) := if_pos hn
    clear h hc hi hl
    by_cases h0 : l.length = 0
    · have t12 : ((l.length : Int) == 0) = true := by rw [beq_iff_eq]; omega
      clear hn
      go_enter Try.func86, Try.ntmps86
      go_wp2_with fail
      go_ret
      exact ⟨by rw [HF.out]; rfl, Below.refl _ _⟩
    · have t12 : ((l.length : Int) == 0) = false := by rw [beq_eq_false_iff_ne]; omega
      have t16 : decide ((4 : Int) < (l.length : Int)) = true := decide_eq_true (by omega)
      clear hn
      go_enter Try.func86, Try.ntmps86
      go_wp2_with fail
      go_ret
      exact ⟨by rw [HF.out]; rfl, Below.refl _ _⟩
  have HC0 : Hid (checkM s l = if bytesF l ≠ 0 then bytesF l else if 40 < (liveE (l.foldl putE s.rows)).length then 8 else 0) := if_neg hn
  have t12 : ((l.length : Int) == 0) = false := by rw [beq_eq_false_iff_ne]; omega
  have t16 : decide ((4 : Int) < (l.length : Int)) = false := decide_eq_false (by omega)
  have hl4 : l.length ≤ 4 := by omega
  have HBY := Lib.hid (bytes_any B _ l w hl (by omega))
  clear hn
  by_cases hb : bytesF l = 0
  case neg =>
    have HF : Hid (checkM s l = bytesF l) := by rw [Hid, HC0.out, if_pos hb]
    have he : errV (bytesF l) = .iface 107 (.int .i64 (bytesF l)) := if_neg hb
    have HE := Lib.hid he
    rw [he] at HBY
    clear h hc hi hl hb he HC0
    go_enter Try.func86, Try.ntmps86
    go_wp2_with fail
    refine HBY.out.mono ?_
    rintro e w1 ⟨rfl, hb1⟩
    go_wp2_with fail
    go_ret
    exact ⟨by rw [HF.out, HE.out]; rfl, hb1⟩
  have HF0 : Hid (checkM s l = if 40 < (liveE (l.foldl putE s.rows)).length then 8 else 0) := by rw [Hid, HC0.out, if_neg (by simp [hb])]
  rw [hb, show errV 0 = Value.nilIface from rfl] at HBY
  have HRI := Lib.hid (rows_rise hi)
  have hrl := hi.body.rows
  have HRO := Lib.hid (fun W (hW : Below w.heap.size w W) => srows_any B q p c s F W (h.below hW) (hc.below hW) hi)
  clear h hc hi hl hb HC0
  go_enter Try.func86, Try.ntmps86
  go_wp2_with fail
  refine HBY.out.mono ?_
  rintro e w1 ⟨rfl, hb1⟩
  have HB1 := Lib.hid hb1
  have HR1 := Lib.hid (HRO.out w1 hb1)
  clear hb1 HBY HRO
  go_wp2_with fail
  refine HR1.out.mono ?_
  rintro e w2 ⟨v2, rfl, hv2, hb2⟩
  have HV2 := Lib.hid hv2
  have HB2 := Lib.hid (HB1.out.trans (hb2.mono HB1.out.size))
  clear hv2 hb2 HR1 HB1
  generalize s.rows = rws at *
  go_wp2_with fail
  go_loopw [7, 37] (fun u i wr => ∃ k : Nat, i = .int .i64 (k : Int) ∧ k ≤ l.length ∧ Hid (Ents B wr u ((l.take k).foldl putE rws)) ∧ Hid (Below w.heap.size w wr)) (fun _ i _ => l.length - (intOf i).toNat)
  case atStart => exact ⟨0, rfl, Nat.zero_le _, HV2.out, HB2.out⟩
  case round =>
    obtain ⟨k, rfl, hk, hu, hbl⟩ := hrel
    by_cases hlt : k < l.length
    · obtain ⟨y, hy, hty, _⟩ := getElem?_of_lt hlt
      obtain ⟨A', cp', e, _, _, hcell⟩ := (HL.out.below hbl.out).form
      cases e
      obtain ⟨bb, oo, rfl, hbb, y1, y2, y3⟩ := hcell k y hy
      have hyok := HL.out.2 y (List.mem_of_getElem? hy)
      have hnext : (l.take (k + 1)).foldl putE rws = merge2 [y] ((l.take k).foldl putE rws) := by
        rw [hty, List.foldl_append]
        show putE _ y = _
        exact putE_eq y _ (rises_puts _ HRI.out)
      have HNX := Lib.hid hnext
      have hal : ((l.take k).foldl putE rws).length ≤ 1000000 := by
        have h1 := puts_len (l.take k) rws
        have h2 : (l.take k).length ≤ l.length := List.length_take_le' _ _
        omega
      have h1 : Ents B ((wr.alloc (.cells #[.string y.k, .string y.v, .bool y.g] 25)).alloc (.cells #[.string y.k, .string y.v, .bool y.g] 25)) (.slice (some ⟨wr.heap.size + 1, 0, none⟩) 1 1) [y] :=
        ⟨rd_lit3 B (wr.alloc (.cells #[.string y.k, .string y.v, .bool y.g] 25)) _ (World.size_alloc _ _) y.k y.v y.g, fun e he => by simp at he; subst he; exact hyok⟩
      have hb2 : Below wr.heap.size wr ((wr.alloc (.cells #[.string y.k, .string y.v, .bool y.g] 25)).alloc (.cells #[.string y.k, .string y.v, .bool y.g] 25)) := ((Below.refl _ _).alloc (Nat.le_refl _) _).alloc (by simp) _
      have HTW := Lib.hid (two_any B _ u7 [y] ((l.take k).foldl putE rws) _ h1 (hu.out.below hb2) (by simp) hal)
      have HB3 : Hid (Below w.heap.size w ((wr.alloc (.cells #[.string y.k, .string y.v, .bool y.g] 25)).alloc (.cells #[.string y.k, .string y.v, .bool y.g] 25))) := hbl.out.trans (hb2.mono hbl.out.size)
      have g1 : (0 : Int) ≤ (k : Int) := by omega
      have g2 : (k : Int) < (l.length : Int) := by omega
      clear h1 hb2 hnext hcell hy hty hyok
      go_wp2_with fail
      refine HTW.out.mono ?_
      rintro e w5 ⟨v5, rfl, hv5, hb5⟩
      rw [← HNX.out] at hv5
      have HV5 := Lib.hid hv5
      have HB5 := Lib.hid (HB3.out.trans (hb5.mono HB3.out.size))
      clear hv5 hb5 HTW
      go_wp2_with fail
      go_roundw
      case rel => exact ⟨k + 1, by go_num, by omega, HV5.out, HB5.out⟩
      case measure => simp [intOf] <;> omega
    · obtain rfl : k = l.length := by omega
      have g2 : decide ((l.length : Int) < (l.length : Int)) = false := by simp
      rw [List.take_length] at hu
      have hal := puts_len l rws
      generalize l.foldl putE rws = R at *
      have HLV := Lib.hid (live_any B u7 R wr hu.out (by omega))
      by_cases h40 : 40 < (liveE R).length
      · have t49 : decide ((40 : Int) < ((liveE R).length : Int)) = true := decide_eq_true (by omega)
        have HF : Hid (checkM s l = 8) := by rw [Hid, HF0.out, if_pos h40]
        clear h40
        go_wp2_with fail
        refine HLV.out.mono ?_
        rintro e w5 ⟨v5, rfl, hv5, hb5⟩
        obtain ⟨A5, c5, rfl, _, _, kX⟩ := hv5.form
        have HB5 := Lib.hid (hbl.out.trans (hb5.mono hbl.out.size))
        clear hv5 hb5 kX HLV
        go_wp2_with fail
        go_ret
        exact ⟨by rw [HF.out]; rfl, HB5.out⟩
      · have t49 : decide ((40 : Int) < ((liveE R).length : Int)) = false := decide_eq_false (by omega)
        have HF : Hid (checkM s l = 0) := by rw [Hid, HF0.out, if_neg h40]
        clear h40
        go_wp2_with fail
        refine HLV.out.mono ?_
        rintro e w5 ⟨v5, rfl, hv5, hb5⟩
        obtain ⟨A5, c5, rfl, _, _, kX⟩ := hv5.form
        have HB5 := Lib.hid (hbl.out.trans (hb5.mono hbl.out.size))
        clear hv5 hb5 kX HLV
        go_wp2_with fail
        go_ret
        exact ⟨by rw [HF.out]; rfl, HB5.out⟩
end Go.Proofs.Ytaepdbkfaoiimab
/- The contract of store.Write. Conditions: the store is sound. -/
set_option linter.unusedVariables false
set_option linter.unusedSimpArgs false
namespace Go.Proofs.Ytaepdbkfaoiimab
open Go.RowKit
attribute [local go_sem ↓] eql_err eql_nilerr neq_err neq_nilerr guard_err guard_nilerr guardn_err guardn_nilerr
theorem write_bad {c : Chip} {s : SM} {l : List Ent} (h : checkM s l ≠ 0) : writeM c s l = (c, s, checkM s l) := if_pos h
theorem write_log {c c' : Chip} {s s' : SM} {l : List Ent} {n : Nat} (h : checkM s l = 0) (hl : logM (bytesL l.length l) 2 c s = (c', s', n)) : writeM c s l = (c', if n = 0 then { s' with mem := l.foldl putE s'.mem } else s', n) := by
  unfold writeM
  rw [if_neg (by simp [h]), hl]
  simp only
  by_cases hn : n = 0
  · subst hn; rw [if_pos rfl, if_pos rfl]
  · rw [if_neg hn, if_neg hn]
theorem write_nine {c c' : Chip} {s s' : SM} {l : List Ent} (h : checkM s l = 0) (hl : logM (bytesL l.length l) 2 c s = (c', s', 9)) : writeM c s l = (c', s', 9) := write_log h hl
theorem write_zero {c c' : Chip} {s s' : SM} {l : List Ent} (h : checkM s l = 0) (hl : logM (bytesL l.length l) 2 c s = (c', s', 0)) : writeM c s l = (c', { s' with mem := l.foldl putE s'.mem }, 0) := write_log h hl
/-- What lies where, while Write tries its block. -/
structure WrS (B q p : Nat) (F : List Nat) (w : World) (l : List Ent) (c0 : Chip) (s0 : SM) (g : Nat) (c : Chip) (s : SM) (F' : List Nat) (W : World) : Prop where
  st : StoreR B W q p s F'
  ch : ChipR B W p c
  fr : Fr B (· ∈ q :: p :: F) w W
  new : ∀ b ∈ F', b ∈ F ∨ w.heap.size ≤ b
  inv : Inv c s
  log : logM (bytesL l.length l) g c s = logM (bytesL l.length l) 2 c0 s0
  rows : s.rows = s0.rows
  ep : g = 2 ∧ s.m.ep ≤ s0.m.ep ∨ g = 1 ∧ s.m.ep ≤ s0.m.ep + 6 ∧ (c.b s.m.log.toNat).weak = false
theorem WrS.post {B q p : Nat} {F : List Nat} {w W W1 : World} {l : List Ent} {c0 c c1 : Chip} {s0 s s1 : SM} {g : Nat} {F' : List Nat} (h : WrS B q p F w l c0 s0 g c s F' W) {n : Nat} {e : Ending} (hp : SPost B q p F' W (c1, s1, n) e W1) : SPost B q p F w (c1, s1, n) e W1 := SPost.step h.fr h.new hp
set_option maxRecDepth 20000 in
set_option maxHeartbeats 8000000 in
theorem write_any (B : Nat) (q p : Nat) (c : Chip) (s : SM) (F : List Nat) (v : Value) (l : List Ent) (w : World) (h : StoreR B w q p s F) (hc : ChipR B w p c) (hi : Inv c s) (hl : Ents B w v l) (hep : s.m.ep + 9 ≤ 100000) :
    Calls Try.prog 55 #[.pointer (some ⟨q, 0, none⟩), v] w (SPost B q p F w (writeM c s l)) := by
  have hck := scheck_any B q p c s F v l w h hc hi hl
  have hB0 : B ≤ w.heap.size := Nat.le_of_lt (Nat.lt_of_le_of_lt h.base h.lt)
  have hqp := h.apart hc q (by simp)
  obtain ⟨A, cp, rfl, hc1, hc2, _⟩ := hl.form
  by_cases hn : checkM s l = 0
  case neg =>
    have HX := Lib.hid (write_bad (c := c) hn)
    have HE := Lib.hid (errV_pos hn)
    have HPO : Hid (∀ W, Below w.heap.size w W → SPost B q p F w (c, s, checkM s l) (.returned (errV (checkM s l))) W) := fun W hW => ⟨rfl, hc.below hW, ⟨F, h.below hW, fun b hb => .inl hb⟩, Fr.of_below hW⟩
    rw [HE.out] at hck
    have HCK := Lib.hid hck
    clear hck hn h hc hi hl
    go_enter Try.func55, Try.ntmps55
    go_wp2_with fail
    refine HCK.out.mono ?_
    rintro e w1 ⟨rfl, hb1⟩
    have HP := Lib.hid (HPO.out w1 hb1)
    clear hb1 HCK HPO
    go_wp2_with fail
    go_ret
    rw [HX.out]
    rw [HE.out] at HP
    exact HP.out
  obtain ⟨hl0, hl4, hby, hnew⟩ := checkM_zero hn
  have HW9 := Lib.hid (fun c' s' => write_nine (c := c) (c' := c') (s' := s') hn)
  have HW0 := Lib.hid (fun c' s' => write_zero (c := c) (c' := c') (s' := s') hn)
  rw [hn, show errV 0 = Value.nilIface from rfl] at hck
  have HCK := Lib.hid hck
  have HBY : Hid (∀ W, Below w.heap.size w W → Calls Try.prog 24 #[.slice A l.length cp] W fun d w' => d = .returned (.tuple #[.string (bytesL l.length l), .nilIface]) ∧ Below W.heap.size W w') := by
    intro W hW
    have := bytes_any B _ l W (hl.below hW) (by omega)
    rw [hby, show bytesS l = bytesL l.length l from if_pos hby] at this
    exact this
  have HPA := Lib.hid (bytesF_parts hby)
  have HBF := Lib.hid hby
  have HNW := Lib.hid hnew
  have HL := Lib.hid hl
  have HS0 : Hid (∀ W, Below w.heap.size w W → WrS B q p F w l c s 2 c s F W) := fun W hW => ⟨h.below hW, hc.below hW, Fr.of_below hW, fun b hb => .inl hb, hi, rfl, rfl, .inl ⟨rfl, Int.le_refl _⟩⟩
  clear hck hn h hc hi hl hby hnew
  go_enter Try.func55, Try.ntmps55
  go_wp2_with fail
  refine HCK.out.mono ?_
  rintro e w1 ⟨rfl, hb1⟩
  have HB1 := Lib.hid hb1
  have HY1 := Lib.hid (HBY.out w1 hb1)
  clear hb1 HCK HBY
  go_wp2_with fail
  refine HY1.out.mono ?_
  rintro e w2 ⟨rfl, hb2⟩
  have HS2 := Lib.hid (HS0.out w2 (HB1.out.trans (hb2.mono HB1.out.size)))
  clear hb2 HY1 HS0 HB1
  go_wp2_with fail
  go_loopg [5] 2 (fun g e wr => ∃ (c' : Chip) (s' : SM) (F' : List Nat), Hid (WrS B q p F w l c s g c' s' F' wr))
  case atStart => exact ⟨c, s, F, HS2.out⟩
  case round =>
    obtain ⟨c', s', F', hS⟩ := hrel
    obtain ⟨g, rfl⟩ : ∃ g, gk = g + 1 := ⟨gk - 1, by rcases hS.out.ep with h | h <;> omega⟩
    have hep1 : s'.m.ep ≤ s.m.ep + 6 := by rcases hS.out.ep with h | h <;> omega
    obtain ⟨c1, s1, n1, e1, _, g1⟩ := room_calm hS.out.inv (by omega)
    have hrm := room_any B q p c' s' F' wr hS.out.st hS.out.ch hS.out.inv (by omega)
    have hlog := hS.out.log
    rw [logM, e1] at hlog
    rw [e1] at hrm
    by_cases hn1 : n1 = 0
    case neg =>
      have h9 : n1 = 9 := by rcases g1 with ⟨h, _⟩ | ⟨h, _⟩; exact absurd h hn1; exact h
      subst h9
      simp only at hlog
      rw [if_pos (by decide)] at hlog
      have HX := Lib.hid (HW9.out c1 s1 hlog.symm)
      have HRM := Lib.hid hrm
      clear hlog hrm g1 e1 hn1
      go_wp2_with fail
      refine HRM.out.mono ?_
      rintro e w3 ⟨rfl, hr⟩
      have HR := Lib.hid hr
      clear hr HRM
      simp only
      rw [show errV 9 = Value.iface 107 (.int .i64 9) from rfl]
      go_wp2_with fail
      go_ret
      rw [HX.out]
      exact hS.out.post ⟨rfl, HR.out⟩
    subst hn1
    rcases g1 with ⟨_, hi1, hrw1, hep2, hep3, _, _, h8, hwk1⟩ | ⟨h9, _⟩
    case inr => omega
    simp only at hlog
    rw [if_neg (by simp)] at hlog
    have hrows : s1.rows = s.rows := hrw1.trans hS.out.rows
    obtain ⟨c2, n2, e2, _, g2⟩ := logw_calm (l := l) hi1 hl4 HBF.out (by rw [hrows]; exact HNW.out) h8
    rw [e2] at hlog
    simp only at hlog
    have HRM := Lib.hid hrm
    have HS1 : Hid (∀ w3, SPost B q p F' wr (c1, s1, 0) (.returned (errV 0)) w3 → ∃ F1, StoreR B w3 q p s1 F1 ∧ ChipR B w3 p c1 ∧ Fr B (· ∈ q :: p :: F) w w3 ∧ (∀ b ∈ F1, b ∈ F ∨ w.heap.size ≤ b)) := by
      intro w3 hp
      obtain ⟨_, hc, ⟨F1, hs, hF⟩, hf⟩ := hS.out.post hp
      exact ⟨F1, hs, hc, hf, hF⟩
    have HCW0 := Lib.hid (fun W (hW : ChipR B W p c1) => cwrite_any B p c1 s1.m.log (bytesL l.length l) W hW (by have := HPA.out.2; omega))
    rw [e2] at HCW0
    have HEP := Lib.hid hS.out.ep
    clear hrm e2 hrw1 e1
    by_cases hn7 : n2 = 7
    case neg =>
      rw [if_pos hn7] at hlog
      by_cases hn0 : n2 = 0
      case neg =>
        have h9 : n2 = 9 := by rcases g2 with ⟨h, _⟩ | ⟨h, _⟩ | ⟨h, _⟩; exact absurd h hn0; exact absurd h hn7; exact h
        subst h9
        have HX := Lib.hid (HW9.out c2 s1 hlog.symm)
        clear hlog g2 hn7 hn0 hi1 hwk1 h8
        go_wp2_with fail
        refine HRM.out.mono ?_
        rintro e w3 ⟨rfl, hr⟩
        obtain ⟨F1, hs3, hc3, hf3, hF3⟩ := HS1.out w3 ⟨rfl, hr⟩
        have HS3 := Lib.hid hs3
        have HC3 := Lib.hid hc3
        have HF3 := Lib.hid (And.intro hf3 hF3)
        obtain ⟨A1, c1', A2, c2', t, n, hk, _⟩ := hs3
        have x0 := hk.cell 0
        have x2 := hk.cell 2
        simp at x0 x2
        have HZ : Hid (∀ w', w' = w3.drew → w'.cell? ⟨q, 0, none⟩ = some (.pointer (some ⟨p, 0, none⟩)) ∧ w'.cell? ⟨q, 2, none⟩ = some (.int .i64 s1.m.log)) := fun w' e => by subst e; exact ⟨x0, x2⟩
        have HZ2 : Hid (∀ w', Fr B (· = p) w3.drew w' → w'.cell? ⟨q, 0, none⟩ = some (.pointer (some ⟨p, 0, none⟩)) ∧ w'.cell? ⟨q, 2, none⟩ = some (.int .i64 s1.m.log)) := by
          intro w' hf
          have hk2 := (hk.drewN 1).fr hf (.inr (.inl hqp))
          have y0 := hk2.cell 0
          have y2 := hk2.cell 2
          simp at y0 y2
          exact ⟨y0, y2⟩
        have HCW := Lib.hid (HCW0.out w3.drew (hc3.drewN 1))
        clear hr hc3 hf3 hF3 hk HRM HS1 HCW0
        simp only
        rw [show errV 0 = Value.nilIface from rfl]
        go_wp2_with fail
        go_region_held3 (fun w' => w'.cell? ⟨q, 0, none⟩ = some (.pointer (some ⟨p, 0, none⟩)) ∧ w'.cell? ⟨q, 2, none⟩ = some (.int .i64 s1.m.log))
          ((first | exact HZ.out _ (by rfl) | exact HZ2.out _ hf5))
          ((first | (go_at_call 33; refine HCW.out.mono ?_; rintro e w5 ⟨rfl, hc5, hf5⟩; rw [show errV 9 = Value.iface 107 (.int .i64 9) from rfl])))
        have hs5 := (HS3.out.drewN 1).chip (HC3.out.drewN 1) hf5
        have HFI : Hid (SPost B q p F w (c2, s1, 9) (.returned (errV 9)) w5) := ⟨rfl, hc5, ⟨F1, hs5, HF3.out.2⟩, (HF3.out.1.drewN 1).trans' hf5 (fun b _ e => by subst e; simp)⟩
        clear hs5 hc5 hf5 HCW x0 x2
        go_wp2_with fail
        go_ret
        rw [HX.out]
        exact HFI.out
      subst hn0
      have HX := Lib.hid (HW0.out c2 s1 hlog.symm)
      have hml := Fallen.mem_len hi1
      clear hlog g2 hn7 hi1 hwk1 h8
      go_wp2_with fail
      refine HRM.out.mono ?_
      rintro e w3 ⟨rfl, hr⟩
      obtain ⟨F1, hs3, hc3, hf3, hF3⟩ := HS1.out w3 ⟨rfl, hr⟩
      have HS3 := Lib.hid hs3
      have HC3 := Lib.hid hc3
      have HF3 := Lib.hid (And.intro hf3 hF3)
      obtain ⟨A1, c1', A2, c2', t, n, hk, _⟩ := hs3
      have x0 := hk.cell 0
      have x2 := hk.cell 2
      simp at x0 x2
      have HZ : Hid (∀ w', w' = w3.drew → w'.cell? ⟨q, 0, none⟩ = some (.pointer (some ⟨p, 0, none⟩)) ∧ w'.cell? ⟨q, 2, none⟩ = some (.int .i64 s1.m.log)) := fun w' e => by subst e; exact ⟨x0, x2⟩
      have HZ2 : Hid (∀ w', Fr B (· = p) w3.drew w' → w'.cell? ⟨q, 0, none⟩ = some (.pointer (some ⟨p, 0, none⟩)) ∧ w'.cell? ⟨q, 2, none⟩ = some (.int .i64 s1.m.log)) := by
        intro w' hf
        have hk2 := (hk.drewN 1).fr hf (.inr (.inl hqp))
        have y0 := hk2.cell 0
        have y2 := hk2.cell 2
        simp at y0 y2
        exact ⟨y0, y2⟩
      have HCW := Lib.hid (HCW0.out w3.drew (hc3.drewN 1))
      clear hr hc3 hf3 hF3 hk HRM HS1 HCW0
      simp only
      rw [show errV 0 = Value.nilIface from rfl]
      go_wp2_with fail
      go_region_held3 (fun w' => w'.cell? ⟨q, 0, none⟩ = some (.pointer (some ⟨p, 0, none⟩)) ∧ w'.cell? ⟨q, 2, none⟩ = some (.int .i64 s1.m.log))
        ((first | exact HZ.out _ (by rfl) | exact HZ2.out _ hf5))
        ((first | (go_at_call 33; refine HCW.out.mono ?_; rintro e w5 ⟨rfl, hc5, hf5⟩; rw [show errV 0 = Value.nilIface from rfl])))
      have hs5 := (HS3.out.drewN 1).chip (HC3.out.drewN 1) hf5
      have hls5 : Ents B w5 (.slice A l.length cp) l := ((HL.out.fr HF3.out.1).drewN 1).fr hf5
      have HF5 : Hid (Fr B (· ∈ q :: p :: F) w w5) := (HF3.out.1.drewN 1).trans' hf5 (fun b _ e => by subst e; simp)
      have HTK := Lib.hid (take_any B q p s1 F1 _ l w5 hs5 hls5 (by omega) (Nat.le_trans hB0 HF5.out.size))
      have HAP := Lib.hid (hs5.apart hc5)
      have HC5 := Lib.hid hc5
      clear hs5 hc5 hf5 HCW x0 x2 hls5
      go_wp2_with fail
      refine HTK.out.mono ?_
      rintro e w6 ⟨F6, rfl, hs6, hf6, hF6⟩
      have HFI : Hid (SPost B q p F w (c2, { s1 with mem := l.foldl putE s1.mem }, 0) (.returned .nilIface) w6) := by
        refine ⟨rfl, HC5.out.keep hf6 (fun hm => HAP.out p hm rfl), ⟨F6, hs6, fun b hb => ?_⟩, HF5.out.trans' hf6 (fun b hb hm => ?_)⟩
        · rcases hF6 b hb with h | h
          · exact HF3.out.2 b h
          · exact .inr (Nat.le_trans HF5.out.size h)
        · rcases List.mem_cons.1 hm with rfl | hm
          · simp
          · rcases HF3.out.2 b hm with h | h
            · simp [h]
            · omega
      clear hs6 hf6 hF6 HTK
      go_wp2_with fail
      go_ret
      rw [HX.out]
      exact HFI.out
    subst hn7
    rw [if_neg (by simp)] at hlog
    rcases g2 with ⟨h, _⟩ | ⟨_, hwk, hi2, _⟩ | ⟨h, _⟩
    case inl => omega
    case inr.inr => omega
    have hg2 : g + 1 = 2 ∧ s'.m.ep ≤ s.m.ep := by
      rcases HEP.out with h | ⟨_, _, h⟩
      · exact h
      · have := hwk1 h; rw [hwk] at this; cases this
    obtain ⟨hg2, hep0⟩ := hg2
    obtain ⟨c3, s3, n3, e3, _, g3⟩ := flush_calm hi2 (by omega)
    rw [e3] at hlog
    simp only at hlog
    have HFL0 := Lib.hid (fun W F2 (hS : StoreR B W q p s1 F2) (hC : ChipR B W p c2) => flush_any B q p c2 s1 F2 W hS hC hi2 (by omega))
    rw [e3] at HFL0
    clear e3
    by_cases hn3 : n3 = 0
    case neg =>
      have h9 : n3 = 9 := by rcases g3 with ⟨h, _⟩ | ⟨h, _⟩; exact absurd h hn3; exact h
      subst h9
      rw [if_pos (by decide)] at hlog
      have HX := Lib.hid (HW9.out c3 s3 hlog.symm)
      clear hlog g3 hn3 hi1 hi2 hwk hwk1 h8
      go_wp2_with fail
      refine HRM.out.mono ?_
      rintro e w3 ⟨rfl, hr⟩
      obtain ⟨F1, hs3, hc3, hf3, hF3⟩ := HS1.out w3 ⟨rfl, hr⟩
      have HS3 := Lib.hid hs3
      have HC3 := Lib.hid hc3
      have HF3 := Lib.hid (And.intro hf3 hF3)
      obtain ⟨A1, c1', A2, c2', t, n, hk, _⟩ := hs3
      have x0 := hk.cell 0
      have x2 := hk.cell 2
      simp at x0 x2
      have HZ : Hid (∀ w', w' = w3.drew → w'.cell? ⟨q, 0, none⟩ = some (.pointer (some ⟨p, 0, none⟩)) ∧ w'.cell? ⟨q, 2, none⟩ = some (.int .i64 s1.m.log)) := fun w' e => by subst e; exact ⟨x0, x2⟩
      have HZ2 : Hid (∀ w', Fr B (· = p) w3.drew w' → w'.cell? ⟨q, 0, none⟩ = some (.pointer (some ⟨p, 0, none⟩)) ∧ w'.cell? ⟨q, 2, none⟩ = some (.int .i64 s1.m.log)) := by
        intro w' hf
        have hk2 := (hk.drewN 1).fr hf (.inr (.inl hqp))
        have y0 := hk2.cell 0
        have y2 := hk2.cell 2
        simp at y0 y2
        exact ⟨y0, y2⟩
      have HCW := Lib.hid (HCW0.out w3.drew (hc3.drewN 1))
      clear hr hc3 hf3 hF3 hk HRM HS1 HCW0
      simp only
      rw [show errV 0 = Value.nilIface from rfl]
      go_wp2_with fail
      go_region_held3 (fun w' => w'.cell? ⟨q, 0, none⟩ = some (.pointer (some ⟨p, 0, none⟩)) ∧ w'.cell? ⟨q, 2, none⟩ = some (.int .i64 s1.m.log))
        ((first | exact HZ.out _ (by rfl) | exact HZ2.out _ hf5))
        ((first | (go_at_call 33; refine HCW.out.mono ?_; rintro e w5 ⟨rfl, hc5, hf5⟩; rw [show errV 7 = Value.iface 107 (.int .i64 7) from rfl])))
      have hs5 := (HS3.out.drewN 1).chip (HC3.out.drewN 1) hf5
      have HFL := Lib.hid (HFL0.out w5 F1 hs5 hc5)
      have HF5 : Hid (Fr B (· ∈ q :: p :: F) w w5) := (HF3.out.1.drewN 1).trans' hf5 (fun b _ e => by subst e; simp)
      clear hs5 hc5 hf5 HCW x0 x2 HFL0
      go_wp2_with fail
      refine HFL.out.mono ?_
      rintro e w6 ⟨rfl, hr⟩
      have HFI : Hid (SPost B q p F w (c3, s3, 9) (.returned (errV 9)) w6) := SPost.step HF5.out HF3.out.2 ⟨rfl, hr⟩
      clear hr HFL
      simp only
      rw [show errV 9 = Value.iface 107 (.int .i64 9) from rfl]
      go_wp2_with fail
      go_ret
      rw [HX.out]
      exact HFI.out
    subst hn3
    rw [if_neg (by simp)] at hlog
    rcases g3 with ⟨_, hi3, hrw3, hep4, hep5, _, _, _, ⟨b3, hb3, _, hb4, _⟩, _⟩ | ⟨h, _⟩
    case inr => omega
    have HLG := Lib.hid hlog
    have HI3 := Lib.hid hi3
    have HRW : Hid (s3.rows = s.rows) := hrw3.trans hrows
    have HWK : Hid ((c3.b s3.m.log.toNat).weak = false) := by rw [Hid, hb3, Int.toNat_natCast]; exact hb4
    clear hlog hi3 hi1 hi2 hwk hwk1 h8 hrw3 hb3 hb4 hrows
    go_wp2_with fail
    refine HRM.out.mono ?_
    rintro e w3 ⟨rfl, hr⟩
    obtain ⟨F1, hs3, hc3, hf3, hF3⟩ := HS1.out w3 ⟨rfl, hr⟩
    have HS3 := Lib.hid hs3
    have HC3 := Lib.hid hc3
    have HF3 := Lib.hid (And.intro hf3 hF3)
    obtain ⟨A1, c1', A2, c2', t, n, hk, _⟩ := hs3
    have x0 := hk.cell 0
    have x2 := hk.cell 2
    simp at x0 x2
    have HZ : Hid (∀ w', w' = w3.drew → w'.cell? ⟨q, 0, none⟩ = some (.pointer (some ⟨p, 0, none⟩)) ∧ w'.cell? ⟨q, 2, none⟩ = some (.int .i64 s1.m.log)) := fun w' e => by subst e; exact ⟨x0, x2⟩
    have HZ2 : Hid (∀ w', Fr B (· = p) w3.drew w' → w'.cell? ⟨q, 0, none⟩ = some (.pointer (some ⟨p, 0, none⟩)) ∧ w'.cell? ⟨q, 2, none⟩ = some (.int .i64 s1.m.log)) := by
      intro w' hf
      have hk2 := (hk.drewN 1).fr hf (.inr (.inl hqp))
      have y0 := hk2.cell 0
      have y2 := hk2.cell 2
      simp at y0 y2
      exact ⟨y0, y2⟩
    have HCW := Lib.hid (HCW0.out w3.drew (hc3.drewN 1))
    clear hr hc3 hf3 hF3 hk HRM HS1 HCW0
    simp only
    rw [show errV 0 = Value.nilIface from rfl]
    go_wp2_with fail
    go_region_held3 (fun w' => w'.cell? ⟨q, 0, none⟩ = some (.pointer (some ⟨p, 0, none⟩)) ∧ w'.cell? ⟨q, 2, none⟩ = some (.int .i64 s1.m.log))
      ((first | exact HZ.out _ (by rfl) | exact HZ2.out _ hf5))
      ((first | (go_at_call 33; refine HCW.out.mono ?_; rintro e w5 ⟨rfl, hc5, hf5⟩; rw [show errV 7 = Value.iface 107 (.int .i64 7) from rfl])))
    have hs5 := (HS3.out.drewN 1).chip (HC3.out.drewN 1) hf5
    have HFL := Lib.hid (HFL0.out w5 F1 hs5 hc5)
    have HF5 : Hid (Fr B (· ∈ q :: p :: F) w w5) := (HF3.out.1.drewN 1).trans' hf5 (fun b _ e => by subst e; simp)
    clear hs5 hc5 hf5 HCW x0 x2 HFL0
    go_wp2_with fail
    refine HFL.out.mono ?_
    rintro e w6 ⟨rfl, hr⟩
    have hfi : SPost B q p F w (c3, s3, 0) (.returned (errV 0)) w6 := SPost.step HF5.out HF3.out.2 ⟨rfl, hr⟩
    have HFI := Lib.hid hfi
    clear hr HFL hfi
    simp only
    rw [show errV 0 = Value.nilIface from rfl]
    go_wp2_with fail
    go_roundg g
    case measure => omega
    case rel =>
      obtain ⟨_, hc6, ⟨F6, hs6, hF6⟩, hf6⟩ := HFI.out
      exact ⟨c3, s3, F6, hs6, hc6, hf6, hF6, HI3.out, HLG.out, HRW.out, .inr ⟨by omega, by omega, HWK.out⟩⟩
end Go.Proofs.Ytaepdbkfaoiimab
/- The contract of store.Manifest. Conditions: none but those that it names. -/
set_option linter.unusedVariables false
set_option linter.unusedSimpArgs false
namespace Go.Proofs.Ytaepdbkfaoiimab
open Go.RowKit
section
variable {B g k i j : Nat} {w : World} {cs : Array Value} {a0 a1 a2 a3 b0 b1 b2 b3 x y : Value}
theorem man_two (hz : Blk w k 50 #[a0, a1, a2, a3]) (hne : k ≠ g) : Blk ((((((w.setCell ⟨g, i, none⟩ x).setCell ⟨g, j, none⟩ y).setCell ⟨k, 0, none⟩ b0).setCell ⟨k, 1, none⟩ b1).setCell ⟨k, 2, none⟩ b2).setCell ⟨k, 3, none⟩ b3) k 50 #[b0, b1, b2, b3] :=
  store4 ((hz.far (p := ⟨g, i, none⟩) hne x).far (p := ⟨g, j, none⟩) hne y) b0 b1 b2 b3
theorem ints_two {v : Value} {l : List Int} (h : Ints B w v l) (hz : Blk w k 50 #[a0, a1, a2, a3]) (hg : Blk w g 50 cs) (hne : k ≠ g) (hBg : B ≤ g) (hBk : B ≤ k) : Ints B ((((((w.setCell ⟨g, i, none⟩ x).setCell ⟨g, j, none⟩ y).setCell ⟨k, 0, none⟩ b0).setCell ⟨k, 1, none⟩ b1).setCell ⟨k, 2, none⟩ b2).setCell ⟨k, 3, none⟩ b3) v l := by
  have h1 := Rd.far' (o := i) h hg hBg (by decide) x
  have h2 := Rd.far' (o := j) h1 (hg.set_ i x) hBg (by decide) y
  have hz2 := (hz.far (p := ⟨g, i, none⟩) hne x).far (p := ⟨g, j, none⟩) hne y
  exact Rd.far' (Rd.far' (Rd.far' (Rd.far' h2 hz2 hBk (by decide) _) (hz2.set_ 0 _) hBk (by decide) _) ((hz2.set_ 0 _).set_ 1 _) hBk (by decide) _) (((hz2.set_ 0 _).set_ 1 _).set_ 2 _) hBk (by decide) _
theorem below_two {n : Nat} {w0 : World} (h : Below n w0 w) (hg : n ≤ g) (hk : n ≤ k) : Below n w0 ((((((w.setCell ⟨g, i, none⟩ x).setCell ⟨g, j, none⟩ y).setCell ⟨k, 0, none⟩ b0).setCell ⟨k, 1, none⟩ b1).setCell ⟨k, 2, none⟩ b2).setCell ⟨k, 3, none⟩ b3) :=
  below4 ((h.setCell (p := ⟨g, i, none⟩) hg x).setCell (p := ⟨g, j, none⟩) hg y) hk b0 b1 b2 b3
end
end Go.Proofs.Ytaepdbkfaoiimab
/- The arguments of a law, opened: manifests and acts. Conditions: none. -/
set_option linter.unusedVariables false
namespace Go.Proofs.Ytaepdbkfaoiimab
open Go.ChangeShapes Go.WideShapes Go.ChangeAt Go.RowKit Go.WideMaps Go.WideElems
open Go.ChangeMaps (open_string shut_string)

theorem lit64 {n : Int} (h : (Lit.int .i64 n).wf = true) : -9223372036854775808 ≤ n ∧ n ≤ 9223372036854775807 := by
  simp [Lit.wf, IntKind.min, IntKind.max, IntKind.signed, IntKind.bits] at h
  omega
set_option maxRecDepth 100000 in
theorem ints_trod {H : Type} {enc : TypeId × Value → H} {W : World} {fuel : Nat} {v : Value} {x : DataW H × List MemPlace} (h : DataW.trod enc Try.prog W 0 (fun _ => true) true fuel 34 [v] = some x) : ∃ l, Ints W.heap.size W v l := by
  obtain ⟨l, h1, _⟩ := slice_trod Try.underlying34 (by kernel_rfl) (show 0 < 1 by omega) (fun n : Int => [.int .i64 n]) (fun _ => rfl) (fun _ => True)
    (fun n cs y hy => by
      obtain ⟨n', h, _, _⟩ := DataW.trod_int Try.underlying3 hy
      exact ⟨n', h, trivial⟩) h
  exact ⟨l, by rw [flat_one] at h1; exact h1⟩
/-- What a manifest's numbers are. -/
def ManOk (m : Man) : Prop := -9223372036854775808 ≤ m.ep ∧ m.ep ≤ 9223372036854775807 ∧ -9223372036854775808 ≤ m.log ∧ m.log ≤ 9223372036854775807
set_option maxRecDepth 100000 in
theorem man_trod {H : Type} {enc : TypeId × Value → H} {W : World} {n : Nat} {cs : List Value} {y : DataW H × List MemPlace} (h : DataW.trod enc Try.prog W 0 (fun _ => true) true n 50 cs = some y) :
    ∃ (m : Man) (vn vo : Value), cs = [.int .i64 m.ep, .int .i64 m.log, vn, vo] ∧ Ints W.heap.size W vn m.nw ∧ Ints W.heap.size W vo m.od ∧ ManOk m := by
  have hs := Try.underlying50
  obtain ⟨ys, n', _, _, hlen, hyl, hf⟩ := DataW.trod_struct hs h
  have c9 : Try.prog.cellsOf 3 = 1 := by kernel_rfl
  have c4 : Try.prog.cellsOf 34 = 1 := by kernel_rfl
  have c35 : Try.prog.cellsOf 50 = 4 := by kernel_rfl
  have h0 : DataW.trod enc Try.prog W 0 _ true n' 3 ((cs.drop 0).take (Try.prog.cellsOf 3)) = ys[0]? := hf 0 _ rfl
  have h1 : DataW.trod enc Try.prog W 0 _ true n' 3 ((cs.drop 1).take (Try.prog.cellsOf 3)) = ys[1]? := hf 1 _ rfl
  have h2 : DataW.trod enc Try.prog W 0 _ true n' 34 ((cs.drop 2).take (Try.prog.cellsOf 34)) = ys[2]? := hf 2 _ rfl
  have h3 : DataW.trod enc Try.prog W 0 _ true n' 34 ((cs.drop 3).take (Try.prog.cellsOf 34)) = ys[3]? := hf 3 _ rfl
  rw [c35] at hlen
  rw [c9] at h0 h1
  rw [c4] at h2 h3
  match cs, hlen with
  | [v0, v1, v2, v3], _ =>
    have hl4 : ys.length = 4 := hyl
    match ys, hl4 with
    | [y0, y1, y2, y3], _ =>
      obtain ⟨a, e0, _, b0⟩ := DataW.trod_int Try.underlying3 (show DataW.trod enc Try.prog W 0 _ true n' _ [v0] = some y0 from h0)
      obtain ⟨b, e1, _, b1⟩ := DataW.trod_int Try.underlying3 (show DataW.trod enc Try.prog W 0 _ true n' _ [v1] = some y1 from h1)
      obtain ⟨l2, q2⟩ := ints_trod (show DataW.trod enc Try.prog W 0 _ true n' _ [v2] = some y2 from h2)
      obtain ⟨l3, q3⟩ := ints_trod (show DataW.trod enc Try.prog W 0 _ true n' _ [v3] = some y3 from h3)
      simp at e0 e1
      subst e0; subst e1
      exact ⟨⟨a, b, l2, l3⟩, v2, v3, rfl, q2, q3, (lit64 b0).1, (lit64 b0).2, (lit64 b1).1, (lit64 b1).2⟩
set_option maxRecDepth 100000 in
theorem man_of {H : Type} {enc : TypeId × Value → H} {W : World} {base : Nat} {v : Value} {d : DataW H} {p : List MemPlace}
    (hval : Value.okWide Try.prog W .any base 50 v) (h : DataW.Trod enc Try.prog W 0 (fun _ => true) true 50 v d p) : ∃ m, ManV W.heap.size W v m ∧ ManOk m := by
  obtain ⟨cs, rfl, _⟩ := okWide_struct Try.underlying50 hval
  obtain ⟨fuel, hf⟩ := h
  obtain ⟨m, vn, vo, e, h2, h3, h4⟩ := man_trod hf
  have e' : cs = #[.int .i64 m.ep, .int .i64 m.log, vn, vo] := by
    have : (Value.agg cs).cells.toList = cs.toList := rfl
    rw [this] at e
    exact Array.toList_inj.1 e
  subst e'
  exact ⟨m, ⟨vn, vo, rfl, h2, h3⟩, h4⟩
/-- An act, with its slice as it stands. -/
structure Act where
  kind : ByteArray
  s : ByteArray
  a : Int
  b : Int
  v : Value
  l : List Ent
def Act.cells (x : Act) : List Value := [.string x.kind, .string x.s, .int .i64 x.a, .int .i64 x.b, x.v]
def ActOk (x : Act) : Prop := x.kind.size ≤ 9223372036854775807 ∧ x.s.size ≤ 9223372036854775807 ∧ -9223372036854775808 ≤ x.a ∧ x.a ≤ 9223372036854775807 ∧ -9223372036854775808 ≤ x.b ∧ x.b ≤ 9223372036854775807
def ActsR (B : Nat) (w : World) (v : Value) (l : List Act) : Prop := Rd B 61 5 w v l.length (l.flatMap Act.cells) ∧ ∀ x ∈ l, Ents B w x.v x.l ∧ ActOk x
set_option maxRecDepth 100000 in
theorem act_trod {H : Type} {enc : TypeId × Value → H} {W : World} {n : Nat} {cs : List Value} {y : DataW H × List MemPlace} (h : DataW.trod enc Try.prog W 0 (fun _ => true) true n 61 cs = some y) :
    ∃ x : Act, cs = x.cells ∧ Ents W.heap.size W x.v x.l ∧ ActOk x := by
  have hs := Try.underlying61
  obtain ⟨ys, n', _, _, hlen, hyl, hf⟩ := DataW.trod_struct hs h
  have c9 : Try.prog.cellsOf 3 = 1 := by kernel_rfl
  have c4 : Try.prog.cellsOf 22 = 1 := by kernel_rfl
  have cs1 : Try.prog.cellsOf 9 = 1 := by kernel_rfl
  have c35 : Try.prog.cellsOf 61 = 5 := by kernel_rfl
  have h0 : DataW.trod enc Try.prog W 0 _ true n' 9 ((cs.drop 0).take (Try.prog.cellsOf 9)) = ys[0]? := hf 0 _ rfl
  have h1 : DataW.trod enc Try.prog W 0 _ true n' 9 ((cs.drop 1).take (Try.prog.cellsOf 9)) = ys[1]? := hf 1 _ rfl
  have h2 : DataW.trod enc Try.prog W 0 _ true n' 3 ((cs.drop 2).take (Try.prog.cellsOf 3)) = ys[2]? := hf 2 _ rfl
  have h3 : DataW.trod enc Try.prog W 0 _ true n' 3 ((cs.drop 3).take (Try.prog.cellsOf 3)) = ys[3]? := hf 3 _ rfl
  have h4 : DataW.trod enc Try.prog W 0 _ true n' 22 ((cs.drop 4).take (Try.prog.cellsOf 22)) = ys[4]? := hf 4 _ rfl
  rw [c35] at hlen
  rw [cs1] at h0 h1
  rw [c9] at h2 h3
  rw [c4] at h4
  match cs, hlen with
  | [v0, v1, v2, v3, v4], _ =>
    have hl5 : ys.length = 5 := hyl
    match ys, hl5 with
    | [y0, y1, y2, y3, y4], _ =>
      obtain ⟨s0, e0, _, b0⟩ := DataW.trod_string Try.underlying9 (show DataW.trod enc Try.prog W 0 _ true n' _ [v0] = some y0 from h0)
      obtain ⟨s1, e1, _, b1⟩ := DataW.trod_string Try.underlying9 (show DataW.trod enc Try.prog W 0 _ true n' _ [v1] = some y1 from h1)
      obtain ⟨a, e2, _, b2⟩ := DataW.trod_int Try.underlying3 (show DataW.trod enc Try.prog W 0 _ true n' _ [v2] = some y2 from h2)
      obtain ⟨b, e3, _, b3⟩ := DataW.trod_int Try.underlying3 (show DataW.trod enc Try.prog W 0 _ true n' _ [v3] = some y3 from h3)
      obtain ⟨l4, q4⟩ := ents_trod (show DataW.trod enc Try.prog W 0 _ true n' _ [v4] = some y4 from h4)
      simp at e0 e1 e2 e3
      subst e0; subst e1; subst e2; subst e3
      unfold maxLen at b0 b1
      exact ⟨⟨s0, s1, a, b, v4, l4⟩, rfl, q4, by show s0.size ≤ _; omega, by show s1.size ≤ _; omega, (lit64 b2).1, (lit64 b2).2, (lit64 b3).1, (lit64 b3).2⟩
set_option maxRecDepth 100000 in
theorem act_of {H : Type} {enc : TypeId × Value → H} {W : World} {base : Nat} {v : Value} {d : DataW H} {p : List MemPlace}
    (hval : Value.okWide Try.prog W .any base 61 v) (h : DataW.Trod enc Try.prog W 0 (fun _ => true) true 61 v d p) : ∃ x : Act, v = .agg x.cells.toArray ∧ Ents W.heap.size W x.v x.l ∧ ActOk x := by
  obtain ⟨cs, rfl, _⟩ := okWide_struct Try.underlying61 hval
  obtain ⟨fuel, hf⟩ := h
  obtain ⟨x, e, h2, h3⟩ := act_trod hf
  have e' : cs = x.cells.toArray := by
    have : (Value.agg cs).cells.toList = cs.toList := rfl
    rw [this] at e
    exact Array.toList_inj.1 (by rw [e])
  subst e'
  exact ⟨x, rfl, h2, h3⟩
set_option maxRecDepth 100000 in
theorem acts_of {H : Type} {enc : TypeId × Value → H} {W : World} {base : Nat} {v : Value} {d : DataW H} {p : List MemPlace}
    (hval : Value.okWide Try.prog W .any base 59 v) (h : DataW.Trod enc Try.prog W 0 (fun _ => true) true 59 v d p) : ∃ l, ActsR W.heap.size W v l := by
  obtain ⟨a0, len, cap, rfl⟩ := okWide_slice Try.underlying59 hval
  obtain ⟨fuel, hf⟩ := h
  obtain ⟨l, h1, h2⟩ := slice_trod Try.underlying59 (by kernel_rfl) (show 0 < 5 by omega) Act.cells (fun _ => rfl) (fun x => Ents W.heap.size W x.v x.l ∧ ActOk x)
    (fun n cs y hy => by
      obtain ⟨x, e, h2, h3⟩ := act_trod hy
      exact ⟨x, e, h2, h3⟩) hf
  exact ⟨l, h1, h2⟩
end Go.Proofs.Ytaepdbkfaoiimab
/- A formatted chip, and what acts make of a store: plain laws. Conditions: none but those that each names. -/
set_option linter.unusedVariables false
set_option linter.unusedSimpArgs false
namespace Go.Proofs.Ytaepdbkfaoiimab
open Go.RowKit

/-- A manifest is noted on blocks that are blank. -/
theorem note_blank {c : Chip} {n : Man} (hc : CWf c) (hd : c.down = false) (hfu : c.fuse < 0) (h0 : (c.b 0).l = []) (h1 : (c.b 1).l = []) (hf : n.fault = 0) :
    ∃ c1, noteR c 0 n = (c1, 0, 0) ∧ CWf c1 ∧ c1.down = false ∧ c1.fuse < 0 ∧ Head c1 n 0 ∧ SameBut 0 c c1 ∧ ∀ i, (c1.b i).wear = (c.b i).wear := by
  have hwk : (c.b 0).weak = false := by
    cases e : (c.b 0).weak
    · rfl
    · have := hc.weak 0 e; omega
  have hbad : (c.b 0).bad = false := by
    cases e : (c.b 0).bad
    · rfl
    · have := hc.bad 0 e; rw [hwk] at this; cases this
  obtain ⟨c2, n2, e2, s2, f2, g2⟩ := write_calm (c := c) (b := 0) (d := n.bytes) (by decide) hd hbad hwk (mansize hf) (by rw [h0]; simp)
  have w2 : CWf c2 := by have := hc.write_ ((0 : Nat) : Int) n.bytes; rw [e2] at this; exact this
  obtain ⟨hn, hfu'⟩ := f2 hfu
  subst hn
  rcases g2 with ⟨_, d2, p2, l2, x2⟩ | ⟨h, _⟩
  · refine ⟨c2, ?_, w2, d2, hfu', ?_, s2, fun i => ?_⟩
    · unfold noteR
      rw [if_neg (by simpa using hf), if_neg (by rw [show ((0 : Int).toNat) = 0 from rfl, h0]; simp)]
      rw [show ((0 : Nat) : Int) = 0 from rfl] at e2
      rw [e2]
      simp
    · refine ⟨?_, .inl rfl⟩
      unfold findM
      rw [l2, s2.other 1 (by decide), h1, h0]
      show [].foldl (fStep 1) ([⟨pad n.bytes, false⟩].foldl (fStep 0) (Man.zero, -1)) = _
      rw [List.foldl_nil, List.foldl_cons, List.foldl_nil, fStep_eq, man_sheet hf]
      have := (fault_zero.1 hf).1
      show (if (0 : Int) < n.ep then (n, (0 : Int)) else (Man.zero, -1)) = (n, 0)
      rw [if_pos (by omega)]
    · by_cases e : i = 0
      · subst e; exact x2
      · rw [s2.other i e]
  · cases h
theorem wrap64_small {n : Int} (h0 : 0 ≤ n) (h1 : n ≤ 1000000000000) : wrap64 n = n := by unfold wrap64; omega
theorem wrap64_one : 0 ≤ wrap64 (0 + 1) ∧ wrap64 (0 + 1) ≤ 1 := by unfold wrap64; omega
/-- A store that has done so many acts, so many of which weakened a block. -/
structure Good (k j : Nat) (c : Chip) (s : SM) : Prop where
  inv : Inv c s
  calm : c.fuse < 0
  nw : s.m.nw.length ≤ 2
  ep : s.m.ep ≤ 1 + 12 * (k : Int)
  weak : weaks c ≤ j
  wear : ∀ i, 2 ≤ i → 0 ≤ (c.b i).wear ∧ (c.b i).wear ≤ 1 + 12 * (k : Int)
/-- A chip is formatted. -/
theorem format_calm : ∃ c1 c2 c3 c4 b, Chip.new.erase 0 = (c1, 0) ∧ c1.erase 1 = (c2, 0) ∧ c2.down = false ∧ blankM [] c2 = (c3, b, 0) ∧ noteR c3 0 (manL 1 b) = (c4, 0, 0) ∧
    Inv c4 ⟨manL 1 b, 0, [], []⟩ ∧ c4.fuse < 0 ∧ weaks c4 = 0 ∧ (∀ i, 0 ≤ (c4.b i).wear ∧ (c4.b i).wear ≤ 1) := by
  obtain ⟨c1, n1, e1, s1, f1, g1⟩ := erase_calm (c := Chip.new) (b := 0) (by decide) rfl rfl rfl
  obtain ⟨hn, hf1⟩ := f1 (by decide)
  subst hn
  have w1 : CWf c1 := by have := CWf.new.erase_ ((0 : Nat) : Int); rw [e1] at this; exact this
  rcases g1 with ⟨_, d1, p1, l1, x1⟩ | ⟨h, _⟩
  case inr => cases h
  have o1 : c1.b 1 = ⟨[], 0, false, false⟩ := s1.other 1 (by decide)
  obtain ⟨c2, n2, e2, s2, f2, g2⟩ := erase_calm (c := c1) (b := 1) (by decide) d1 (by rw [o1]) (by rw [o1])
  obtain ⟨hn, hf2⟩ := f2 hf1
  subst hn
  have w2 : CWf c2 := by have := w1.erase_ ((1 : Nat) : Int); rw [e2] at this; exact this
  rcases g2 with ⟨_, d2, p2, l2, x2⟩ | ⟨h, _⟩
  case inr => cases h
  have hb2 : ∀ i, (c2.b i).l = [] ∧ (c2.b i).weak = false ∧ (c2.b i).bad = false ∧ (2 ≤ i → (c2.b i).wear = 0) ∧ 0 ≤ (c2.b i).wear ∧ (c2.b i).wear ≤ 1 := by
    intro i
    by_cases i1 : i = 1
    · subst i1
      refine ⟨l2, by rw [s2.weak, o1], by rw [s2.bad, o1], fun h => by omega, ?_⟩
      rw [x2, o1]; exact wrap64_one
    · rw [s2.other i i1]
      by_cases i0 : i = 0
      · subst i0
        refine ⟨l1, s1.weak, s1.bad, fun h => by omega, ?_⟩
        rw [x1]; exact wrap64_one
      · rw [s1.other i i0]; exact ⟨rfl, rfl, rfl, fun _ => rfl, Int.le_refl _, show (0 : Int) ≤ 1 by decide⟩
  have hwk0 : weaks c2 = 0 := by
    unfold weaks
    rw [List.countP_eq_zero]
    intro i _
    simp [(hb2 i).2.1]
  obtain ⟨c3, b, n3, e3, w3, x3, f3, g3⟩ := seek_calm lays_erase [] 25 c2 (by have := goods_le c2; omega) w2 d2 ⟨2, by omega, by omega, (hb2 2).2.1, by simp⟩
  obtain ⟨hn, hf3⟩ := f3 hf2
  subst hn
  rcases g3 with ⟨_, d3, p3, q, rfl, q2, q24, _, hq, _, hqw, hwear⟩ | ⟨h, _⟩
  case inr => cases h
  have hfl : (manL 1 (q : Int)).fault = 0 := manL_fault (by decide) (by decide) (by omega) (by omega)
  obtain ⟨c4, e4, w4, d4, f4, h4, s4, x4⟩ := note_blank (n := manL 1 (q : Int)) w3 d3 hf3 (by rw [x3.keep 0 (.inr (by omega))]; exact (hb2 0).1) (by rw [x3.keep 1 (.inr (by omega))]; exact (hb2 1).1) hfl
  have hwk : ∀ i, (c4.b i).weak = false := fun i => by
    by_cases e : i = 0
    · subst e; rw [s4.weak, x3.weak]; exact (hb2 0).2.1
    · rw [s4.other i e, x3.weak]; exact (hb2 i).2.1
  have hw0 : weaks c4 = 0 := by
    unfold weaks
    rw [List.countP_eq_zero]
    intro i _
    simp [hwk i]
  refine ⟨c1, c2, c3, c4, (q : Int), e1, e2, d2, e3, e4, ⟨w4, d4, h4, ⟨hfl, trivial, ⟨[], ?_, rfl, by simp, by simp⟩, by omega, by simp [manL], by simp [manL], ⟨by simp [Rises], by simp⟩, ?_, ?_⟩⟩, f4, hw0, fun i => ?_⟩
  · show logE (c4.b ((q : Int)).toNat).l = some []
    rw [Int.toNat_natCast, s4.other q (by omega), hq]
    rfl
  · show (rowsOf [] []).length ≤ 40
    decide +kernel
  · show (liveE (mergeAll [])).length ≤ 40
    decide +kernel
  · rw [x4 i, hwear i]
    have := (hb2 i).2.2.2
    by_cases e : i = q
    · subst e
      rw [if_pos rfl, this.1 q2]
      exact wrap64_one
    · rw [if_neg e]; exact this.2
theorem format_good : ∃ c1 c2 c3 c4 b, Chip.new.erase 0 = (c1, 0) ∧ c1.erase 1 = (c2, 0) ∧ c2.down = false ∧ blankM [] c2 = (c3, b, 0) ∧ noteR c3 0 (manL 1 b) = (c4, 0, 0) ∧ Good 0 0 c4 ⟨manL 1 b, 0, [], []⟩ := by
  obtain ⟨c1, c2, c3, c4, b, e1, e2, d2, e3, e4, hi, hf, hw, hwe⟩ := format_calm
  exact ⟨c1, c2, c3, c4, b, e1, e2, d2, e3, e4, hi, hf, by simp [manL], by simp [manL], by omega, fun i _ => by have := hwe i; omega⟩
/-- Weakening a block leaves what a store holds. -/
theorem weaken_l (c : Chip) (b : Int) (i : Nat) : ((c.weaken b).1.b i).l = (c.b i).l ∧ ((c.weaken b).1.b i).bad = (c.b i).bad ∧ ((c.weaken b).1.b i).wear = (c.b i).wear := by
  unfold Chip.weaken
  split
  · exact ⟨rfl, rfl, rfl⟩
  · by_cases e : i = b.toNat
    · subst e; simp
    · show ((c.set b.toNat _).b i).l = _ ∧ _
      rw [Chip.set_far c _ e]; exact ⟨rfl, rfl, rfl⟩
theorem countP_one {n j : Nat} {f g : Nat → Bool} (h : ∀ i, i ≠ j → g i = f i) : (List.range n).countP g ≤ (List.range n).countP f + 1 := by
  induction n with
  | zero => simp
  | succ n ih =>
    rw [List.range_succ, List.countP_append, List.countP_append]
    by_cases e : n = j
    · subst e
      have : (List.range n).countP g = (List.range n).countP f := by
        refine List.countP_congr fun i hi => ?_
        rw [h i (by have := List.mem_range.1 hi; omega)]
      rw [this]
      have : [n].countP g ≤ 1 := by rw [List.countP_singleton]; split <;> omega
      omega
    · have : [n].countP g = [n].countP f := by rw [List.countP_singleton, List.countP_singleton, h n e]
      omega
theorem weaks_weaken (c : Chip) (b : Int) : weaks (c.weaken b).1 ≤ weaks c + 1 := by
  unfold Chip.weaken
  split
  · show weaks c ≤ _; omega
  · refine countP_one (j := b.toNat) fun i hi => ?_
    show ((c.set b.toNat _).b i).weak = _
    rw [Chip.set_far c _ hi]
theorem Good.weaken {k j : Nat} {c : Chip} {s : SM} (h : Good k j c s) (hj : j ≤ 5) (b : Int) : Good (k + 1) (j + 1) (c.weaken b).1 s := by
  have hl := weaken_l c b
  have hw := weaks_weaken c b
  have hwk := h.weak
  have hi := h.inv
  have hfd : (c.weaken b).1.fuse = c.fuse ∧ (c.weaken b).1.down = c.down := by unfold Chip.weaken; split <;> exact ⟨rfl, rfl⟩
  obtain ⟨es, hlog⟩ := hi.body.log
  refine ⟨⟨hi.wf.weaken_ b, by rw [hfd.2]; exact hi.up, hi.head.same (hl 0).1 (hl 1).1, ⟨hi.body.fault, tabsAt_keep hi.body.tabs fun x _ => (hl _).1, ⟨es, ?_, hlog.mem, ?_, hlog.ok⟩, by omega, hi.body.nwl, hi.body.odl, hi.body.old, hi.body.rows, hi.body.trows⟩⟩, by rw [hfd.1]; exact h.calm, h.nw, by have := h.ep; omega, by omega, fun i h2 => ?_⟩
  · rw [(hl _).1]; exact hlog.read
  · rw [(hl _).1]; exact hlog.few
  · rw [(hl i).2.2]; have := h.wear i h2; omega
theorem Good.mono {k j k' j' : Nat} {c : Chip} {s : SM} (h : Good k j c s) (hk : k ≤ k') (hj : j ≤ j') : Good k' j' c s :=
  ⟨h.inv, h.calm, h.nw, by have := h.ep; omega, by have := h.weak; omega, fun i hi => by have := h.wear i hi; omega⟩
theorem weaks_grew {c c' : Chip} {K : Int} (h : Grew c c' K) : weaks c' = weaks c := by
  unfold weaks
  congr 1
  funext i
  rw [h.weak]
theorem Good.step {k j : Nat} {c c' : Chip} {s s' : SM} {K : Int} (h : Good k j c s) (hk : k ≤ 1000) (hi : Inv c' s') (hf : c'.fuse < 0) (hn : s'.m.nw.length ≤ 2) (he : s'.m.ep ≤ s.m.ep + 12) (hg : Grew c c' K) (hK : K ≤ 12) : Good (k + 1) j c' s' := by
  refine ⟨hi, hf, hn, by have := h.ep; omega, by rw [weaks_grew hg]; exact h.weak, fun i h2 => ?_⟩
  have := (hg.mono hK).wear (1 + 12 * (k : Int)) (by omega) (by omega) h.wear i h2
  omega
/-- What is wrong with a batch of changes to rows. -/
def checkR (r : List Ent) (l : List Ent) : Nat :=
  if l.length = 0 ∨ 4 < l.length then 2
  else if bytesF l ≠ 0 then bytesF l
  else if 40 < (liveE (l.foldl putE r)).length then 8 else 0
theorem checkM_eq (s : SM) (l : List Ent) : checkM s l = checkR s.rows l := rfl
def rowsW (r : List Ent) (l : List Ent) : List Ent := if checkR r l = 0 then liveE (l.foldl putE r) else r
def kWrite : List UInt8 := [119, 114, 105, 116, 101]
def kFlush : List UInt8 := [102, 108, 117, 115, 104]
def kCompact : List UInt8 := [99, 111, 109, 112, 97, 99, 116]
def kWeaken : List UInt8 := [119, 101, 97, 107, 101, 110]
/-- An act to a store. -/
def doM (c : Chip) (s : SM) (a : Act) : Chip × SM × Nat :=
  if a.kind.toList = kWrite then writeM c s a.l
  else if a.kind.toList = kFlush then flushM c s
  else if a.kind.toList = kCompact then compM c s
  else if a.kind.toList = kWeaken then ((c.weaken a.a).1, s, 0) else (c, s, 0)
def rowsA (r : List Ent) (a : Act) : List Ent := if a.kind.toList = kWrite then rowsW r a.l else r
def weakA (a : Act) : Nat := if a.kind.toList = kWeaken then 1 else 0
theorem write_good {k j : Nat} {c : Chip} {s : SM} (h : Good k j c s) (hk : k ≤ 1000) (l : List Ent) :
    ∃ c' s', writeM c s l = (c', s', checkR s.rows l) ∧ Good (k + 1) j c' s' ∧ s'.rows = rowsW s.rows l := by
  by_cases hc : checkM s l = 0
  · obtain ⟨c', s', n, e, f, g⟩ := write_store h.inv (by have := h.ep; omega) hc
    obtain ⟨hn, hf⟩ := f h.calm
    subst hn
    rcases g with ⟨_, hi, hr, he1, he2, hg, hn⟩ | ⟨h9, _⟩
    · refine ⟨c', s', by rw [e, ← checkM_eq, hc], h.step hk hi hf (hn h.nw) (by omega) hg (by omega), ?_⟩
      rw [hr, rowsW, if_pos (by rw [← checkM_eq]; exact hc)]
    · omega
  · exact ⟨c, s, by rw [writeM, if_pos hc, checkM_eq], h.mono (by omega) (Nat.le_refl _), by rw [rowsW, if_neg (by rw [← checkM_eq]; exact hc)]⟩
theorem flush_good {k j : Nat} {c : Chip} {s : SM} (h : Good k j c s) (hk : k ≤ 1000) :
    ∃ c' s', flushM c s = (c', s', 0) ∧ Good (k + 1) j c' s' ∧ s'.rows = s.rows ∧ s'.mem = [] ∧ (∃ q : Nat, s'.m.log = q ∧ (c'.b q).l = [] ∧ (c'.b q).weak = false ∧ (c.b q).bad = false) ∧ (∀ b ∈ s'.m.nw, b ∈ s.m.nw ∨ (c.b b.toNat).bad = false) := by
  obtain ⟨c', s', n, e, f, g⟩ := flush_calm h.inv (by have := h.ep; omega)
  obtain ⟨hn, hf⟩ := f h.calm
  subst hn
  rcases g with ⟨_, hi, hr, he1, he2, hg, hm, hn, hq, hb⟩ | ⟨h9, _⟩
  · exact ⟨c', s', e, h.step hk hi hf hn (by omega) hg (by omega), hr, hm, hq, hb⟩
  · omega
theorem comp_good {k j : Nat} {c : Chip} {s : SM} (h : Good k j c s) (hk : k ≤ 1000) :
    ∃ c' s', compM c s = (c', s', 0) ∧ Good (k + 1) j c' s' ∧ s'.rows = s.rows ∧ s'.mem = s.mem ∧ s'.m.nw = [] ∧ s'.m.log = s.m.log ∧ s'.tabs = parts 14 (liveE (mergeAll s.tabs)) := by
  obtain ⟨c', s', n, e, f, g⟩ := comp_calm h.inv (by have := h.ep; omega)
  obtain ⟨hn, hf⟩ := f h.calm
  subst hn
  rcases g with ⟨_, hi, hr, he, hg, hm, hn, hlg, _, ht⟩ | ⟨h9, _⟩
  · exact ⟨c', s', e, h.step hk hi hf (by rw [hn]; simp) (by omega) hg (by omega), hr, hm, hn, hlg, ht⟩
  · omega
theorem do_good {k j : Nat} {c : Chip} {s : SM} (h : Good k j c s) (hk : k ≤ 1000) (a : Act) (hj : j + weakA a ≤ 6) :
    ∃ c' s' n, doM c s a = (c', s', n) ∧ Good (k + 1) (j + weakA a) c' s' ∧ s'.rows = rowsA s.rows a ∧ n = (if a.kind.toList = kWrite then checkR s.rows a.l else 0) := by
  unfold doM rowsA
  by_cases h1 : a.kind.toList = kWrite
  · have hw : weakA a = 0 := by unfold weakA; rw [h1]; rfl
    rw [if_pos h1, if_pos h1, if_pos h1, hw]
    obtain ⟨c', s', e, g, r⟩ := write_good h hk a.l
    exact ⟨c', s', _, e, g, r, rfl⟩
  rw [if_neg h1, if_neg h1, if_neg h1]
  by_cases h2 : a.kind.toList = kFlush
  · have hw : weakA a = 0 := by unfold weakA; rw [h2]; rfl
    rw [if_pos h2, hw]
    obtain ⟨c', s', e, g, r, _⟩ := flush_good h hk
    exact ⟨c', s', _, e, g, r, rfl⟩
  rw [if_neg h2]
  by_cases h3 : a.kind.toList = kCompact
  · have hw : weakA a = 0 := by unfold weakA; rw [h3]; rfl
    rw [if_pos h3, hw]
    obtain ⟨c', s', e, g, r, _⟩ := comp_good h hk
    exact ⟨c', s', _, e, g, r, rfl⟩
  rw [if_neg h3]
  by_cases h4 : a.kind.toList = kWeaken
  · have hw : weakA a = 1 := by unfold weakA; rw [if_pos h4]
    rw [if_pos h4, hw]
    exact ⟨_, _, _, rfl, h.weaken (by omega) a.a, rfl, rfl⟩
  · have hw : weakA a = 0 := by unfold weakA; rw [if_neg h4]
    rw [if_neg h4, hw]
    exact ⟨_, _, _, rfl, h.mono (by omega) (Nat.le_refl _), rfl, rfl⟩
def weakN (l : List Act) : Nat := (l.map weakA).sum
def lightA (most : Int) (l : List Act) : Bool := decide ((l.length : Int) ≤ most) && l.all (fun a => decide (a.s.size ≤ 100) && lightE 6 a.l)
end Go.Proofs.Ytaepdbkfaoiimab
/- The contracts of store.Format on a new chip, and of the law's Stored. Conditions: none. -/
set_option linter.unusedVariables false
set_option linter.unusedSimpArgs false
namespace Go.Proofs.Ytaepdbkfaoiimab
open Go.RowKit
attribute [local go_sem ↓] eql_err eql_nilerr neq_err neq_nilerr guard_err guard_nilerr guardn_err guardn_nilerr
set_option maxRecDepth 20000 in
set_option maxHeartbeats 4000000 in
/-- A new chip is formatted. -/
theorem format_any (B p : Nat) (w : World) (h : ChipR B w p Chip.new) :
    Calls Try.prog 84 #[.pointer (some ⟨p, 0, none⟩)] w fun e w' => ∃ c b, e = .returned .nilIface ∧ ChipR B w' p c ∧ Good 0 0 c ⟨manL 1 b, 0, [], []⟩ ∧ Fr B (· = p) w w' := by
  obtain ⟨c1, c2, c3, c4, b, e1, e2, d2, e3, e4, hgood⟩ := format_good
  have HG := Lib.hid hgood
  have H1 : Hid (Calls Try.prog 39 #[.pointer (some ⟨p, 0, none⟩), .int .i64 0] w fun e w' => e = .returned .nilIface ∧ ChipR B w' p c1 ∧ Fr B (· = p) w w') := by
    have := cerase_any B p Chip.new 0 w h
    rw [e1] at this
    exact this
  have H2 : Hid (∀ W, ChipR B W p c1 → Calls Try.prog 39 #[.pointer (some ⟨p, 0, none⟩), .int .i64 1] W fun e w' => e = .returned .nilIface ∧ ChipR B w' p c2 ∧ Fr B (· = p) W w') := fun W hW => by
    have := cerase_any B p c1 1 W hW
    rw [e2] at this
    exact this
  have H3 : Hid (∀ W, ChipR B W p c2 → Calls Try.prog 104 #[.pointer (some ⟨p, 0, none⟩), .slice none 0 0] W fun e w' => e = .returned (.tuple #[.int .i64 b, .nilIface]) ∧ ChipR B w' p c3 ∧ Fr B (· = p) W w') := fun W hW => by
    have := blank_any B p c2 (.slice none 0 0) [] W hW (Rd.nil _ _ _ _) d2
    rw [e3] at this
    exact this
  have H4 : Hid (∀ W, ChipR B W p c3 → Calls Try.prog 44 #[.pointer (some ⟨p, 0, none⟩), .int .i64 0, .agg #[.int .i64 1, .int .i64 b, .slice none 0 0, .slice none 0 0]] W fun e w' => e = .returned (.tuple #[.int .i64 0, .nilIface]) ∧ ChipR B w' p c4 ∧ Fr B (· = p) W w') := fun W hW => by
    have := note_any B p c3 0 _ (manL 1 b) W hW (.inl rfl) ⟨_, _, rfl, Rd.nil _ _ _ _, Rd.nil _ _ _ _⟩ (by simp [manL]) (by simp [manL])
    rw [e4] at this
    exact this
  clear e1 e2 d2 e3 e4 hgood h
  go_enter Try.func84, Try.ntmps84
  go_wp2_with fail
  refine wp_loop_rounds 3 ?_
  rw [rounds_succ]
  go_wp2_with (go_at_call 39; refine H1.out.mono ?_; rintro e w1 ⟨rfl, hc1, hf1⟩)
  have HF1 := Lib.hid hf1
  have H2' := Lib.hid (H2.out w1 hc1)
  clear hf1 hc1 H1 H2
  rw [rounds_succ]
  go_wp2_with (go_at_call 39; refine H2'.out.mono ?_; rintro e w2 ⟨rfl, hc2, hf2⟩)
  have HF2 := Lib.hid (HF1.out.trans hf2 (fun _ _ => trivial))
  have H3' := Lib.hid (H3.out w2 hc2)
  clear hf2 hc2 H2' H3
  rw [rounds_succ]
  go_wp2_with (go_at_call 104; refine H3'.out.mono ?_; rintro e w3 ⟨rfl, hc3, hf3⟩)
  have HF3 := Lib.hid (HF2.out.trans hf3 (fun _ _ => trivial))
  have H4' := Lib.hid (H4.out w3 hc3)
  clear hf3 hc3 H3' H4
  go_wp2_with (go_at_call 44; refine H4'.out.mono ?_; rintro e w4 ⟨rfl, hc4, hf4⟩)
  have HF4 := Lib.hid (HF3.out.trans hf4 (fun _ _ => trivial))
  have HC4 := Lib.hid hc4
  clear hf4 hc4 H4'
  go_ret
  exact ⟨c4, b, rfl, HC4.out, HG.out, HF4.out⟩
theorem rows_none : rowsOf [] [] = [] := List.eq_nil_of_length_eq_zero (by decide +kernel)
/-- A store that has done so many acts lies in these blocks. -/
structure StS (B : Nat) (W : World) (q p k j : Nat) (c : Chip) (s : SM) (F : List Nat) : Prop where
  st : StoreR B W q p s F
  ch : ChipR B W p c
  ok : Good k j c s
set_option maxRecDepth 20000 in
set_option maxHeartbeats 4000000 in
theorem stored_any (w : World) :
    Calls Try.prog 53 #[] w fun e w' => ∃ p q c s F, e = .returned (.tuple #[.pointer (some ⟨p, 0, none⟩), .pointer (some ⟨q, 0, none⟩), .bool true]) ∧ StS w.heap.size w' q p 0 0 c s F ∧ s.rows = [] ∧ w.heap.size ≤ p ∧ (∀ b ∈ F, w.heap.size ≤ b) ∧ Below w.heap.size w w' := by
  have HNEW := Lib.hid (cnew_any w.heap.size w (Nat.le_refl _))
  go_enter Try.func53, Try.ntmps53
  go_wp2_with (go_at_call 32; refine HNEW.out.mono ?_; rintro e w1 ⟨p, rfl, hp, hr1, hb1⟩)
  have HB1 := Lib.hid hb1
  have HFO := Lib.hid (format_any w.heap.size p w1 hr1)
  clear hr1 hb1 HNEW
  go_wp2_with (go_at_call 84; refine HFO.out.mono ?_; rintro e w2 ⟨c, b, rfl, hc2, hg, hf2⟩)
  have HB2 : Hid (Below w.heap.size w w2) := HB1.out.trans (hf2.below HB1.out.size)
  have HC2 := Lib.hid hc2
  have HG := Lib.hid hg
  have HOP := Lib.hid (open_any w.heap.size p c _ w2 hc2 hg.inv)
  clear hc2 hf2 HFO HB1 hg
  go_wp2_with (go_at_call 82; refine HOP.out.mono ?_; rintro e w3 ⟨q, F, rfl, hs3, hb3, hq3, hF3⟩)
  have HFI : Hid (StS w.heap.size w3 q p 0 0 c ⟨manL 1 b, 0, [], []⟩ F ∧ (∀ b ∈ F, w.heap.size ≤ b) ∧ Below w.heap.size w w3) := ⟨⟨hs3, HC2.out.below hb3, HG.out⟩, fun b hb => Nat.le_trans HB2.out.size (hF3 b hb), HB2.out.trans (hb3.mono HB2.out.size)⟩
  clear hs3 hb3 hF3 HOP
  exact bodyPost_ret (v := .tuple #[.pointer (some ⟨p, 0, none⟩), .pointer (some ⟨q, 0, none⟩), .bool true]) (by simp [results, Try.results53, go_sem] <;> rfl) rfl ⟨p, q, c, _, F, rfl, HFI.out.1, rows_none, hp, HFI.out.2⟩
end Go.Proofs.Ytaepdbkfaoiimab
/- The contracts of do, filled, rows, works, LightActs, Weak. Conditions: none but those that each names. -/
set_option linter.unusedVariables false
set_option linter.unusedSimpArgs false
namespace Go.Proofs.Ytaepdbkfaoiimab
open Go.RowKit
attribute [local go_sem ↓] eql_err eql_nilerr neq_err neq_nilerr guard_err guard_nilerr guardn_err guardn_nilerr
theorem ActsR.form {B : Nat} {w : World} {v : Value} {l : List Act} (h : ActsR B w v l) : ∃ A c, v = .slice A l.length c ∧ l.length ≤ c ∧ c ≤ 9223372036854775807 ∧
    ∀ i x, l[i]? = some x → ∃ b o, A = some ⟨b, o, none⟩ ∧ b < w.heap.size ∧ w.cell? ⟨b, o + i * 5, none⟩ = some (.string x.kind) ∧ w.cell? ⟨b, o + i * 5 + 1, none⟩ = some (.string x.s) ∧ w.cell? ⟨b, o + i * 5 + 2, none⟩ = some (.int .i64 x.a) ∧ w.cell? ⟨b, o + i * 5 + 3, none⟩ = some (.int .i64 x.b) ∧ w.cell? ⟨b, o + i * 5 + 4, none⟩ = some x.v := by
  obtain ⟨⟨_, A, c, h1, h2, h3, h4⟩, _⟩ := h
  refine ⟨A, c, h1, h2, h3, fun i x hi => ?_⟩
  have hlt : i < l.length := by
    rcases Nat.lt_or_ge i l.length with h | h
    · exact h
    · rw [List.getElem?_eq_none h] at hi; cases hi
  obtain ⟨b, o, hA, _, hb, hc⟩ := h4 (by omega)
  have f := fun j hj => flat_at Act.cells 5 (fun _ => rfl) l i j x hi hj
  exact ⟨b, o, hA, hb, hc _ _ (f 0 (by omega)), hc _ _ (f 1 (by omega)), hc _ _ (f 2 (by omega)), hc _ _ (f 3 (by omega)), hc _ _ (f 4 (by omega))⟩
theorem StS.post {B q p k j k' j' : Nat} {w w' : World} {c c' : Chip} {s s' : SM} {F : List Nat} {n : Nat} {e : Ending} (h : SPost B q p F w (c', s', n) e w') (hg : Good k' j' c' s') :
    ∃ F', StS B w' q p k' j' c' s' F' ∧ (∀ b ∈ F', b ∈ F ∨ w.heap.size ≤ b) ∧ Fr B (· ∈ q :: p :: F) w w' := by
  obtain ⟨_, hc, ⟨F', hs, hF⟩, hf⟩ := h
  exact ⟨F', ⟨hs, hc, hg⟩, hF, hf⟩
/-- The same of a world where the store's blocks are as they were. -/
theorem StS.below {B q p k j : Nat} {w w' : World} {c : Chip} {s : SM} {F : List Nat} (h : StS B w q p k j c s F) (hb : Below w.heap.size w w') : StS B w' q p k j c s F := ⟨h.st.below hb, h.ch.below hb, h.ok⟩
/-- What an act tells. -/
def doN (r : List Ent) (a : Act) : Nat := if a.kind.toList = kWrite then checkR r a.l else 0
/-- What an act leaves. -/
def DoP (B q p k j : Nat) (F : List Nat) (w : World) (r : List Ent) (n : Nat) (e : Ending) (w' : World) : Prop :=
  ∃ c' s' F', e = .returned (errV n) ∧ StS B w' q p k j c' s' F' ∧ s'.rows = r ∧ (∀ b ∈ F', b ∈ F ∨ w.heap.size ≤ b) ∧ Fr B (· ∈ q :: p :: F) w w'
theorem kind_eq {a : ByteArray} {k : List UInt8} (h : a.toList = k) : (a.toList == k) = true := by rw [beq_iff_eq]; exact h
theorem kind_ne {a : ByteArray} {k : List UInt8} (h : ¬ a.toList = k) : (a.toList == k) = false := by rw [beq_eq_false_iff_ne]; exact h
set_option maxRecDepth 20000 in
set_option maxHeartbeats 4000000 in
theorem do_any (B q p k j : Nat) (c : Chip) (s : SM) (F : List Nat) (kd sx : ByteArray) (xa xb : Int) (v : Value) (l : List Ent) (w : World) (h : StS B w q p k j c s F) (hl : Ents B w v l) (hk : k ≤ 1000) (hj : j + weakA ⟨kd, sx, xa, xb, v, l⟩ ≤ 6) :
    Calls Try.prog 54 #[.pointer (some ⟨p, 0, none⟩), .pointer (some ⟨q, 0, none⟩), .agg #[.string kd, .string sx, .int .i64 xa, .int .i64 xb, v]] w (DoP B q p (k + 1) (j + weakA ⟨kd, sx, xa, xb, v, l⟩) F w (rowsA s.rows ⟨kd, sx, xa, xb, v, l⟩) (doN s.rows ⟨kd, sx, xa, xb, v, l⟩)) := by
  obtain ⟨A, cp, rfl, _, _, _⟩ := hl.form
  have hb0 : Below w.heap.size w (w.alloc (.cells #[.string kd, .string sx, .int .i64 xa, .int .i64 xb, .slice A l.length cp] 61)) := (Below.refl _ _).alloc (Nat.le_refl _) _
  have h1 := h.below hb0
  have HF0 : Hid (Fr B (· ∈ q :: p :: F) w (w.alloc (.cells #[.string kd, .string sx, .int .i64 xa, .int .i64 xb, .slice A l.length cp] 61))) := Fr.of_below hb0
  have HSZ : Hid (w.heap.size ≤ (w.alloc (.cells #[.string kd, .string sx, .int .i64 xa, .int .i64 xb, .slice A l.length cp] 61)).heap.size) := hb0.size
  obtain ⟨c', s', n, e, g, r, hn⟩ := do_good h.ok hk ⟨kd, sx, xa, xb, .slice A l.length cp, l⟩ hj
  have FIN : Hid (∀ w' e', SPost B q p F (w.alloc (.cells #[.string kd, .string sx, .int .i64 xa, .int .i64 xb, .slice A l.length cp] 61)) (c', s', n) e' w' → DoP B q p (k + 1) (j + weakA ⟨kd, sx, xa, xb, .slice A l.length cp, l⟩) F w (rowsA s.rows ⟨kd, sx, xa, xb, .slice A l.length cp, l⟩) (doN s.rows ⟨kd, sx, xa, xb, .slice A l.length cp, l⟩) e' w') := by
    intro w' e' hp
    obtain ⟨F', hs, hF, hf⟩ := StS.post (k := k) (j := j) (c := c) (s := s) hp g
    exact ⟨c', s', F', by rw [hp.1, hn]; rfl, hs, r, fun b hb => (hF b hb).imp id (fun h => Nat.le_trans HSZ.out h), HF0.out.trans' hf (fun _ _ h => h)⟩
  unfold doM at e
  simp only at e
  by_cases e1 : kd.toList = kWrite
  · rw [if_pos e1] at e
    have HW := write_any B q p c s F _ l (w.alloc (.cells #[.string kd, .string sx, .int .i64 xa, .int .i64 xb, .slice A l.length cp] 61)) h1.st h1.ch h1.ok.inv (hl.below hb0) (by have := h.ok.ep; omega)
    rw [e] at HW
    have HW := Lib.hid HW
    have t1 := kind_eq e1
    unfold kWrite at t1
    clear h h1 hl hb0 e g r hn e1
    go_enter Try.func54, Try.ntmps54
    go_wp2_with fail
    refine HW.out.mono ?_
    rintro e w1 ⟨rfl, hr⟩
    have HR := Lib.hid (FIN.out w1 _ ⟨rfl, hr⟩)
    clear hr HW FIN
    go_wp2_with fail
    go_ret
    exact HR.out
  rw [if_neg e1] at e
  have t1 := kind_ne e1
  by_cases e2 : kd.toList = kFlush
  · rw [if_pos e2] at e
    have HW := flush_any B q p c s F (w.alloc (.cells #[.string kd, .string sx, .int .i64 xa, .int .i64 xb, .slice A l.length cp] 61)) h1.st h1.ch h1.ok.inv (by have := h.ok.ep; omega)
    rw [e] at HW
    have HW := Lib.hid HW
    have t2 := kind_eq e2
    unfold kWrite at t1
    unfold kFlush at t2
    clear h h1 hl hb0 e g r hn e1 e2
    go_enter Try.func54, Try.ntmps54
    go_wp2_with fail
    refine HW.out.mono ?_
    rintro e w1 ⟨rfl, hr⟩
    have HR := Lib.hid (FIN.out w1 _ ⟨rfl, hr⟩)
    clear hr HW FIN
    go_wp2_with fail
    go_ret
    exact HR.out
  rw [if_neg e2] at e
  have t2 := kind_ne e2
  by_cases e3 : kd.toList = kCompact
  · rw [if_pos e3] at e
    have HW := compact_any B q p c s F (w.alloc (.cells #[.string kd, .string sx, .int .i64 xa, .int .i64 xb, .slice A l.length cp] 61)) h1.st h1.ch h1.ok.inv
    rw [e] at HW
    have HW := Lib.hid HW
    have t3 := kind_eq e3
    unfold kWrite at t1
    unfold kFlush at t2
    unfold kCompact at t3
    clear h h1 hl hb0 e g r hn e1 e2 e3
    go_enter Try.func54, Try.ntmps54
    go_wp2_with fail
    refine HW.out.mono ?_
    rintro e w1 ⟨rfl, hr⟩
    have HR := Lib.hid (FIN.out w1 _ ⟨rfl, hr⟩)
    clear hr HW FIN
    go_wp2_with fail
    go_ret
    exact HR.out
  rw [if_neg e3] at e
  have t3 := kind_ne e3
  by_cases e4 : kd.toList = kWeaken
  · rw [if_pos e4] at e
    have t4 := kind_eq e4
    unfold kWrite at t1
    unfold kFlush at t2
    unfold kCompact at t3
    unfold kWeaken at t4
    have HWK := Lib.hid (weaken_any B p c xa (w.alloc (.cells #[.string kd, .string sx, .int .i64 xa, .int .i64 xb, .slice A l.length cp] 61)) h1.ch)
    have HS1 := Lib.hid h1
    injection e with e5 e6
    injection e6 with e6 e7
    subst e5; subst e6; subst e7
    clear h h1 hl hb0 g r hn e1 e2 e3 e4
    go_enter Try.func54, Try.ntmps54
    go_wp2_with fail
    refine HWK.out.mono ?_
    rintro e w1 ⟨rfl, hc1, hf1⟩
    have HR := Lib.hid (FIN.out w1 (.returned .nilIface) ⟨rfl, hc1, ⟨F, HS1.out.st.chip HS1.out.ch hf1, fun b hb => .inl hb⟩, hf1.mono (fun b _ e => by subst e; simp)⟩)
    clear hc1 hf1 HWK FIN
    go_wp2_with fail
    go_ret
    exact HR.out
  · rw [if_neg e4] at e
    have t4 := kind_ne e4
    unfold kWrite at t1
    unfold kFlush at t2
    unfold kCompact at t3
    unfold kWeaken at t4
    have HS1 := Lib.hid h1
    injection e with e5 e6
    injection e6 with e6 e7
    subst e5; subst e6; subst e7
    have HR := Lib.hid (FIN.out (w.alloc (.cells #[.string kd, .string sx, .int .i64 xa, .int .i64 xb, .slice A l.length cp] 61)) (.returned .nilIface) ⟨rfl, HS1.out.ch, ⟨F, HS1.out.st, fun b hb => .inl hb⟩, Fr.refl _ _ _⟩)
    clear h h1 hl hb0 g r hn e1 e2 e3 e4 FIN HS1
    go_enter Try.func54, Try.ntmps54
    go_wp2_with fail
    go_ret
    exact HR.out
theorem all_snoc {α : Type} {f : α → Bool} {l : List α} {k : Nat} {x : α} (h : l.take (k + 1) = l.take k ++ [x]) (h1 : (l.take k).all f = true) (h2 : f x = true) : (l.take (k + 1)).all f = true := by rw [h, List.all_append, h1]; simp [h2]
theorem all_no {α : Type} {f : α → Bool} {l : List α} {k : Nat} {x : α} (h : l[k]? = some x) (h2 : f x = false) : l.all f = false := by
  rw [List.all_eq_false]
  exact ⟨x, List.mem_of_getElem? h, by rw [h2]; simp⟩
set_option maxRecDepth 20000 in
set_option maxHeartbeats 4000000 in
theorem lightActs_any (B : Nat) (v : Value) (l : List Act) (most : Int) (w : World) (h : ActsR B w v l) :
    Calls Try.prog 35 #[v, .int .i64 most] w fun e w' => e = .returned (.bool (lightA most l)) ∧ w = w' := by
  obtain ⟨A, cp, rfl, hc1, hc2, hcell⟩ := h.form
  have HC := Lib.hid hcell
  have HEN := Lib.hid (fun x hx => (h.2 x hx).1)
  clear hcell h
  by_cases hm : (l.length : Int) ≤ most
  case neg =>
    have t9 : decide (most < (l.length : Int)) = true := decide_eq_true (by omega)
    have HF : Hid (lightA most l = false) := by rw [Hid, lightA, decide_eq_false hm]; rfl
    clear hm
    go_enter Try.func35, Try.ntmps35
    go_wp2_with fail
    go_ret
    exact ⟨by rw [HF.out]; rfl, rfl⟩
  have t9 : decide (most < (l.length : Int)) = false := decide_eq_false (by omega)
  have HF : Hid (lightA most l = l.all (fun a => decide (a.s.size ≤ 100) && lightE 6 a.l)) := by rw [Hid, lightA, decide_eq_true hm]; rfl
  clear hm
  go_enter Try.func35, Try.ntmps35
  go_wp2_with fail
  go_loop [5] (fun i => ∃ k : Nat, k ≤ l.length ∧ i = .int .i64 k ∧ Hid ((l.take k).all (fun a => decide (a.s.size ≤ 100) && lightE 6 a.l) = true)) (fun i => l.length - (intOf i).toNat)
  case atStart => exact ⟨0, Nat.zero_le _, rfl, rfl⟩
  case round =>
    obtain ⟨k, hk, rfl, hall⟩ := hrel
    by_cases hlt : k < l.length
    · obtain ⟨x, hx, htk, _⟩ := getElem?_of_lt hlt
      obtain ⟨b, o, rfl, hb, y0, y1, y2, y3, y4⟩ := HC.out k x hx
      have hen := HEN.out x (List.mem_of_getElem? hx)
      have HNO := Lib.hid (all_no (f := fun a : Act => decide (a.s.size ≤ 100) && lightE 6 a.l) hx)
      have HYE := Lib.hid (all_snoc (f := fun a : Act => decide (a.s.size ≤ 100) && lightE 6 a.l) htk hall.out)
      obtain ⟨kd, sx, xa, xb, vx, lx⟩ := x
      simp only at y0 y1 y2 y3 y4 hen
      obtain ⟨A', cp', rfl, _, _, _⟩ := hen.form
      have HLE := Lib.hid (lightE_any B _ lx 6 w hen)
      have g1 : (0 : Int) ≤ (k : Int) := by omega
      have g2 : (k : Int) < (l.length : Int) := by omega
      clear hx htk hen
      by_cases hs : sx.size ≤ 100
      case neg =>
        have t22 : decide ((100 : Int) < (sx.size : Int)) = true := decide_eq_true (by omega)
        have HFF : Hid (lightA most l = false) := by rw [Hid, HF.out]; exact HNO.out (by simp [hs])
        clear hs
        go_wp2_with fail
        go_ret
        exact ⟨by rw [HFF.out]; rfl, rfl⟩
      have t22 : decide ((100 : Int) < (sx.size : Int)) = false := decide_eq_false (by omega)
      cases hle : lightE 6 lx
      · have HFF : Hid (lightA most l = false) := by rw [Hid, HF.out]; exact HNO.out (by simp [hle])
        rw [hle] at HLE
        clear hs hle
        go_wp2_with (go_at_call 22; refine HLE.out.mono ?_; rintro e w1 ⟨rfl, rfl⟩)
        go_ret
        exact ⟨by rw [HFF.out]; rfl, rfl⟩
      · have HNX : Hid ((l.take (k + 1)).all (fun a => decide (a.s.size ≤ 100) && lightE 6 a.l) = true) := HYE.out (by simp [hle, hs])
        rw [hle] at HLE
        clear hs hle
        go_wp2_with (go_at_call 22; refine HLE.out.mono ?_; rintro e w1 ⟨rfl, rfl⟩)
        go_round
        case rel => exact ⟨k + 1, by omega, by go_num, HNX.out⟩
        case measure => simp [intOf] <;> omega
    · have HFF : Hid (lightA most l = true) := by
        have := hall.out
        rw [List.take_of_length_le (by omega)] at this
        rw [Hid, HF.out, this]
      have t13 : decide ((k : Int) < (l.length : Int)) = false := decide_eq_false (by omega)
      go_wp2_with fail
      go_ret
      exact ⟨by rw [HFF.out]; rfl, rfl⟩
theorem weakN_snoc {l : List Act} {k : Nat} {x : Act} (h : l.take (k + 1) = l.take k ++ [x]) : weakN (l.take (k + 1)) = weakN (l.take k) + weakA x := by
  unfold weakN; rw [h]; simp
theorem weakN_le (l : List Act) : weakN l ≤ l.length := by
  unfold weakN
  induction l with
  | nil => simp
  | cons x l ih =>
    have : weakA x ≤ 1 := by unfold weakA; split <;> omega
    simp; omega
set_option maxRecDepth 20000 in
set_option maxHeartbeats 4000000 in
theorem weak_any (B : Nat) (v : Value) (l : List Act) (w : World) (h : ActsR B w v l) :
    Calls Try.prog 52 #[v] w fun e w' => e = .returned (.int .i64 (weakN l)) ∧ w = w' := by
  obtain ⟨A, cp, rfl, hc1, hc2, hcell⟩ := h.form
  have HC := Lib.hid hcell
  clear hcell h
  go_enter Try.func52, Try.ntmps52
  go_wp2_with fail
  go_loop [3, 4] (fun n i => ∃ k : Nat, k ≤ l.length ∧ i = .int .i64 k ∧ n = .int .i64 (weakN (l.take k))) (fun _ i => l.length - (intOf i).toNat)
  case atStart => exact ⟨0, Nat.zero_le _, rfl, rfl⟩
  case round =>
    obtain ⟨k, hk, rfl, rfl⟩ := hrel
    have hwl := weakN_le (l.take k)
    have hwl2 : (l.take k).length ≤ k := by rw [List.length_take]; omega
    by_cases hlt : k < l.length
    · obtain ⟨x, hx, htk, _⟩ := getElem?_of_lt hlt
      obtain ⟨b, o, rfl, hb, y0, y1, y2, y3, y4⟩ := HC.out k x hx
      have HW := Lib.hid (weakN_snoc htk)
      have g1 : (0 : Int) ≤ (k : Int) := by omega
      have g2 : (k : Int) < (l.length : Int) := by omega
      clear hx htk y1 y2 y3 y4
      generalize hN : weakN (l.take k) = N at *
      by_cases hkw : x.kind.toList = kWeaken
      · have t16 := kind_eq hkw
        have HA : Hid (weakA x = 1) := if_pos hkw
        unfold kWeaken at t16
        clear hkw
        go_wp2_with fail
        go_round
        case rel => exact ⟨k + 1, by omega, by go_num, by rw [HW.out, HA.out]; go_num⟩
        case measure => simp [intOf] <;> omega
      · have t16 := kind_ne hkw
        have HA : Hid (weakA x = 0) := if_neg hkw
        unfold kWeaken at t16
        clear hkw
        go_wp2_with fail
        go_round
        case rel => exact ⟨k + 1, by omega, by go_num, by rw [HW.out, HA.out]; rfl⟩
        case measure => simp [intOf] <;> omega
    · have e : l.take k = l := List.take_of_length_le (by omega)
      rw [e]
      have t13 : decide ((k : Int) < (l.length : Int)) = false := decide_eq_false (by omega)
      go_wp2_with fail
      go_ret
      exact ⟨rfl, rfl⟩
set_option maxRecDepth 20000 in
theorem rows_any (B q p k j : Nat) (c : Chip) (s : SM) (F : List Nat) (w : World) (h : StS B w q p k j c s F) :
    Calls Try.prog 56 #[.pointer (some ⟨q, 0, none⟩)] w fun e w' => ∃ v, e = .returned v ∧ Ents B w' v s.rows ∧ Below w.heap.size w w' := by
  have HR := Lib.hid (srows_any B q p c s F w h.st h.ch h.ok.inv)
  clear h
  go_enter Try.func56, Try.ntmps56
  go_wp2_with fail
  refine HR.out.mono ?_
  rintro e w1 ⟨v, rfl, hv, hb⟩
  have HV := Lib.hid (And.intro hv hb)
  clear hv hb HR
  go_wp2_with fail
  go_ret
  exact ⟨v, rfl, HV.out⟩
end Go.Proofs.Ytaepdbkfaoiimab
/- The contracts of filled and works. Conditions: none. -/
set_option linter.unusedVariables false
set_option linter.unusedSimpArgs false
namespace Go.Proofs.Ytaepdbkfaoiimab
open Go.RowKit
attribute [local go_sem ↓] eql_err eql_nilerr neq_err neq_nilerr guard_err guard_nilerr guardn_err guardn_nilerr
theorem FrQ.below {B q p : Nat} {F : List Nat} {w0 w w' : World} (hb : Below B w0 w) (hB : B ≤ w0.heap.size) (hf : Fr B (· ∈ q :: p :: F) w w') : Below B w0 w' := hb.trans (hf.below (Nat.le_trans hB hb.size))
/-- A store that acts have filled. -/
def FilS (w : World) (l : List Act) (p q : Nat) (w' : World) : Prop := ∃ c s F, StS w.heap.size w' q p l.length (weakN l) c s F ∧ s.rows = l.foldl rowsA [] ∧ (∀ b ∈ F, w.heap.size ≤ b) ∧ w.heap.size ≤ p ∧ Below w.heap.size w w'
def filG (l : List Act) : Bool := lightA 80 l && decide (weakN l ≤ 6)
def FilP (w : World) (l : List Act) (e : Ending) (w' : World) : Prop :=
  (filG l = false ∧ e = .returned (.tuple #[.pointer none, .pointer none, .bool false]) ∧ w = w') ∨ (filG l = true ∧ ∃ p q, e = .returned (.tuple #[.pointer (some ⟨p, 0, none⟩), .pointer (some ⟨q, 0, none⟩), .bool true]) ∧ FilS w l p q w')
set_option maxRecDepth 20000 in
set_option maxHeartbeats 4000000 in
theorem filled_any (B : Nat) (v : Value) (l : List Act) (w : World) (h : ActsR B w v l) (hB : B ≤ w.heap.size) :
    Calls Try.prog 51 #[v] w (FilP w l) := by
  have FIN0 : Hid (filG l = false → ∀ (tmps : Array Value), tmps[2]? = some (.pointer none) → tmps[3]? = some (.pointer none) → tmps[4]? = some (.bool false) →
      bodyPost Try.prog Try.f51 (FilP w l) .ret { tmps := tmps, defers := [] } w) := by
    intro hg tmps t2 t3 t4
    exact bodyPost_ret (v := .tuple #[.pointer none, .pointer none, .bool false]) (by simp [results, Try.results51, go_sem, t2, t3, t4]) rfl (.inl ⟨hg, rfl, rfl⟩)
  have FIN1 : Hid (∀ (wr : World) (tmps : Array Value) (p q : Nat), filG l = true → FilS w l p q wr → tmps[2]? = some (.pointer (some ⟨p, 0, none⟩)) → tmps[3]? = some (.pointer (some ⟨q, 0, none⟩)) → tmps[4]? = some (.bool true) →
      bodyPost Try.prog Try.f51 (FilP w l) .ret { tmps := tmps, defers := [] } wr) := by
    intro wr tmps p q hg hs t2 t3 t4
    exact bodyPost_ret (v := .tuple #[.pointer (some ⟨p, 0, none⟩), .pointer (some ⟨q, 0, none⟩), .bool true]) (by simp [results, Try.results51, go_sem, t2, t3, t4]) rfl (.inr ⟨hg, p, q, rfl, hs⟩)
  have HLA := Lib.hid (lightActs_any B v l 80 w h)
  have HWK := Lib.hid (weak_any B v l w h)
  obtain ⟨A, cp, rfl, hc1, hc2, hcell⟩ := h.form
  have HC := Lib.hid hcell
  have HEN := Lib.hid (fun x hx => (h.2 x hx).1)
  clear hcell h
  cases hla : lightA 80 l
  · have HG : Hid (filG l = false) := by rw [Hid, filG, hla]; rfl
    rw [hla] at HLA
    clear hla
    go_enter Try.func51, Try.ntmps51
    go_wp2_with (go_at_call 35; refine HLA.out.mono ?_; rintro e w1 ⟨rfl, rfl⟩)
    exact FIN0.out HG.out _ rfl rfl rfl
  rw [hla] at HLA
  by_cases hw : weakN l ≤ 6
  case neg =>
    have HG : Hid (filG l = false) := by rw [Hid, filG, hla, decide_eq_false hw]; rfl
    have t15 : decide ((6 : Int) < (weakN l : Int)) = true := decide_eq_true (by omega)
    clear hla hw
    go_enter Try.func51, Try.ntmps51
    go_wp2_with (first
      | (go_at_call 35; refine HLA.out.mono ?_; rintro e w1 ⟨rfl, rfl⟩)
      | (go_at_call 52; refine HWK.out.mono ?_; rintro e w2 ⟨rfl, rfl⟩))
    exact FIN0.out HG.out _ rfl rfl rfl
  have HG : Hid (filG l = true) := by rw [Hid, filG, hla, decide_eq_true hw]; rfl
  have t15 : decide ((6 : Int) < (weakN l : Int)) = false := decide_eq_false (by omega)
  have hl80 : l.length ≤ 80 := by
    simp [lightA] at hla
    omega
  have HST := Lib.hid (stored_any w)
  have HW6 := Lib.hid hw
  clear hla hw
  go_enter Try.func51, Try.ntmps51
  go_wp2_with (first
    | (go_at_call 35; refine HLA.out.mono ?_; rintro e w1 ⟨rfl, rfl⟩)
    | (go_at_call 52; refine HWK.out.mono ?_; rintro e w2 ⟨rfl, rfl⟩)
    | (go_at_call 53; refine HST.out.mono ?_; rintro e w3 ⟨p, q, c, s, F, rfl, hst, hrw, hpw, hFw, hb3⟩))
  have HS3 := Lib.hid hst
  have HB3 := Lib.hid hb3
  have HF3 := Lib.hid hFw
  have HR3 := Lib.hid hrw
  clear hst hb3 hFw hrw HLA HWK HST t15
  go_loopw [8] (fun i wr => ∃ (k : Nat) (c : Chip) (s : SM) (F : List Nat), i = .int .i64 (k : Int) ∧ k ≤ l.length ∧ Hid (StS w.heap.size wr q p k (weakN (l.take k)) c s F) ∧ Hid (s.rows = (l.take k).foldl rowsA []) ∧ Hid (∀ b ∈ F, w.heap.size ≤ b) ∧ Hid (Below w.heap.size w wr)) (fun i _ => l.length - (intOf i).toNat)
  case atStart => exact ⟨0, c, s, F, rfl, Nat.zero_le _, HS3.out, HR3.out, HF3.out, HB3.out⟩
  case round =>
    obtain ⟨k, c, s, F, rfl, hk, hst, hrw, hF, hbl⟩ := hrel
    by_cases hlt : k < l.length
    · obtain ⟨x, hx, htk, _⟩ := getElem?_of_lt hlt
      obtain ⟨b, o, rfl, hb, e0, e1, e2, e3, e4⟩ := HC.out k x hx
      have hen := (HEN.out x (List.mem_of_getElem? hx)).below hbl.out
      have hwn := weakN_snoc htk
      have hw1 : weakN (l.take (k + 1)) ≤ 6 := by
        have h1 : weakN l = weakN (l.take (k + 1)) + weakN (l.drop (k + 1)) := by
          unfold weakN; rw [← List.sum_append, ← List.map_append, List.take_append_drop]
        have := HW6.out
        omega
      have hfo : (l.take (k + 1)).foldl rowsA [] = rowsA ((l.take k).foldl rowsA []) x := by rw [htk, List.foldl_append]; rfl
      have HFO := Lib.hid hfo
      have HWN := Lib.hid hwn
      obtain ⟨kd, sx, xa, xb, vx, lx⟩ := x
      simp only at e0 e1 e2 e3 e4 hen
      obtain ⟨A', cp', rfl, _, _, _⟩ := hen.form
      have hent : Ents w.heap.size wr (.slice A' lx.length cp') lx := ⟨Rd.mono hen.1 hB, hen.2⟩
      have HDO := Lib.hid (do_any w.heap.size q p k (weakN (l.take k)) c s F kd sx xa xb _ lx wr hst.out hent (by omega) (by rw [← hwn]; exact hw1))
      have d0 := (hbl.out.cell (p := ⟨b, o + k * 5, none⟩) hb).trans e0
      have d1 := (hbl.out.cell (p := ⟨b, o + k * 5 + 1, none⟩) hb).trans e1
      have d2 := (hbl.out.cell (p := ⟨b, o + k * 5 + 2, none⟩) hb).trans e2
      have d3 := (hbl.out.cell (p := ⟨b, o + k * 5 + 3, none⟩) hb).trans e3
      have d4 := (hbl.out.cell (p := ⟨b, o + k * 5 + 4, none⟩) hb).trans e4
      have g1 : (0 : Int) ≤ (k : Int) := by omega
      have g2 : (k : Int) < (l.length : Int) := by omega
      clear hx htk e0 e1 e2 e3 e4 hen hent hwn hfo hw1
      go_wp2_with fail
      refine HDO.out.mono ?_
      rintro e w5 ⟨c5, s5, F5, rfl, hs5, hr5, hF5, hf5⟩
      have HNX : Hid (StS w.heap.size w5 q p (k + 1) (weakN (l.take (k + 1))) c5 s5 F5 ∧ s5.rows = (l.take (k + 1)).foldl rowsA [] ∧ (∀ b ∈ F5, w.heap.size ≤ b) ∧ Below w.heap.size w w5) := by
        refine ⟨by rw [HWN.out]; exact hs5, by rw [hr5, HFO.out, hrw.out], fun b hb => ?_, FrQ.below hbl.out (Nat.le_refl _) hf5⟩
        rcases hF5 b hb with h | h
        · exact hF.out b h
        · exact Nat.le_trans hbl.out.size h
      clear hs5 hr5 hF5 hf5 HDO d0 d1 d2 d3 d4
      go_wp2_with fail
      go_roundw
      case rel => exact ⟨k + 1, c5, s5, F5, by go_num, by omega, HNX.out⟩
      case measure => simp [intOf] <;> omega
    · obtain rfl : k = l.length := by omega
      rw [List.take_length] at hst hrw
      have t27 : decide ((l.length : Int) < (l.length : Int)) = false := by simp
      go_wp2_with fail
      exact FIN1.out _ _ p q HG.out ⟨c, s, F, hst.out, hrw.out, hF.out, hpw, hbl.out⟩ rfl rfl rfl
/-- What a key is told, by the rows. -/
def toldR (r : List Ent) (key : ByteArray) : Value := .tuple #[.string ((getE r key).getD Ent.zero).v, .bool (getE r key).isSome, .nilIface]
theorem told_rows {c : Chip} {s : SM} (hi : Inv c s) (key : ByteArray) : toldV (s.get key) = toldR s.rows key := by
  unfold toldR
  rw [SM.get_rows hi]
  cases hg : s.get key with
  | none => rfl
  | some e =>
    cases heg : e.g
    · have e1 : (some e : Option Ent).filter (fun e => !e.g) = some e := by simp [heg]
      rw [e1]
      show Value.tuple #[.string e.v, .bool (true && !e.g), .nilIface] = .tuple #[.string e.v, .bool true, .nilIface]
      rw [heg]; rfl
    · have e1 : (some e : Option Ent).filter (fun e => !e.g) = none := by simp [heg]
      rw [e1]
      have hf : faultE e = 0 := by
        unfold SM.get at hg
        cases hm : getE s.mem key with
        | some x =>
          rw [hm] at hg
          cases hg
          obtain ⟨es, hlog⟩ := hi.body.log
          exact hlog.fault e (getE_mem hm).1
        | none =>
          rw [hm] at hg
          have hg : firstE s.tabs key = some e := hg
          unfold firstE at hg
          obtain ⟨l, hl, he⟩ := List.exists_of_findSome?_eq_some hg
          exact chkT_all (tabF_parts (tabsAt_ok hi.body.tabs l hl)).2.2 e (getE_mem he).1
      have hv : e.v = ByteArray.empty := by
        have h1 := (faultE_zero hf).2.1 heg
        rw [← toList_inj, h1]
        exact ((toList_nil ByteArray.empty).2 rfl).symm
      show Value.tuple #[.string e.v, .bool (true && !e.g), .nilIface] = .tuple #[.string ByteArray.empty, .bool false, .nilIface]
      rw [heg, hv]; rfl
abbrev wK : ByteArray := ⟨#[107]⟩
abbrev wX : ByteArray := ⟨#[120]⟩
theorem wkx_check : checkR [] [⟨wK, wX, false⟩] = 0 := by decide +kernel
theorem wkx_get : getE (rowsW [] [⟨wK, wX, false⟩]) wK = some ⟨wK, wX, false⟩ := by
  rw [rowsW, if_pos wkx_check]
  simp [putE, below, liveE, getE]
set_option maxRecDepth 20000 in
set_option maxHeartbeats 4000000 in
theorem works_any (w : World) : Calls Try.prog 50 #[] w fun e w' => e = .returned (.bool true) ∧ Below w.heap.size w w' := by
  have HST := Lib.hid (stored_any w)
  go_enter Try.func50, Try.ntmps50
  go_wp2_with (go_at_call 53; refine HST.out.mono ?_; rintro e w3 ⟨p, q, c, s, F, rfl, hst, hrw, hpw, hFw, hb3⟩)
  have hb4 : Below w3.heap.size w3 (w3.alloc (.cells #[.string wK, .string wX, .bool false] 25)) := (Below.refl _ _).alloc (Nat.le_refl _) _
  have hst4 := hst.below hb4
  have HB4 : Hid (Below w.heap.size w (w3.alloc (.cells #[.string wK, .string wX, .bool false] 25))) := hb3.trans (hb4.mono hb3.size)
  have hen : Ents w.heap.size (w3.alloc (.cells #[.string wK, .string wX, .bool false] 25)) (.slice (some ⟨w3.heap.size, 0, none⟩) 1 1) [⟨wK, wX, false⟩] := ⟨rd_lit3 _ w3 _ rfl wK wX false, by intro e he; simp at he; subst he; exact ⟨by decide, by decide⟩⟩
  obtain ⟨c1, s1, e1, g1, r1⟩ := write_good hst.ok (by omega) [⟨wK, wX, false⟩]
  rw [hrw, wkx_check] at e1
  rw [hrw] at r1
  have hw1 := write_any w.heap.size q p c s F _ [⟨wK, wX, false⟩] (w3.alloc (.cells #[.string wK, .string wX, .bool false] 25)) hst4.st hst4.ch hst4.ok.inv hen (by have := hst.ok.ep; omega)
  rw [e1] at hw1
  have HW1 := Lib.hid hw1
  have HG1 := Lib.hid g1
  have HR1 := Lib.hid r1
  clear hst hrw hFw hb3 hb4 hst4 hen e1 r1 g1 hw1 HST
  refine HW1.out.mono ?_
  rintro e w5 ⟨rfl, hr⟩
  obtain ⟨F5, hs5, hF5, hf5⟩ := StS.post (k := 0) (j := 0) (c := c) (s := s) (n := 0) ⟨rfl, hr⟩ HG1.out
  have HB5 : Hid (Below w.heap.size w w5) := FrQ.below HB4.out (Nat.le_refl _) hf5
  obtain ⟨c2, s2, e2, g2, r2, _⟩ := flush_good HG1.out (by omega)
  have hw2 := flush_any w.heap.size q p c1 s1 F5 w5 hs5.st hs5.ch hs5.ok.inv (by have := hs5.ok.ep; omega)
  rw [e2] at hw2
  have HW2 := Lib.hid hw2
  have HG2 := Lib.hid g2
  have HR2 : Hid (s2.rows = rowsW [] [⟨wK, wX, false⟩]) := r2.trans HR1.out
  clear hr hs5 hF5 hf5 e2 g2 r2 hw2 HW1
  simp only
  rw [show errV 0 = Value.nilIface from rfl]
  go_wp2_with fail
  refine HW2.out.mono ?_
  rintro e w6 ⟨rfl, hr⟩
  obtain ⟨F6, hs6, hF6, hf6⟩ := StS.post (k := 0) (j := 0) (c := c1) (s := s1) (n := 0) ⟨rfl, hr⟩ HG2.out
  have HB6 : Hid (Below w.heap.size w w6) := FrQ.below HB5.out (Nat.le_refl _) hf6
  have HOP := Lib.hid (open_any w.heap.size p c2 s2 w6 hs6.ch hs6.ok.inv)
  have HS6 := Lib.hid hs6
  clear hr hs6 hF6 hf6 HW2
  simp only
  rw [show errV 0 = Value.nilIface from rfl]
  go_wp2_with fail
  refine HOP.out.mono ?_
  rintro e w7 ⟨q2, F7, rfl, hs7, hb7, hq7, hF7⟩
  have hge := sget_any w.heap.size q2 p c2 s2 F7 wK w7 hs7 (HS6.out.ch.below hb7) HS6.out.ok.inv (by decide)
  rw [told_rows HS6.out.ok.inv, HR2.out] at hge
  unfold toldR at hge
  rw [wkx_get] at hge
  have HGE : Hid (Calls Try.prog 83 #[.pointer (some ⟨q2, 0, none⟩), .string wK] w7 fun e w' => e = .returned (.tuple #[.string wX, .bool true, .nilIface]) ∧ Below w7.heap.size w7 w') := hge
  have HB7 := Lib.hid (HB6.out.trans (hb7.mono HB6.out.size))
  clear hs7 hb7 hq7 hF7 hge HOP
  go_wp2_with fail
  refine HGE.out.mono ?_
  rintro e w8 ⟨rfl, hb8⟩
  have HB8 := Lib.hid (HB7.out.trans (hb8.mono HB7.out.size))
  clear hb8 HGE
  go_wp2_with fail
  go_ret
  exact ⟨by simp, HB8.out⟩
end Go.Proofs.Ytaepdbkfaoiimab
