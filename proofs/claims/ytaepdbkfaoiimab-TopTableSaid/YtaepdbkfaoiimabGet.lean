/- The contract of table.Get. Conditions: the block holds a table. -/
import Derived.Test.YtaepdbkfaoiimabTab2
import Derived.Test.YtaepdbkfaoiimabShelf
set_option linter.unusedVariables false
set_option linter.unusedSimpArgs false
namespace Go.Proofs.Ytaepdbkfaoiimab
open Go.RowKit
attribute [local go_sem ↓] eql_err eql_nilerr neq_err neq_nilerr guard_err guard_nilerr guardn_err guardn_nilerr

def cmpv (a b : ByteArray) : Int := Lib.compareBytes a.data.toList b.data.toList
theorem cb_lt : ∀ x y : List UInt8, (Lib.compareBytes x y < 0 ↔ Op.bytesLess x y = true) ∧ (Lib.compareBytes x y = 0 ↔ x = y) ∧ (Lib.compareBytes x y = -1 ∨ Lib.compareBytes x y = 0 ∨ Lib.compareBytes x y = 1)
  | [], [] => by simp [Lib.compareBytes, Op.bytesLess]
  | [], _ :: _ => by simp [Lib.compareBytes, Op.bytesLess]
  | _ :: _, [] => by simp [Lib.compareBytes, Op.bytesLess]
  | a :: x, b :: y => by
    obtain ⟨h1, h2, h3⟩ := cb_lt x y
    rw [Lib.compareBytes]
    by_cases hab : a < b
    · rw [if_pos hab]
      have hne : a ≠ b := fun e => by subst e; exact absurd hab (UInt8.lt_irrefl a)
      simp [Op.bytesLess, hab, hne]
    · rw [if_neg hab]
      by_cases hba : b < a
      · rw [if_pos hba]
        have hne : a ≠ b := fun e => by subst e; exact absurd hba (UInt8.lt_irrefl a)
        simp [Op.bytesLess, hab, hne]
      · rw [if_neg hba]
        have he : a = b := UInt8.le_antisymm (UInt8.not_lt.1 hba) (UInt8.not_lt.1 hab)
        subst he
        refine ⟨by simp [Op.bytesLess, h1, hab], by simp [h2], h3⟩
theorem cmpv_lt (a b : ByteArray) : cmpv a b < 0 ↔ ltB a b = true := by
  unfold cmpv ltB
  rw [← ByteArray.toList_eq, ← ByteArray.toList_eq]
  exact (cb_lt _ _).1
theorem cmpv_eq (a b : ByteArray) : cmpv a b = 0 ↔ a = b := by
  unfold cmpv
  rw [← ByteArray.toList_eq, ← ByteArray.toList_eq]
  exact (cb_lt _ _).2.1.trans (toList_inj a b)
theorem rises_at {es : List Ent} (h : Rises es) {i j : Nat} {x y : Ent} (hij : i < j) (hx : es[i]? = some x) (hy : es[j]? = some y) : ltB x.k y.k = true := by
  have hj : j < es.length := by
    rcases Nat.lt_or_ge j es.length with h | h
    · exact h
    · rw [List.getElem?_eq_none h] at hy; cases hy
  have hi : i < es.length := by omega
  rw [List.getElem?_eq_getElem hi] at hx
  rw [List.getElem?_eq_getElem hj] at hy
  cases hx; cases hy
  exact List.pairwise_iff_getElem.1 h i j hi hj hij
theorem get1_any (x : Ent) (key : ByteArray) (w : World) :
    Calls Try.prog 79 #[.agg #[.string x.k, .string x.v, .bool x.g], .string key] w fun e w' => e = .returned (.int .i64 (cmpv x.k key)) ∧ Below w.heap.size w w' := by
  have HC := Lib.hid (fun w => Try.strings_Compare x.k key w)
  go_enter Try.func79, Try.ntmps79
  go_wp2_with (go_at_call 80; refine (HC.out _).mono ?_; rintro e2 w2 ⟨rfl, rfl⟩)
  go_ret
  exact ⟨rfl, (Below.refl _ _).alloc (Nat.le_refl _) _⟩
/-- Where a key stands in entries that rise, and whether it does. -/
structure BsR (es : List Ent) (key : ByteArray) (a : Nat) (is : Bool) : Prop where
  le : a ≤ es.length
  lo : ∀ i e, i < a → es[i]? = some e → ltB e.k key = true
  hi : ∀ i e, a ≤ i → es[i]? = some e → ltB e.k key = false
  is : is = true ↔ ∃ e, es[a]? = some e ∧ e.k = key
set_option maxRecDepth 20000 in
set_option maxHeartbeats 4000000 in
theorem bsf_any (B : Nat) (v : Value) (es : List Ent) (key : ByteArray) (w : World) (h : Ents B w v es) (hr : Rises es) (hn : es.length ≤ 1000000) :
    Calls Try.prog 78 #[v, .string key, .func (.func 79) #[] #[]] w fun e w' => ∃ a is, e = .returned (.tuple #[.int .i64 (a : Nat), .bool is]) ∧ BsR es key a is ∧ Below w.heap.size w w' := by
  obtain ⟨A, c, rfl, hc, hc2, hcell⟩ := h.form
  have HC := Lib.hid hcell
  have HRI := Lib.hid hr
  clear hcell h hr
  go_enter Try.func78, Try.ntmps78
  go_wp2_with fail
  go_loopw [9, 10] (fun i j wr => ∃ a d : Nat, a ≤ d ∧ d ≤ es.length ∧ i = .int .i64 a ∧ j = .int .i64 d ∧ Hid ((∀ i e, i < a → es[i]? = some e → ltB e.k key = true) ∧ (∀ i e, d ≤ i → es[i]? = some e → ltB e.k key = false)) ∧ Below w.heap.size w wr) (fun i j _ => (intOf j).toNat - (intOf i).toNat)
  case atStart => exact ⟨0, es.length, Nat.zero_le _, Nat.le_refl _, rfl, rfl, ⟨fun i e h => absurd h (by omega), fun i e h h2 => by rw [List.getElem?_eq_none h] at h2; cases h2⟩, Below.refl _ _⟩
  case round =>
    obtain ⟨a, d, had, hd, rfl, rfl, hinv, hbl⟩ := hrel
    by_cases hlt : a < d
    · have t1 : decide ((a : Int) < (d : Int)) = true := decide_eq_true (by omega)
      obtain ⟨m, hm⟩ : ∃ m : Nat, (a + d) / 2 = m := ⟨_, rfl⟩
      have hmn : m < es.length := by omega
      obtain ⟨x, hx, htk, _⟩ := getElem?_of_lt hmn
      obtain ⟨b, o, rfl, hb, c1, c2, c3⟩ := HC.out m x hx
      have d1 := (hbl.cell (p := ⟨b, o + m * 3, none⟩) hb).trans c1
      have d2 := (hbl.cell (p := ⟨b, o + m * 3 + 1, none⟩) hb).trans c2
      have d3 := (hbl.cell (p := ⟨b, o + m * 3 + 2, none⟩) hb).trans c3
      have hm2 : ((a : Int) + (d : Int)) / 2 = (m : Int) := by omega
      have HCM := Lib.hid (get1_any x key wr)
      clear htk c1 c2 c3
      have g1 : (0 : Int) ≤ (m : Int) := by omega
      have g2 : (m : Int) < (es.length : Int) := by omega
      have HX := Lib.hid hx
      have HBL := Lib.hid hbl
      clear hx
      have hinv := hinv.out
      by_cases hl : cmpv x.k key < 0
      · have hlo : Hid ((∀ i e, i < m + 1 → es[i]? = some e → ltB e.k key = true) ∧ (∀ i e, d ≤ i → es[i]? = some e → ltB e.k key = false)) := by
          refine ⟨fun i e hi he => ?_, hinv.2⟩
          rcases Nat.lt_or_ge i m with h | h
          · exact ltB_trans (rises_at HRI.out h he HX.out) ((cmpv_lt _ _).1 hl)
          · have : i = m := by omega
            subst this
            rw [HX.out] at he
            cases he
            exact (cmpv_lt _ _).1 hl
        have t2 : decide (cmpv x.k key < 0) = true := decide_eq_true hl
        generalize cmpv x.k key = cv at *
        clear hinv hbl
        go_wp2_with (go_at_call 79; refine HCM.out.mono ?_; rintro e2 w2 ⟨rfl, hb2⟩; have HB2 := Lib.hid (HBL.out.trans (hb2.mono HBL.out.size)); clear hb2)
        go_roundw
        case rel => exact ⟨m + 1, d, by omega, hd, by go_num, rfl, hlo, HB2.out⟩
        case measure => simp [intOf] <;> omega
      · have hlo : Hid ((∀ i e, i < a → es[i]? = some e → ltB e.k key = true) ∧ (∀ i e, m ≤ i → es[i]? = some e → ltB e.k key = false)) := by
          refine ⟨hinv.1, fun i e hi he => ?_⟩
          have hx0 : ltB x.k key = false := by
            cases hh : ltB x.k key
            · rfl
            · exact absurd ((cmpv_lt _ _).2 hh) hl
          rcases Nat.lt_or_ge m i with h | h
          · cases hh : ltB e.k key
            · rfl
            · have := ltB_trans (rises_at HRI.out h HX.out he) hh
              rw [hx0] at this
              cases this
          · have : i = m := by omega
            subst this
            rw [HX.out] at he
            cases he
            exact hx0
        have t2 : decide (cmpv x.k key < 0) = false := decide_eq_false hl
        generalize cmpv x.k key = cv at *
        clear hinv hbl
        go_wp2_with (go_at_call 79; refine HCM.out.mono ?_; rintro e2 w2 ⟨rfl, hb2⟩; have HB2 := Lib.hid (HBL.out.trans (hb2.mono HBL.out.size)); clear hb2)
        go_roundw
        case rel => exact ⟨a, m, by omega, by omega, rfl, by go_num, hlo, HB2.out⟩
        case measure => simp [intOf] <;> omega
    · have had2 : a = d := by omega
      subst had2
      have t1 : decide ((a : Int) < (a : Int)) = false := decide_eq_false (by omega)
      by_cases hlast : a < es.length
      · obtain ⟨x, hx, htk, _⟩ := getElem?_of_lt hlast
        obtain ⟨b, o, rfl, hb, c1, c2, c3⟩ := HC.out a x hx
        have d1 := (hbl.cell (p := ⟨b, o + a * 3, none⟩) hb).trans c1
        have d2 := (hbl.cell (p := ⟨b, o + a * 3 + 1, none⟩) hb).trans c2
        have d3 := (hbl.cell (p := ⟨b, o + a * 3 + 2, none⟩) hb).trans c3
        have HCM := Lib.hid (get1_any x key wr)
        have HX := Lib.hid hx
        have HBL := Lib.hid hbl
        clear htk c1 c2 c3 hx hbl
        have t3 : decide ((a : Int) < (es.length : Int)) = true := decide_eq_true (by omega)
        have g1 : (0 : Int) ≤ (a : Int) := by omega
        have g2 : (a : Int) < (es.length : Int) := by omega
        have HEND : Hid (BsR es key a (cmpv x.k key == 0)) := by
          refine ⟨hd, hinv.out.1, hinv.out.2, ?_⟩
          rw [beq_iff_eq, cmpv_eq, HX.out]
          exact ⟨fun h => ⟨x, rfl, h⟩, fun ⟨e, h1, h2⟩ => by cases h1; exact h2⟩
        generalize cmpv x.k key = cv at *
        go_wp2_with (go_at_call 79; refine HCM.out.mono ?_; rintro e2 w2 ⟨rfl, hb2⟩; have HB2 := Lib.hid (HBL.out.trans (hb2.mono HBL.out.size)); clear hb2)
        go_ret2
        exact ⟨a, _, rfl, HEND.out, HB2.out⟩
      · have t3 : decide ((a : Int) < (es.length : Int)) = false := decide_eq_false (by omega)
        have HEND : Hid (BsR es key a false) := by
          refine ⟨hd, hinv.out.1, hinv.out.2, ?_⟩
          rw [List.getElem?_eq_none (by omega)]
          exact ⟨fun h => (by cases h), fun ⟨e, h1, _⟩ => by cases h1⟩
        go_wp2_with fail
        go_ret2
        exact ⟨a, false, rfl, HEND.out, hbl⟩
/-- An entry or the zero one. -/
def entO : Option Ent → Value
  | some e => .agg #[.string e.k, .string e.v, .bool e.g]
  | none => .agg #[.string ByteArray.empty, .string ByteArray.empty, .bool false]
theorem getE_none {l : List Ent} {key : ByteArray} (h : ∀ e ∈ l, e.k ≠ key) : getE l key = none := by
  unfold getE
  rw [List.find?_eq_none]
  intro e he
  simpa using h e he
theorem chkT_rises {p : Option ByteArray} {l : List Ent} (h : chkT p l = 0) : Rises l ∧ ∀ k, p = some k → ∀ e ∈ l, ltB k e.k = true := by
  induction l generalizing p with
  | nil => exact ⟨List.Pairwise.nil, fun k _ e he => by simp at he⟩
  | cons a l ih =>
    have h : (if faultE a ≠ 0 then faultE a else if (match p with | none => false | some k => leB a.k k) then 3 else chkT (some a.k) l) = 0 := h
    generalize hm : (match p with | none => false | some k => leB a.k k) = mm at h
    by_cases h1 : faultE a ≠ 0
    · rw [if_pos h1] at h; exact absurd h h1
    · rw [if_neg h1] at h
      cases mm
      · rw [if_neg (by simp)] at h
        obtain ⟨i1, i2⟩ := ih h
        refine ⟨rises_cons.2 ⟨fun y hy => i2 _ rfl y hy, i1⟩, fun k hk e he => ?_⟩
        subst hk
        have hka : ltB k a.k = true := by
          have hm : leB a.k k = false := hm
          rw [leB_eq] at hm
          simpa using hm
        rcases List.mem_cons.1 he with rfl | he
        · exact hka
        · exact ltB_trans hka (i2 _ rfl e he)
      · rw [if_pos rfl] at h; cases h
theorem rises_app {a b : List Ent} (h : Rises (a ++ b)) : Rises a ∧ Rises b ∧ ∀ x ∈ a, ∀ y ∈ b, ltB x.k y.k = true := List.pairwise_append.1 h
/-- One page is looked at. -/
theorem get_parts {ps : List (List Ent)} {l q : List Ent} {key : ByteArray} {k a : Nat} {is : Bool} (hl : ps.flatten = l) (hr : Rises l) (hq : ps[k]? = some q) (hne : q ≠ []) (hb : BsR q key a is) :
    (is = true → ∃ e, q[a]? = some e ∧ getE l key = some e) ∧
    (is = false → a = 0 → ∀ e ∈ (ps.drop k).flatten, ltB key e.k = true) ∧
    (is = false → a = q.length → ∀ e ∈ (ps.take (k + 1)).flatten, ltB e.k key = true) ∧
    (is = false → a ≠ 0 → a ≠ q.length → getE l key = none) := by
  have hk : k < ps.length := by
    rcases Nat.lt_or_ge k ps.length with h | h
    · exact h
    · rw [List.getElem?_eq_none h] at hq; cases hq
  have hqe : ps[k] = q := by rw [List.getElem?_eq_getElem hk] at hq; exact Option.some.inj hq
  have hsp : l = (ps.take k).flatten ++ (q ++ (ps.drop (k + 1)).flatten) := by
    rw [← hl]
    conv => lhs; rw [← List.take_append_drop k ps, List.drop_eq_getElem_cons hk, hqe]
    simp
  have hdr : (ps.drop k).flatten = q ++ (ps.drop (k + 1)).flatten := by rw [List.drop_eq_getElem_cons hk, hqe]; rfl
  have htk : (ps.take (k + 1)).flatten = (ps.take k).flatten ++ q := by rw [List.take_succ_eq_append_getElem hk, hqe]; simp
  rw [hsp] at hr
  obtain ⟨r1, r2, r3⟩ := rises_app hr
  obtain ⟨r4, r5, r6⟩ := rises_app r2
  obtain ⟨x0, q', rfl⟩ : ∃ x q', q = x :: q' := by cases q with | nil => exact absurd rfl hne | cons x q' => exact ⟨x, q', rfl⟩
  have hgt : ∀ e, is = false → ∀ i, a ≤ i → (x0 :: q')[i]? = some e → ltB key e.k = true := by
    intro e hi i hai he
    have h1 := hb.hi i e hai he
    cases hh : ltB key e.k
    · have := ltB_tri h1 hh
      exfalso
      rcases Nat.lt_or_ge a i with h2 | h2
      · have hai' : a < (x0 :: q').length := by
          have : i < (x0 :: q').length := by
            rcases Nat.lt_or_ge i (x0 :: q').length with h | h
            · exact h
            · rw [List.getElem?_eq_none h] at he; cases he
          omega
        have hy := List.getElem?_eq_getElem hai'
        have h3 := hb.hi a _ (Nat.le_refl _) hy
        have h4 := rises_at r4 h2 hy he
        rw [this] at h4
        rw [h4] at h3
        cases h3
      · have : i = a := by omega
        subst this
        have := hb.is.2 ⟨e, he, by assumption⟩
        rw [hi] at this
        cases this
    · rfl
  refine ⟨fun hi => ?_, fun hi ha => ?_, fun hi ha => ?_, fun hi h0 hn => ?_⟩
  · obtain ⟨e, he, hk⟩ := hb.is.1 hi
    refine ⟨e, he, ?_⟩
    rw [← hk, hsp]
    exact getE_of_mem hr (List.mem_append_right _ (List.mem_append_left _ (List.mem_of_getElem? he)))
  · subst ha
    rw [hdr]
    intro e he
    have hx := hgt x0 hi 0 (Nat.le_refl _) rfl
    rcases List.mem_append.1 he with he | he
    · obtain ⟨i, hi2, hie⟩ := List.getElem_of_mem he
      exact hgt e hi i (Nat.zero_le _) (by rw [List.getElem?_eq_getElem hi2, hie])
    · exact ltB_trans hx (r6 x0 (List.mem_cons_self) e he)
  · have hall : ∀ e ∈ (x0 :: q'), ltB e.k key = true := by
      intro e he
      obtain ⟨i, hi2, hie⟩ := List.getElem_of_mem he
      exact hb.lo i e (by omega) (by rw [List.getElem?_eq_getElem hi2, hie])
    rw [htk]
    intro e he
    rcases List.mem_append.1 he with he | he
    · exact ltB_trans (r3 e he x0 (List.mem_append_left _ List.mem_cons_self)) (hall x0 List.mem_cons_self)
    · exact hall e he
  · have hle := hb.le
    have hx := hb.lo 0 x0 (by omega) rfl
    have hal : a < (x0 :: q').length := by omega
    have hy := List.getElem?_eq_getElem hal
    have hy2 := hgt _ hi a (Nat.le_refl _) hy
    rw [hsp]
    refine getE_none fun e he hek => ?_
    rcases List.mem_append.1 he with he | he
    · have := ltB_trans (r3 e he x0 (List.mem_append_left _ List.mem_cons_self)) hx
      rw [hek, ltB_irrefl] at this; cases this
    · rcases List.mem_append.1 he with he | he
      · obtain ⟨i, hi2, hie⟩ := List.getElem_of_mem he
        rcases Nat.lt_or_ge i a with h | h
        · have := hb.lo i e h (by rw [List.getElem?_eq_getElem hi2, hie])
          rw [hek, ltB_irrefl] at this; cases this
        · have := hgt e hi i h (by rw [List.getElem?_eq_getElem hi2, hie])
          rw [hek, ltB_irrefl] at this; cases this
      · have := ltB_trans hy2 (r6 _ (List.mem_of_getElem? hy) e he)
        rw [hek, ltB_irrefl] at this; cases this
theorem ent3 {n g T : Nat} {w W : World} {x y z : Value} (hk : Blk W g T #[x, y, z]) (hb : Below n w W) (hn : n ≤ g) (hg : w.heap.size ≤ W.heap.size) (a b c : Value) :
    Below n w (((W.setCell ⟨g, 0, none⟩ a).setCell ⟨g, 1, none⟩ b).setCell ⟨g, 2, none⟩ c) ∧ (((W.setCell ⟨g, 0, none⟩ a).setCell ⟨g, 1, none⟩ b).setCell ⟨g, 2, none⟩ c).cell? ⟨g, 0, none⟩ = some a ∧
      (((W.setCell ⟨g, 0, none⟩ a).setCell ⟨g, 1, none⟩ b).setCell ⟨g, 2, none⟩ c).cell? ⟨g, 1, none⟩ = some b ∧ (((W.setCell ⟨g, 0, none⟩ a).setCell ⟨g, 1, none⟩ b).setCell ⟨g, 2, none⟩ c).cell? ⟨g, 2, none⟩ = some c := by
  have h := ((hk.set_ 0 a).set_ 1 b).set_ 2 c
  refine ⟨((hb.setCell (p := ⟨g, 0, none⟩) hn _).setCell (p := ⟨g, 1, none⟩) hn _).setCell (p := ⟨g, 2, none⟩) hn _, ?_, ?_, ?_⟩ <;> rw [h.cell] <;> rfl
theorem errV9 : errV 9 = .iface 107 (.int .i64 9) := rfl
theorem chunks_ne {l : List Ent} : ∀ q ∈ chunks2 l, q ≠ [] := by
  have key : ∀ (n : Nat) (l : List Ent), l.length ≤ n → ∀ q ∈ chunks2 l, q ≠ [] := by
    intro n
    induction n using Nat.strongRecOn with
    | _ n ih =>
      intro l hn q hq
      match l, hn, hq with
      | [], _, hq => cases hq
      | [a], _, hq => have := List.mem_singleton.1 hq; subst this; simp
      | a :: b :: l, hn, hq =>
        rcases List.mem_cons.1 hq with rfl | hq
        · simp
        · simp only [List.length_cons] at hn
          exact ih (n - 2) (by omega) l (by omega) q hq
  exact key _ l (Nat.le_refl _)
set_option maxRecDepth 20000 in
set_option maxHeartbeats 8000000 in
theorem tabget_any (B p b : Nat) (c : Chip) (l : List Ent) (key : ByteArray) (w : World) (h : ChipR B w p c) (hb : b < 24) (hd : c.down = false) (ht : TabAt c b l) (hks : key.size ≤ 9223372036854775807)
    (hmay : mayB (fOf (l.map Ent.k)) key = false → getE l key = none) :
    Calls Try.prog 47 #[.pointer (some ⟨p, 0, none⟩), .int .i64 b, .string key] w fun e w' => e = .returned (.tuple #[entO (getE l key), .bool (getE l key).isSome, .nilIface]) ∧ Below w.heap.size w w' := by
  have hB0 : B ≤ w.heap.size := by obtain ⟨V, u, hv, _⟩ := h; have := hv.base; have := hv.blk.lt; omega
  have hpart := tabF_parts ht.ok
  have hris := (chkT_rises hpart.2.2).1
  have hcl := chunks2_len l
  have hpn : (chunks2 l).length ≤ 7 := by omega
  have hpl : (c.b b).l.length = 1 + (chunks2 l).length := by rw [ht.pages]; simp [tabPages, rawPages]; omega
  have HA : Hid (∀ W, Below w.heap.size w W → ChipR B W p c) := fun W hb => h.below hb
  have HRD : Hid (∀ W, Below w.heap.size w W → Calls Try.prog 42 #[.pointer (some ⟨p, 0, none⟩), .int .i64 b, .int .i64 0] W fun e w' => e = .returned (.tuple #[.string (pad (bitsB (fOf (l.map Ent.k)))), .nilIface]) ∧ W = w') := by
    intro W hb'
    have := cread_any B p c b 0 W (h.below hb')
    rw [tab_read0 hb hd ht] at this
    exact this
  have HNX : Hid (∀ W, Below w.heap.size w W → Calls Try.prog 34 #[.pointer (some ⟨p, 0, none⟩), .int .i64 b] W fun e w' => e = .returned (.int .i64 (1 + (chunks2 l).length : Nat)) ∧ W = w') := by
    intro W hb'
    have := next_any B p c b W (h.below hb') (by omega) (by omega)
    rw [Int.toNat_natCast, hpl] at this
    exact this
  have HUB := Lib.hid (fun W => unbits_any (fOf (l.map Ent.k)) (fOf_lt _) W)
  have HMY := Lib.hid (fun W => may_any (fOf (l.map Ent.k)) key W hks (fOf_lt _))
  have HPG : Hid (∀ (k : Nat) (q : List Ent), (chunks2 l)[k]? = some q → ∀ W, Below w.heap.size w W → Calls Try.prog 77 #[.pointer (some ⟨p, 0, none⟩), .int .i64 b, .int .i64 ((k : Int) + 1)] W fun e w2 => ∃ v, e = .returned (.tuple #[v, .nilIface]) ∧ Ents w.heap.size w2 v q ∧ Below W.heap.size W w2) := by
    intro k q hq W hb'
    have hk : k < (chunks2 l).length := by
      rcases Nat.lt_or_ge k (chunks2 l).length with h | h
      · exact h
      · rw [List.getElem?_eq_none h] at hq; cases hq
    have hpr := tab_pageR hb (show k < 7 by omega) hd ht
    rw [show ((1 : Int) + (k : Int)) = (k : Int) + 1 from by omega, hq] at hpr
    refine (page_any B p c b ((k : Int) + 1) W (h.below hb')).mono ?_
    rintro e w2 ⟨v, rfl, hv, hb2⟩
    rw [hpr] at hv ⊢
    exact ⟨v, rfl, ⟨hv.1.mono hB0, hv.2⟩, hb2⟩
  have HPS : Hid ((chunks2 l).flatten = l) := chunks2_flatten l
  have HNE : Hid (∀ q ∈ chunks2 l, q ≠ [] ∧ Rises q ∧ q.length ≤ 2) := fun q hq => ⟨chunks_ne q hq, by
    obtain ⟨i, hi, hie⟩ := List.getElem_of_mem hq
    have hr := hris
    rw [← chunks2_flatten l, ← List.take_append_drop i (chunks2 l), List.flatten_append, List.drop_eq_getElem_cons hi, hie, List.flatten_cons] at hr
    exact (rises_app (rises_app hr).2.1).1, (chunks2_mem hq).1⟩
  have HRS := Lib.hid hris
  have HMN := Lib.hid hmay
  generalize chunks2 l = ps at *
  generalize pad (bitsB (fOf (l.map Ent.k))) = s0 at *
  generalize fOf (l.map Ent.k) = f0 at *
  have fin : ∀ (W : World) (tmps : Array Value) (o : Option Ent), getE l key = o → Below w.heap.size w W → W.cell? ⟨w.heap.size, 0, none⟩ = some (.string ((o.map Ent.k).getD ByteArray.empty)) → W.cell? ⟨w.heap.size, 1, none⟩ = some (.string ((o.map Ent.v).getD ByteArray.empty)) → W.cell? ⟨w.heap.size, 2, none⟩ = some (.bool ((o.map Ent.g).getD false)) →
      tmps[6]? = some (.pointer (some ⟨w.heap.size, 0, none⟩)) → tmps[7]? = some (.bool o.isSome) → tmps[8]? = some .nilIface →
      bodyPost Try.prog Try.f47 (fun e w' => e = .returned (.tuple #[entO (getE l key), .bool (getE l key).isSome, .nilIface]) ∧ Below w.heap.size w w') .ret { tmps := tmps, defers := [] } W := by
    intro W tmps o ho hb c0 c1 c2 t6 t7 t8
    rw [ho]
    refine bodyPost_ret (v := .tuple #[.agg #[.string ((o.map Ent.k).getD ByteArray.empty), .string ((o.map Ent.v).getD ByteArray.empty), .bool ((o.map Ent.g).getD false)], .bool o.isSome, .nilIface]) (by simp [results, Try.results47, go_sem, t6, t7, t8, c0, c1, c2]) rfl ⟨?_, hb⟩
    cases o <;> rfl
  have FIN := Lib.hid fin
  clear fin h hd ht hpart hris hmay hpl hcl
  go_enter Try.func47, Try.ntmps47
  have HB0 : Hid (Below w.heap.size w (w.alloc (.cells #[.string ByteArray.empty, .string ByteArray.empty, .bool false] 25))) := (Below.refl _ _).alloc (Nat.le_refl _) _
  have HE0 := Lib.hid (Blk.new w 25 #[.string ByteArray.empty, .string ByteArray.empty, .bool false])
  cases hm : mayB f0 key
  · have HGN := Lib.hid (HMN.out hm)
    rw [hm] at HMY
    go_wp2_with (first
      | (go_at_call 42; refine (HRD.out _ HB0.out).mono ?_; rintro e2 w2 ⟨rfl, rfl⟩)
      | (go_at_call 75; refine (HUB.out _).mono ?_; rintro e2 w2 ⟨rfl, n2, rfl⟩)
      | (go_at_call 76; refine (HMY.out _).mono ?_; rintro e2 w2 ⟨rfl, rfl⟩))
    have h3 := ent3 (HE0.out.drewN n2) (below_drewN HB0.out n2) (Nat.le_refl _) (by simp) (.string ByteArray.empty) (.string ByteArray.empty) (.bool false)
    exact FIN.out _ _ none HGN.out h3.1 h3.2.1 h3.2.2.1 h3.2.2.2 rfl rfl rfl
  · rw [hm] at HMY
    go_wp2_with (first
      | (go_at_call 42; refine (HRD.out _ HB0.out).mono ?_; rintro e2 w2 ⟨rfl, rfl⟩)
      | (go_at_call 75; refine (HUB.out _).mono ?_; rintro e2 w2 ⟨rfl, n2, rfl⟩)
      | (go_at_call 76; refine (HMY.out _).mono ?_; rintro e2 w2 ⟨rfl, rfl⟩)
      | (go_at_call 34; refine (HNX.out _ (below_drewN HB0.out _)).mono ?_; rintro e2 w2 ⟨rfl, rfl⟩))
    clear HRD HNX HUB HMY HMN
    go_loopw [13, 14] (fun i j wr => ∃ lo hi : Nat, lo ≤ hi ∧ hi ≤ ps.length ∧ i = .int .i64 ((lo + 1 : Nat) : Int) ∧ j = .int .i64 ((hi + 1 : Nat) : Int) ∧ Hid ((∀ e ∈ (ps.take lo).flatten, ltB e.k key = true) ∧ (∀ e ∈ (ps.drop hi).flatten, ltB key e.k = true)) ∧ Below w.heap.size w wr ∧ Hid (Blk wr w.heap.size 25 #[.string ByteArray.empty, .string ByteArray.empty, .bool false])) (fun i j _ => (intOf j).toNat - (intOf i).toNat)
    case atStart => exact ⟨0, ps.length, Nat.zero_le _, Nat.le_refl _, rfl, by congr 1; omega, ⟨fun e he => by simp at he, fun e he => by simp at he⟩, below_drewN HB0.out _, HE0.out.drewN _⟩
    case round =>
      obtain ⟨lo, hi, hle, hhi, rfl, rfl, hinv, hbl, hblk⟩ := hrel
      by_cases hlt : lo < hi
      · have t1 : decide (((lo + 1 : Nat) : Int) < ((hi + 1 : Nat) : Int)) = true := decide_eq_true (by omega)
        obtain ⟨m, hm⟩ : ∃ m : Nat, (lo + hi) / 2 = m := ⟨_, rfl⟩
        have hmm : ((lo : Int) + 1 + ((hi : Int) + 1)).tdiv 2 = (m : Int) + 1 := by
          rw [Int.tdiv_eq_ediv_of_nonneg (by omega)]
          omega
        have hmp : m < ps.length := by omega
        obtain ⟨q, hq⟩ : ∃ q, ps[m]? = some q := ⟨_, List.getElem?_eq_getElem hmp⟩
        obtain ⟨hqn, hqr, hq2⟩ := HNE.out q (List.mem_of_getElem? hq)
        have HP := Lib.hid (HPG.out m q hq wr hbl)
        have HPT := Lib.hid (fun a is (h : BsR q key a is) => get_parts HPS.out HRS.out hq hqn h)
        have HBS := Lib.hid (fun W v (hv : Ents w.heap.size W v q) => bsf_any w.heap.size v q key W hv hqr (by omega))
        have HBL := Lib.hid hbl
        have HQR := Lib.hid hqr
        clear hq hqn hqr hbl
        go_wp2_with (go_at_call 77; refine HP.out.mono ?_; rintro e3 w3 ⟨v3, rfl, hv3, hb3⟩; have HV3 := Lib.hid hv3; have HB3 := Lib.hid (HBL.out.trans (hb3.mono HBL.out.size)); have HK3 := Lib.hid (hblk.out.below hb3 hblk.out.lt); clear hb3 hv3)
        refine (HBS.out _ _ HV3.out).mono ?_
        rintro e4 w4 ⟨a, is, rfl, hbs, hb4⟩
        have HB4 := Lib.hid (HB3.out.trans (hb4.mono HB3.out.size))
        have hv4 := HV3.out.below hb4
        obtain ⟨A3, cp3, rfl, hcp3, hcp4, hcell3⟩ := hv4.form
        have HC4 := Lib.hid hcell3
        have hk4 := HK3.out.below hb4 HK3.out.lt
        have HK4 := Lib.hid hk4
        have HPR := Lib.hid (HPT.out a is hbs)
        have hal := hbs.le
        have q0 := hk4.cell 0
        have q1 := hk4.cell 1
        have q2 := hk4.cell 2
        have f0' := hk4.frozen 0
        have f1' := hk4.frozen 1
        have f2' := hk4.frozen 2
        simp at q0 q1 q2
        clear hb4 hbs hv4 hcell3 hk4 HPT HBS HP HPG HNE
        cases is
        · by_cases ha0 : a = 0
          · have t5 : (((a : Nat) : Int) == 0) = true := by rw [ha0]; rfl
            have hnew : Hid ((∀ e ∈ (ps.take lo).flatten, ltB e.k key = true) ∧ (∀ e ∈ (ps.drop m).flatten, ltB key e.k = true)) := ⟨hinv.out.1, HPR.out.2.1 rfl ha0⟩
            go_wp2_with fail
            go_roundw
            case rel => exact ⟨lo, m, by omega, by omega, by go_num, by go_num, hnew, HB4.out, HK4⟩
            case measure => simp [intOf] <;> omega
          · have t5 : (((a : Nat) : Int) == 0) = false := beq_eq_false_iff_ne.2 (by omega)
            by_cases han : a = q.length
            · have t6 : (((a : Nat) : Int) == ((q.length : Nat) : Int)) = true := by rw [han]; simp
              have hnew : Hid ((∀ e ∈ (ps.take (m + 1)).flatten, ltB e.k key = true) ∧ (∀ e ∈ (ps.drop hi).flatten, ltB key e.k = true)) := ⟨HPR.out.2.2.1 rfl han, hinv.out.2⟩
              go_wp2_with fail
              go_roundw
              case rel => exact ⟨m + 1, hi, by omega, by omega, by go_num, by go_num, hnew, HB4.out, HK4⟩
              case measure => simp [intOf] <;> omega
            · have t6 : (((a : Nat) : Int) == ((q.length : Nat) : Int)) = false := beq_eq_false_iff_ne.2 (by omega)
              have HGN := Lib.hid (HPR.out.2.2.2 rfl ha0 han)
              have h3 := Lib.hid (ent3 HK4.out HB4.out (Nat.le_refl _) HB4.out.size (.string ByteArray.empty) (.string ByteArray.empty) (.bool false))
              go_wp2_with fail
              exact FIN.out _ _ none HGN.out h3.out.1 h3.out.2.1 h3.out.2.2.1 h3.out.2.2.2 rfl rfl rfl
        · obtain ⟨e, he1, he2⟩ := HPR.out.1 rfl
          obtain ⟨b', o', rfl, hb', c1, c2, c3⟩ := HC4.out a e he1
          have HGN := Lib.hid he2
          have hal2 : a < q.length := by
            rcases Nat.lt_or_ge a q.length with h | h
            · exact h
            · rw [List.getElem?_eq_none h] at he1; cases he1
          have g1 : (0 : Int) ≤ (a : Int) := by omega
          have g2 : (a : Int) < (q.length : Int) := by omega
          have h3 := Lib.hid (ent3 HK4.out HB4.out (Nat.le_refl _) HB4.out.size (.string e.k) (.string e.v) (.bool e.g))
          clear he1 he2
          go_wp2_with fail
          exact FIN.out _ _ (some e) HGN.out h3.out.1 h3.out.2.1 h3.out.2.2.1 h3.out.2.2.2 rfl rfl rfl
      · have he : lo = hi := by omega
        subst he
        have t1 : decide (((lo + 1 : Nat) : Int) < ((lo + 1 : Nat) : Int)) = false := decide_eq_false (by omega)
        have HGN : Hid (getE l key = none) := by
          refine getE_none fun e he hek => ?_
          rw [← HPS.out, ← List.take_append_drop lo ps, List.flatten_append] at he
          rcases List.mem_append.1 he with he | he
          · have := hinv.out.1 e he
            rw [hek, ltB_irrefl] at this; cases this
          · have := hinv.out.2 e he
            rw [hek, ltB_irrefl] at this; cases this
        have q0 := hblk.out.cell 0
        have q1 := hblk.out.cell 1
        have q2 := hblk.out.cell 2
        have f0' := hblk.out.frozen 0
        have f1' := hblk.out.frozen 1
        have f2' := hblk.out.frozen 2
        simp at q0 q1 q2
        have h3 := Lib.hid (ent3 hblk.out hbl (Nat.le_refl _) hbl.size (.string ByteArray.empty) (.string ByteArray.empty) (.bool false))
        go_wp2_with fail
        exact FIN.out _ _ none HGN.out h3.out.1 h3.out.2.1 h3.out.2.2.1 h3.out.2.2.2 rfl rfl rfl
end Go.Proofs.Ytaepdbkfaoiimab
