/- Several texts of this proof, one behind the other: walks and plain laws that the statements rest on. Conditions: none but those that each lemma names. -/
import Derived.Test.YtaepdbkfaoiimaaMf
/- The contracts of do, filled, rows, works, LightActs, Weak. Conditions: none but those that each names. -/
set_option linter.unusedVariables false
set_option linter.unusedSimpArgs false
namespace Go.Proofs.Ytaepdbkfaoiimaa
open Go.RowKit
attribute [local go_sem ↓] eql_err eql_nilerr neq_err neq_nilerr guard_err guard_nilerr guardn_err guardn_nilerr
theorem ActsR.form {B : Nat} {w : World} {v : Value} {l : List Act} (h : ActsR B w v l) : ∃ A c, v = .slice A l.length c ∧ l.length ≤ c ∧ c ≤ 9223372036854775807 ∧
    ∀ i x, l[i]? = some x → ∃ b o, A = some ⟨b, o, none⟩ ∧ b < w.heap.size ∧ w.cell? ⟨b, o + i * 5, none⟩ = some (.string x.kind) ∧ w.cell? ⟨b, o + i * 5 + 1, none⟩ = some (.string x.s) ∧ w.cell? ⟨b, o + i * 5 + 2, none⟩ = some (.int .i64 x.a) ∧ w.cell? ⟨b, o + i * 5 + 3, none⟩ = some (.int .i64 x.b) ∧ w.cell? ⟨b, o + i * 5 + 4, none⟩ = some x.v := by
  obtain ⟨⟨_, A, c, h1, h2, h3, h4⟩, _⟩ := h
  refine ⟨A, c, h1, h2, h3, fun i x hi => ?_⟩
  have hlt : i < l.length := by
    rcases Nat.lt_or_ge i l.length with h | h
    · exact h
    · rw [List.getElem?_eq_none h] at hi; cases hi
  obtain ⟨b, o, hA, _, hb, hc⟩ := h4 (by omega)
  have f := fun j hj => flat_at Act.cells 5 (fun _ => rfl) l i j x hi hj
  exact ⟨b, o, hA, hb, hc _ _ (f 0 (by omega)), hc _ _ (f 1 (by omega)), hc _ _ (f 2 (by omega)), hc _ _ (f 3 (by omega)), hc _ _ (f 4 (by omega))⟩
theorem StS.post {B q p k j k' j' : Nat} {w w' : World} {c c' : Chip} {s s' : SM} {F : List Nat} {n : Nat} {e : Ending} (h : SPost B q p F w (c', s', n) e w') (hg : Good k' j' c' s') :
    ∃ F', StS B w' q p k' j' c' s' F' ∧ (∀ b ∈ F', b ∈ F ∨ w.heap.size ≤ b) ∧ Fr B (· ∈ q :: p :: F) w w' := by
  obtain ⟨_, hc, ⟨F', hs, hF⟩, hf⟩ := h
  exact ⟨F', ⟨hs, hc, hg⟩, hF, hf⟩
/-- The same of a world where the store's blocks are as they were. -/
theorem StS.below {B q p k j : Nat} {w w' : World} {c : Chip} {s : SM} {F : List Nat} (h : StS B w q p k j c s F) (hb : Below w.heap.size w w') : StS B w' q p k j c s F := ⟨h.st.below hb, h.ch.below hb, h.ok⟩
/-- What an act tells. -/
def doN (r : List Ent) (a : Act) : Nat := if a.kind.toList = kWrite then checkR r a.l else 0
/-- What an act leaves. -/
def DoP (B q p k j : Nat) (F : List Nat) (w : World) (r : List Ent) (n : Nat) (e : Ending) (w' : World) : Prop :=
  ∃ c' s' F', e = .returned (errV n) ∧ StS B w' q p k j c' s' F' ∧ s'.rows = r ∧ (∀ b ∈ F', b ∈ F ∨ w.heap.size ≤ b) ∧ Fr B (· ∈ q :: p :: F) w w'
theorem kind_eq {a : ByteArray} {k : List UInt8} (h : a.toList = k) : (a.toList == k) = true := by rw [beq_iff_eq]; exact h
theorem kind_ne {a : ByteArray} {k : List UInt8} (h : ¬ a.toList = k) : (a.toList == k) = false := by rw [beq_eq_false_iff_ne]; exact h
theorem all_snoc {α : Type} {f : α → Bool} {l : List α} {k : Nat} {x : α} (h : l.take (k + 1) = l.take k ++ [x]) (h1 : (l.take k).all f = true) (h2 : f x = true) : (l.take (k + 1)).all f = true := by rw [h, List.all_append, h1]; simp [h2]
theorem all_no {α : Type} {f : α → Bool} {l : List α} {k : Nat} {x : α} (h : l[k]? = some x) (h2 : f x = false) : l.all f = false := by
  rw [List.all_eq_false]
  exact ⟨x, List.mem_of_getElem? h, by rw [h2]; simp⟩
set_option maxRecDepth 20000 in
set_option maxHeartbeats 4000000 in
theorem lightActs_any (B : Nat) (v : Value) (l : List Act) (most : Int) (w : World) (h : ActsR B w v l) :
    Calls Try.prog 42 #[v, .int .i64 most] w fun e w' => e = .returned (.bool (lightA most l)) ∧ w = w' := by
  obtain ⟨A, cp, rfl, hc1, hc2, hcell⟩ := h.form
  have HC := Lib.hid hcell
  have HEN := Lib.hid (fun x hx => (h.2 x hx).1)
  clear hcell h
  by_cases hm : (l.length : Int) ≤ most
  case neg =>
    have t9 : decide (most < (l.length : Int)) = true := decide_eq_true (by omega)
    have HF : Hid (lightA most l = false) := by rw [Hid, lightA, decide_eq_false hm]; rfl
    clear hm
    go_enter Try.func42, Try.ntmps42
    go_wp2_with fail
    go_ret
    exact ⟨by rw [HF.out]; rfl, rfl⟩
  have t9 : decide (most < (l.length : Int)) = false := decide_eq_false (by omega)
  have HF : Hid (lightA most l = l.all (fun a => decide (a.s.size ≤ 100) && lightE 6 a.l)) := by rw [Hid, lightA, decide_eq_true hm]; rfl
  clear hm
  go_enter Try.func42, Try.ntmps42
  go_wp2_with fail
  go_loop [5] (fun i => ∃ k : Nat, k ≤ l.length ∧ i = .int .i64 k ∧ Hid ((l.take k).all (fun a => decide (a.s.size ≤ 100) && lightE 6 a.l) = true)) (fun i => l.length - (intOf i).toNat)
  case atStart => exact ⟨0, Nat.zero_le _, rfl, rfl⟩
  case round =>
    obtain ⟨k, hk, rfl, hall⟩ := hrel
    by_cases hlt : k < l.length
    · obtain ⟨x, hx, htk, _⟩ := getElem?_of_lt hlt
      obtain ⟨b, o, rfl, hb, y0, y1, y2, y3, y4⟩ := HC.out k x hx
      have hen := HEN.out x (List.mem_of_getElem? hx)
      have HNO := Lib.hid (all_no (f := fun a : Act => decide (a.s.size ≤ 100) && lightE 6 a.l) hx)
      have HYE := Lib.hid (all_snoc (f := fun a : Act => decide (a.s.size ≤ 100) && lightE 6 a.l) htk hall.out)
      obtain ⟨kd, sx, xa, xb, vx, lx⟩ := x
      simp only at y0 y1 y2 y3 y4 hen
      obtain ⟨A', cp', rfl, _, _, _⟩ := hen.form
      have HLE := Lib.hid (lightE_any B _ lx 6 w hen)
      have g1 : (0 : Int) ≤ (k : Int) := by omega
      have g2 : (k : Int) < (l.length : Int) := by omega
      clear hx htk hen
      by_cases hs : sx.size ≤ 100
      case neg =>
        have t22 : decide ((100 : Int) < (sx.size : Int)) = true := decide_eq_true (by omega)
        have HFF : Hid (lightA most l = false) := by rw [Hid, HF.out]; exact HNO.out (by simp [hs])
        clear hs
        go_wp2_with fail
        go_ret
        exact ⟨by rw [HFF.out]; rfl, rfl⟩
      have t22 : decide ((100 : Int) < (sx.size : Int)) = false := decide_eq_false (by omega)
      cases hle : lightE 6 lx
      · have HFF : Hid (lightA most l = false) := by rw [Hid, HF.out]; exact HNO.out (by simp [hle])
        rw [hle] at HLE
        clear hs hle
        go_wp2_with (go_at_call 25; refine HLE.out.mono ?_; rintro e w1 ⟨rfl, rfl⟩)
        go_ret
        exact ⟨by rw [HFF.out]; rfl, rfl⟩
      · have HNX : Hid ((l.take (k + 1)).all (fun a => decide (a.s.size ≤ 100) && lightE 6 a.l) = true) := HYE.out (by simp [hle, hs])
        rw [hle] at HLE
        clear hs hle
        go_wp2_with (go_at_call 25; refine HLE.out.mono ?_; rintro e w1 ⟨rfl, rfl⟩)
        go_round
        case rel => exact ⟨k + 1, by omega, by go_num, HNX.out⟩
        case measure => simp [intOf] <;> omega
    · have HFF : Hid (lightA most l = true) := by
        have := hall.out
        rw [List.take_of_length_le (by omega)] at this
        rw [Hid, HF.out, this]
      have t13 : decide ((k : Int) < (l.length : Int)) = false := decide_eq_false (by omega)
      go_wp2_with fail
      go_ret
      exact ⟨by rw [HFF.out]; rfl, rfl⟩
theorem weakN_snoc {l : List Act} {k : Nat} {x : Act} (h : l.take (k + 1) = l.take k ++ [x]) : weakN (l.take (k + 1)) = weakN (l.take k) + weakA x := by
  unfold weakN; rw [h]; simp
theorem weakN_le (l : List Act) : weakN l ≤ l.length := by
  unfold weakN
  induction l with
  | nil => simp
  | cons x l ih =>
    have : weakA x ≤ 1 := by unfold weakA; split <;> omega
    simp; omega
set_option maxRecDepth 20000 in
set_option maxHeartbeats 4000000 in
theorem weak_any (B : Nat) (v : Value) (l : List Act) (w : World) (h : ActsR B w v l) :
    Calls Try.prog 71 #[v] w fun e w' => e = .returned (.int .i64 (weakN l)) ∧ w = w' := by
  obtain ⟨A, cp, rfl, hc1, hc2, hcell⟩ := h.form
  have HC := Lib.hid hcell
  clear hcell h
  go_enter Try.func71, Try.ntmps71
  go_wp2_with fail
  go_loop [3, 4] (fun n i => ∃ k : Nat, k ≤ l.length ∧ i = .int .i64 k ∧ n = .int .i64 (weakN (l.take k))) (fun _ i => l.length - (intOf i).toNat)
  case atStart => exact ⟨0, Nat.zero_le _, rfl, rfl⟩
  case round =>
    obtain ⟨k, hk, rfl, rfl⟩ := hrel
    have hwl := weakN_le (l.take k)
    have hwl2 : (l.take k).length ≤ k := by rw [List.length_take]; omega
    by_cases hlt : k < l.length
    · obtain ⟨x, hx, htk, _⟩ := getElem?_of_lt hlt
      obtain ⟨b, o, rfl, hb, y0, y1, y2, y3, y4⟩ := HC.out k x hx
      have HW := Lib.hid (weakN_snoc htk)
      have g1 : (0 : Int) ≤ (k : Int) := by omega
      have g2 : (k : Int) < (l.length : Int) := by omega
      clear hx htk y1 y2 y3 y4
      generalize hN : weakN (l.take k) = N at *
      by_cases hkw : x.kind.toList = kWeaken
      · have t16 := kind_eq hkw
        have HA : Hid (weakA x = 1) := if_pos hkw
        unfold kWeaken at t16
        clear hkw
        go_wp2_with fail
        go_round
        case rel => exact ⟨k + 1, by omega, by go_num, by rw [HW.out, HA.out]; go_num⟩
        case measure => simp [intOf] <;> omega
      · have t16 := kind_ne hkw
        have HA : Hid (weakA x = 0) := if_neg hkw
        unfold kWeaken at t16
        clear hkw
        go_wp2_with fail
        go_round
        case rel => exact ⟨k + 1, by omega, by go_num, by rw [HW.out, HA.out]; rfl⟩
        case measure => simp [intOf] <;> omega
    · have e : l.take k = l := List.take_of_length_le (by omega)
      rw [e]
      have t13 : decide ((k : Int) < (l.length : Int)) = false := decide_eq_false (by omega)
      go_wp2_with fail
      go_ret
      exact ⟨rfl, rfl⟩
end Go.Proofs.Ytaepdbkfaoiimaa
/- The contracts of filled and works. Conditions: none. -/
set_option linter.unusedVariables false
set_option linter.unusedSimpArgs false
namespace Go.Proofs.Ytaepdbkfaoiimaa
open Go.RowKit
attribute [local go_sem ↓] eql_err eql_nilerr neq_err neq_nilerr guard_err guard_nilerr guardn_err guardn_nilerr
theorem FrQ.below {B q p : Nat} {F : List Nat} {w0 w w' : World} (hb : Below B w0 w) (hB : B ≤ w0.heap.size) (hf : Fr B (· ∈ q :: p :: F) w w') : Below B w0 w' := hb.trans (hf.below (Nat.le_trans hB hb.size))
/-- What a key is told, by the rows. -/
def toldR (r : List Ent) (key : ByteArray) : Value := .tuple #[.string ((getE r key).getD Ent.zero).v, .bool (getE r key).isSome, .nilIface]
theorem told_rows {c : Chip} {s : SM} (hi : Inv c s) (key : ByteArray) : toldV (s.get key) = toldR s.rows key := by
  unfold toldR
  rw [SM.get_rows hi]
  cases hg : s.get key with
  | none => rfl
  | some e =>
    cases heg : e.g
    · have e1 : (some e : Option Ent).filter (fun e => !e.g) = some e := by simp [heg]
      rw [e1]
      show Value.tuple #[.string e.v, .bool (true && !e.g), .nilIface] = .tuple #[.string e.v, .bool true, .nilIface]
      rw [heg]; rfl
    · have e1 : (some e : Option Ent).filter (fun e => !e.g) = none := by simp [heg]
      rw [e1]
      have hf : faultE e = 0 := by
        unfold SM.get at hg
        cases hm : getE s.mem key with
        | some x =>
          rw [hm] at hg
          cases hg
          obtain ⟨es, hlog⟩ := hi.body.log
          exact hlog.fault e (getE_mem hm).1
        | none =>
          rw [hm] at hg
          have hg : firstE s.tabs key = some e := hg
          unfold firstE at hg
          obtain ⟨l, hl, he⟩ := List.exists_of_findSome?_eq_some hg
          exact chkT_all (tabF_parts (tabsAt_ok hi.body.tabs l hl)).2.2 e (getE_mem he).1
      have hv : e.v = ByteArray.empty := by
        have h1 := (faultE_zero hf).2.1 heg
        rw [← toList_inj, h1]
        exact ((toList_nil ByteArray.empty).2 rfl).symm
      show Value.tuple #[.string e.v, .bool (true && !e.g), .nilIface] = .tuple #[.string ByteArray.empty, .bool false, .nilIface]
      rw [heg, hv]; rfl
end Go.Proofs.Ytaepdbkfaoiimaa
/- What the statements about a filled store share. Conditions: none but those that each names. -/
set_option linter.unusedVariables false
set_option linter.unusedSimpArgs false
namespace Go.Proofs.Ytaepdbkfaoiimaa
open Go.RowKit
theorem rows_alive (s : SM) : ∀ e ∈ s.rows, e.g = false := by
  intro e he
  have := (List.mem_filter.1 (show e ∈ (mergeAll (s.mem :: s.tabs)).filter (fun e => !e.g) from he)).2
  simpa using this
theorem getE_alive {l : List Ent} (h : ∀ e ∈ l, e.g = false) (key : ByteArray) : (getE l key).filter (fun e => !e.g) = getE l key := by
  cases hg : getE l key with
  | none => rfl
  | some e => simp [h e (getE_mem hg).1]
theorem get_rowsW {r l : List Ent} (hr : Rises r) (ha : ∀ e ∈ r, e.g = false) (h0 : checkR r l = 0) (key : ByteArray) : getE (rowsW r l) key = ((lastE l key).or (getE r key)).filter (fun e => !e.g) := by
  rw [rowsW, if_pos h0, get_live (rises_puts l hr), get_puts l hr]
theorem get_others {r l : List Ent} (hr : Rises r) (ha : ∀ e ∈ r, e.g = false) {key : ByteArray} (hk : ∀ e ∈ l, e.k ≠ key) : getE (rowsW r l) key = getE r key := by
  by_cases h0 : checkR r l = 0
  · rw [get_rowsW hr ha h0]
    have : lastE l key = none := by
      unfold lastE getE
      rw [List.find?_eq_none]
      intro e he
      have := hk e (List.mem_reverse.1 he)
      simpa using this
    rw [this, Option.none_or, getE_alive ha]
  · rw [rowsW, if_neg h0]
theorem ents_up {B B' : Nat} {w : World} {v : Value} {l : List Ent} (h : Ents B w v l) (hB : B ≤ B') : Ents B' w v l := ⟨Rd.mono h.1 hB, h.2⟩
theorem acts_below {B : Nat} {w w' : World} {v : Value} {l : List Act} (h : ActsR B w v l) (hb : Below w.heap.size w w') : ActsR B w' v l := ⟨h.1.keep fun k hk hlt => hb.block k hlt, fun x hx => ⟨(h.2 x hx).1.below hb, (h.2 x hx).2⟩⟩
section
variable {B q p k j : Nat} {c : Chip} {s : SM} {F : List Nat} {w : World}
theorem write_st (h : StS B w q p k j c s F) (hk : k ≤ 1000) {v : Value} {l : List Ent} (hl : Ents B w v l) : Calls Try.prog 69 #[.pointer (some ⟨q, 0, none⟩), v] w (DoP B q p (k + 1) j F w (rowsW s.rows l) (checkR s.rows l)) := by
  obtain ⟨c1, s1, e1, g1, r1⟩ := write_good h.ok hk l
  have hw := write_any B q p c s F v l w h.st h.ch h.ok.inv hl (by have := h.ok.ep; omega)
  rw [e1] at hw
  refine hw.mono ?_
  intro e w' hp
  obtain ⟨F', hs, hF, hf⟩ := StS.post (k := k) (j := j) (c := c) (s := s) hp g1
  exact ⟨c1, s1, F', hp.1, hs, r1, hF, hf⟩
theorem DoP.st {k' j' n : Nat} {r : List Ent} {w0 w' : World} {e : Ending} (hb : Below B w0 w) (hB : B ≤ w0.heap.size) (h : DoP B q p k' j' F w r n e w') : ∃ c' s' F', e = .returned (errV n) ∧ StS B w' q p k' j' c' s' F' ∧ s'.rows = r ∧ Below B w0 w' := by
  obtain ⟨c', s', F', h1, h2, h3, h4, h5⟩ := h
  exact ⟨c', s', F', h1, h2, h3, FrQ.below hb hB h5⟩
theorem StS.rise (h : StS B w q p k j c s F) : Rises s.rows := rows_rise h.ok.inv
end
end Go.Proofs.Ytaepdbkfaoiimaa
/- The contracts of Flush, Compact, Open and Manifest of a store that has done so many acts. Conditions: none but those that each names. -/
set_option linter.unusedVariables false
set_option linter.unusedSimpArgs false
namespace Go.Proofs.Ytaepdbkfaoiimaa
open Go.RowKit
abbrev eKX : Ent := ⟨⟨#[107]⟩, ⟨#[120]⟩, false⟩
theorem kx_check : checkR [] [eKX] = 0 := by decide +kernel
theorem kx_rows : rowsW [] [eKX] = [eKX] := by decide +kernel
theorem kx_ents (B : Nat) (w : World) : Ents B (w.alloc (.cells #[.string ⟨#[107]⟩, .string ⟨#[120]⟩, .bool false] 35)) (.slice (some ⟨w.heap.size, 0, none⟩) 1 1) [eKX] :=
  ⟨rd_lit3 _ w _ rfl ⟨#[107]⟩ ⟨#[120]⟩ false, by intro e he; simp at he; subst he; exact ⟨by decide, by decide⟩⟩
section
variable {B q p k j : Nat} {c : Chip} {s : SM} {F : List Nat} {w : World}
theorem StS.drawN (h : StS B w q p k j c s F) (n : Nat) : StS B (w.drewN n) q p k j c s F := ⟨h.st.drewN n, h.ch.drewN n, h.ok⟩
theorem StS.mono {k' j' : Nat} (h : StS B w q p k j c s F) (hk : k ≤ k') (hj : j ≤ j') : StS B w q p k' j' c s F := ⟨h.st, h.ch, h.ok.mono hk hj⟩
theorem flush_st (h : StS B w q p k j c s F) (hk : k ≤ 1000) : Calls Try.prog 73 #[.pointer (some ⟨q, 0, none⟩)] w fun e w' => ∃ c' s' F', e = .returned .nilIface ∧ StS B w' q p (k + 1) j c' s' F' ∧ s'.rows = s.rows ∧ (∀ b ∈ F', b ∈ F ∨ w.heap.size ≤ b) ∧ Fr B (· ∈ q :: p :: F) w w' ∧
    s'.mem = [] ∧ (∃ g : Nat, s'.m.log = g ∧ (c'.b g).l = [] ∧ (c.b g).bad = false) ∧ (∀ b ∈ s'.m.nw, b ∈ s.m.nw ∨ (c.b b.toNat).bad = false) := by
  obtain ⟨c1, s1, e1, g1, r1, m1, ⟨g, q1, q2, q3, q4⟩, v1⟩ := flush_good h.ok hk
  have hw := flush_any B q p c s F w h.st h.ch h.ok.inv (by have := h.ok.ep; omega)
  rw [e1] at hw
  refine hw.mono ?_
  intro e w' hp
  obtain ⟨F', hs, hF, hf⟩ := StS.post (k := k) (j := j) (c := c) (s := s) hp g1
  exact ⟨c1, s1, F', hp.1, hs, r1, hF, hf, m1, ⟨g, q1, q2, q4⟩, v1⟩
theorem comp_st (h : StS B w q p k j c s F) (hk : k ≤ 1000) : Calls Try.prog 74 #[.pointer (some ⟨q, 0, none⟩)] w fun e w' => ∃ c' s' F', e = .returned .nilIface ∧ StS B w' q p (k + 1) j c' s' F' ∧ s'.rows = s.rows ∧ (∀ b ∈ F', b ∈ F ∨ w.heap.size ≤ b) ∧ Fr B (· ∈ q :: p :: F) w w' ∧
    s'.mem = s.mem ∧ s'.m.nw = [] ∧ s'.tabs = parts 14 (liveE (mergeAll s.tabs)) := by
  obtain ⟨c1, s1, e1, g1, r1, m1, n1, l1, t1⟩ := comp_good h.ok hk
  have hw := compact_any B q p c s F w h.st h.ch h.ok.inv
  rw [e1] at hw
  refine hw.mono ?_
  intro e w' hp
  obtain ⟨F', hs, hF, hf⟩ := StS.post (k := k) (j := j) (c := c) (s := s) hp g1
  exact ⟨c1, s1, F', hp.1, hs, r1, hF, hf, m1, n1, t1⟩
theorem weaken_st (h : StS B w q p k j c s F) (hj : j ≤ 5) (b : Int) : Calls Try.prog 49 #[.pointer (some ⟨p, 0, none⟩), .int .i64 b] w fun e w' => e = .returned (errV (c.weaken b).2) ∧ StS B w' q p (k + 1) (j + 1) (c.weaken b).1 s F ∧ Fr B (· ∈ q :: p :: F) w w' :=
  (weaken_any B p c b w h.ch).mono fun e w' ⟨h1, h2, h3⟩ => ⟨h1, ⟨h.st.chip h.ch h3, h2, h.ok.weaken hj b⟩, h3.mono (fun b _ e => by subst e; simp)⟩
theorem open_st (h : StS B w q p k j c s F) : Calls Try.prog 102 #[.pointer (some ⟨p, 0, none⟩)] w fun e w' => ∃ q2 F2, e = .returned (.tuple #[.pointer (some ⟨q2, 0, none⟩), .nilIface]) ∧ StS B w' q2 p k j c s F2 ∧ Below w.heap.size w w' ∧ w.heap.size ≤ q2 ∧ ∀ b ∈ F2, w.heap.size ≤ b :=
  (open_any B p c s w h.ch h.ok.inv).mono fun e w' ⟨q2, F2, h1, h2, h3, h4, h5⟩ => ⟨q2, F2, h1, ⟨h2, h.ch.below h3, h.ok⟩, h3, h4, h5⟩
theorem sman_st (h : StS B w q p k j c s F) : Calls Try.prog 80 #[.pointer (some ⟨q, 0, none⟩)] w fun e w' => ∃ A3 c3 A4 c4, e = .returned (.agg #[.int .i64 s.m.ep, .int .i64 s.m.log, .slice A3 s.m.nw.length c3, .slice A4 s.m.od.length c4]) ∧ Ints B w' (.slice A3 s.m.nw.length c3) s.m.nw ∧ Ints B w' (.slice A4 s.m.od.length c4) s.m.od ∧ StS B w' q p k j c s F ∧ Below w.heap.size w w' :=
  (sman_any B q p s F w h.st (by have := h.ok.inv.body.nwl; omega) (by have := h.ok.inv.body.odl; omega)).mono fun e w' ⟨A3, c3, A4, c4, h1, h2, h3, h4⟩ => ⟨A3, c3, A4, c4, h1, h2, h3, h.below h4, h4⟩
end
end Go.Proofs.Ytaepdbkfaoiimaa
