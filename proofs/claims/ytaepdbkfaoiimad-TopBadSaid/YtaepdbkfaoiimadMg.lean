/- Several texts of this proof, one behind the other: walks and plain laws that the statements rest on. Conditions: none but those that each lemma names. -/
import Derived.Test.YtaepdbkfaoiimadMf
/- The contracts of filled and works. Conditions: none. -/
set_option linter.unusedVariables false
set_option linter.unusedSimpArgs false
namespace Go.Proofs.Ytaepdbkfaoiimad
open Go.RowKit
attribute [local go_sem ↓] eql_err eql_nilerr neq_err neq_nilerr guard_err guard_nilerr guardn_err guardn_nilerr
theorem FrQ.below {B q p : Nat} {F : List Nat} {w0 w w' : World} (hb : Below B w0 w) (hB : B ≤ w0.heap.size) (hf : Fr B (· ∈ q :: p :: F) w w') : Below B w0 w' := hb.trans (hf.below (Nat.le_trans hB hb.size))
/-- A store that acts have filled. -/
def FilS (w : World) (l : List Act) (p q : Nat) (w' : World) : Prop := ∃ c s F, StS w.heap.size w' q p l.length (weakN l) c s F ∧ s.rows = l.foldl rowsA [] ∧ (∀ b ∈ F, w.heap.size ≤ b) ∧ w.heap.size ≤ p ∧ Below w.heap.size w w'
def filG (l : List Act) : Bool := lightA 80 l && decide (weakN l ≤ 6)
def FilP (w : World) (l : List Act) (e : Ending) (w' : World) : Prop :=
  (filG l = false ∧ e = .returned (.tuple #[.pointer none, .pointer none, .bool false]) ∧ w = w') ∨ (filG l = true ∧ ∃ p q, e = .returned (.tuple #[.pointer (some ⟨p, 0, none⟩), .pointer (some ⟨q, 0, none⟩), .bool true]) ∧ FilS w l p q w')
set_option maxRecDepth 20000 in
set_option maxHeartbeats 4000000 in
theorem filled_any (B : Nat) (v : Value) (l : List Act) (w : World) (h : ActsR B w v l) (hB : B ≤ w.heap.size) :
    Calls Try.prog 7 #[v] w (FilP w l) := by
  have FIN0 : Hid (filG l = false → ∀ (tmps : Array Value), tmps[2]? = some (.pointer none) → tmps[3]? = some (.pointer none) → tmps[4]? = some (.bool false) →
      bodyPost Try.prog Try.f7 (FilP w l) .ret { tmps := tmps, defers := [] } w) := by
    intro hg tmps t2 t3 t4
    exact bodyPost_ret (v := .tuple #[.pointer none, .pointer none, .bool false]) (by simp [results, Try.results7, go_sem, t2, t3, t4]) rfl (.inl ⟨hg, rfl, rfl⟩)
  have FIN1 : Hid (∀ (wr : World) (tmps : Array Value) (p q : Nat), filG l = true → FilS w l p q wr → tmps[2]? = some (.pointer (some ⟨p, 0, none⟩)) → tmps[3]? = some (.pointer (some ⟨q, 0, none⟩)) → tmps[4]? = some (.bool true) →
      bodyPost Try.prog Try.f7 (FilP w l) .ret { tmps := tmps, defers := [] } wr) := by
    intro wr tmps p q hg hs t2 t3 t4
    exact bodyPost_ret (v := .tuple #[.pointer (some ⟨p, 0, none⟩), .pointer (some ⟨q, 0, none⟩), .bool true]) (by simp [results, Try.results7, go_sem, t2, t3, t4]) rfl (.inr ⟨hg, p, q, rfl, hs⟩)
  have HLA := Lib.hid (lightActs_any B v l 80 w h)
  have HWK := Lib.hid (weak_any B v l w h)
  obtain ⟨A, cp, rfl, hc1, hc2, hcell⟩ := h.form
  have HC := Lib.hid hcell
  have HEN := Lib.hid (fun x hx => (h.2 x hx).1)
  clear hcell h
  cases hla : lightA 80 l
  · have HG : Hid (filG l = false) := by rw [Hid, filG, hla]; rfl
    rw [hla] at HLA
    clear hla
    go_enter Try.func7, Try.ntmps7
    go_wp2_with (go_at_call 19; refine HLA.out.mono ?_; rintro e w1 ⟨rfl, rfl⟩)
    exact FIN0.out HG.out _ rfl rfl rfl
  rw [hla] at HLA
  by_cases hw : weakN l ≤ 6
  case neg =>
    have HG : Hid (filG l = false) := by rw [Hid, filG, hla, decide_eq_false hw]; rfl
    have t15 : decide ((6 : Int) < (weakN l : Int)) = true := decide_eq_true (by omega)
    clear hla hw
    go_enter Try.func7, Try.ntmps7
    go_wp2_with (first
      | (go_at_call 19; refine HLA.out.mono ?_; rintro e w1 ⟨rfl, rfl⟩)
      | (go_at_call 20; refine HWK.out.mono ?_; rintro e w2 ⟨rfl, rfl⟩))
    exact FIN0.out HG.out _ rfl rfl rfl
  have HG : Hid (filG l = true) := by rw [Hid, filG, hla, decide_eq_true hw]; rfl
  have t15 : decide ((6 : Int) < (weakN l : Int)) = false := decide_eq_false (by omega)
  have hl80 : l.length ≤ 80 := by
    simp [lightA] at hla
    omega
  have HST := Lib.hid (stored_any w)
  have HW6 := Lib.hid hw
  clear hla hw
  go_enter Try.func7, Try.ntmps7
  go_wp2_with (first
    | (go_at_call 19; refine HLA.out.mono ?_; rintro e w1 ⟨rfl, rfl⟩)
    | (go_at_call 20; refine HWK.out.mono ?_; rintro e w2 ⟨rfl, rfl⟩)
    | (go_at_call 16; refine HST.out.mono ?_; rintro e w3 ⟨p, q, c, s, F, rfl, hst, hrw, hpw, hFw, hb3⟩))
  have HS3 := Lib.hid hst
  have HB3 := Lib.hid hb3
  have HF3 := Lib.hid hFw
  have HR3 := Lib.hid hrw
  clear hst hb3 hFw hrw HLA HWK HST t15
  go_loopw [8] (fun i wr => ∃ (k : Nat) (c : Chip) (s : SM) (F : List Nat), i = .int .i64 (k : Int) ∧ k ≤ l.length ∧ Hid (StS w.heap.size wr q p k (weakN (l.take k)) c s F) ∧ Hid (s.rows = (l.take k).foldl rowsA []) ∧ Hid (∀ b ∈ F, w.heap.size ≤ b) ∧ Hid (Below w.heap.size w wr)) (fun i _ => l.length - (intOf i).toNat)
  case atStart => exact ⟨0, c, s, F, rfl, Nat.zero_le _, HS3.out, HR3.out, HF3.out, HB3.out⟩
  case round =>
    obtain ⟨k, c, s, F, rfl, hk, hst, hrw, hF, hbl⟩ := hrel
    by_cases hlt : k < l.length
    · obtain ⟨x, hx, htk, _⟩ := getElem?_of_lt hlt
      obtain ⟨b, o, rfl, hb, e0, e1, e2, e3, e4⟩ := HC.out k x hx
      have hen := (HEN.out x (List.mem_of_getElem? hx)).below hbl.out
      have hwn := weakN_snoc htk
      have hw1 : weakN (l.take (k + 1)) ≤ 6 := by
        have h1 : weakN l = weakN (l.take (k + 1)) + weakN (l.drop (k + 1)) := by
          unfold weakN; rw [← List.sum_append, ← List.map_append, List.take_append_drop]
        have := HW6.out
        omega
      have hfo : (l.take (k + 1)).foldl rowsA [] = rowsA ((l.take k).foldl rowsA []) x := by rw [htk, List.foldl_append]; rfl
      have HFO := Lib.hid hfo
      have HWN := Lib.hid hwn
      obtain ⟨kd, sx, xa, xb, vx, lx⟩ := x
      simp only at e0 e1 e2 e3 e4 hen
      obtain ⟨A', cp', rfl, _, _, _⟩ := hen.form
      have hent : Ents w.heap.size wr (.slice A' lx.length cp') lx := ⟨Rd.mono hen.1 hB, hen.2⟩
      have HDO := Lib.hid (do_any w.heap.size q p k (weakN (l.take k)) c s F kd sx xa xb _ lx wr hst.out hent (by omega) (by rw [← hwn]; exact hw1))
      have d0 := (hbl.out.cell (p := ⟨b, o + k * 5, none⟩) hb).trans e0
      have d1 := (hbl.out.cell (p := ⟨b, o + k * 5 + 1, none⟩) hb).trans e1
      have d2 := (hbl.out.cell (p := ⟨b, o + k * 5 + 2, none⟩) hb).trans e2
      have d3 := (hbl.out.cell (p := ⟨b, o + k * 5 + 3, none⟩) hb).trans e3
      have d4 := (hbl.out.cell (p := ⟨b, o + k * 5 + 4, none⟩) hb).trans e4
      have g1 : (0 : Int) ≤ (k : Int) := by omega
      have g2 : (k : Int) < (l.length : Int) := by omega
      clear hx htk e0 e1 e2 e3 e4 hen hent hwn hfo hw1
      go_wp2_with fail
      refine HDO.out.mono ?_
      rintro e w5 ⟨c5, s5, F5, rfl, hs5, hr5, hF5, hf5⟩
      have HNX : Hid (StS w.heap.size w5 q p (k + 1) (weakN (l.take (k + 1))) c5 s5 F5 ∧ s5.rows = (l.take (k + 1)).foldl rowsA [] ∧ (∀ b ∈ F5, w.heap.size ≤ b) ∧ Below w.heap.size w w5) := by
        refine ⟨by rw [HWN.out]; exact hs5, by rw [hr5, HFO.out, hrw.out], fun b hb => ?_, FrQ.below hbl.out (Nat.le_refl _) hf5⟩
        rcases hF5 b hb with h | h
        · exact hF.out b h
        · exact Nat.le_trans hbl.out.size h
      clear hs5 hr5 hF5 hf5 HDO d0 d1 d2 d3 d4
      go_wp2_with fail
      go_roundw
      case rel => exact ⟨k + 1, c5, s5, F5, by go_num, by omega, HNX.out⟩
      case measure => simp [intOf] <;> omega
    · obtain rfl : k = l.length := by omega
      rw [List.take_length] at hst hrw
      have t27 : decide ((l.length : Int) < (l.length : Int)) = false := by simp
      go_wp2_with fail
      exact FIN1.out _ _ p q HG.out ⟨c, s, F, hst.out, hrw.out, hF.out, hpw, hbl.out⟩ rfl rfl rfl
/-- What a key is told, by the rows. -/
def toldR (r : List Ent) (key : ByteArray) : Value := .tuple #[.string ((getE r key).getD Ent.zero).v, .bool (getE r key).isSome, .nilIface]
theorem told_rows {c : Chip} {s : SM} (hi : Inv c s) (key : ByteArray) : toldV (s.get key) = toldR s.rows key := by
  unfold toldR
  rw [SM.get_rows hi]
  cases hg : s.get key with
  | none => rfl
  | some e =>
    cases heg : e.g
    · have e1 : (some e : Option Ent).filter (fun e => !e.g) = some e := by simp [heg]
      rw [e1]
      show Value.tuple #[.string e.v, .bool (true && !e.g), .nilIface] = .tuple #[.string e.v, .bool true, .nilIface]
      rw [heg]; rfl
    · have e1 : (some e : Option Ent).filter (fun e => !e.g) = none := by simp [heg]
      rw [e1]
      have hf : faultE e = 0 := by
        unfold SM.get at hg
        cases hm : getE s.mem key with
        | some x =>
          rw [hm] at hg
          cases hg
          obtain ⟨es, hlog⟩ := hi.body.log
          exact hlog.fault e (getE_mem hm).1
        | none =>
          rw [hm] at hg
          have hg : firstE s.tabs key = some e := hg
          unfold firstE at hg
          obtain ⟨l, hl, he⟩ := List.exists_of_findSome?_eq_some hg
          exact chkT_all (tabF_parts (tabsAt_ok hi.body.tabs l hl)).2.2 e (getE_mem he).1
      have hv : e.v = ByteArray.empty := by
        have h1 := (faultE_zero hf).2.1 heg
        rw [← toList_inj, h1]
        exact ((toList_nil ByteArray.empty).2 rfl).symm
      show Value.tuple #[.string e.v, .bool (true && !e.g), .nilIface] = .tuple #[.string ByteArray.empty, .bool false, .nilIface]
      rw [heg, hv]; rfl
abbrev wK : ByteArray := ⟨#[107]⟩
abbrev wX : ByteArray := ⟨#[120]⟩
theorem wkx_check : checkR [] [⟨wK, wX, false⟩] = 0 := by decide +kernel
theorem wkx_get : getE (rowsW [] [⟨wK, wX, false⟩]) wK = some ⟨wK, wX, false⟩ := by
  rw [rowsW, if_pos wkx_check]
  simp [putE, below, liveE, getE]
set_option maxRecDepth 20000 in
set_option maxHeartbeats 4000000 in
theorem works_any (w : World) : Calls Try.prog 6 #[] w fun e w' => e = .returned (.bool true) ∧ Below w.heap.size w w' := by
  have HST := Lib.hid (stored_any w)
  go_enter Try.func6, Try.ntmps6
  go_wp2_with (go_at_call 16; refine HST.out.mono ?_; rintro e w3 ⟨p, q, c, s, F, rfl, hst, hrw, hpw, hFw, hb3⟩)
  have hb4 : Below w3.heap.size w3 (w3.alloc (.cells #[.string wK, .string wX, .bool false] 34)) := (Below.refl _ _).alloc (Nat.le_refl _) _
  have hst4 := hst.below hb4
  have HB4 : Hid (Below w.heap.size w (w3.alloc (.cells #[.string wK, .string wX, .bool false] 34))) := hb3.trans (hb4.mono hb3.size)
  have hen : Ents w.heap.size (w3.alloc (.cells #[.string wK, .string wX, .bool false] 34)) (.slice (some ⟨w3.heap.size, 0, none⟩) 1 1) [⟨wK, wX, false⟩] := ⟨rd_lit3 _ w3 _ rfl wK wX false, by intro e he; simp at he; subst he; exact ⟨by decide, by decide⟩⟩
  obtain ⟨c1, s1, e1, g1, r1⟩ := write_good hst.ok (by omega) [⟨wK, wX, false⟩]
  rw [hrw, wkx_check] at e1
  rw [hrw] at r1
  have hw1 := write_any w.heap.size q p c s F _ [⟨wK, wX, false⟩] (w3.alloc (.cells #[.string wK, .string wX, .bool false] 34)) hst4.st hst4.ch hst4.ok.inv hen (by have := hst.ok.ep; omega)
  rw [e1] at hw1
  have HW1 := Lib.hid hw1
  have HG1 := Lib.hid g1
  have HR1 := Lib.hid r1
  clear hst hrw hFw hb3 hb4 hst4 hen e1 r1 g1 hw1 HST
  refine HW1.out.mono ?_
  rintro e w5 ⟨rfl, hr⟩
  obtain ⟨F5, hs5, hF5, hf5⟩ := StS.post (k := 0) (j := 0) (c := c) (s := s) (n := 0) ⟨rfl, hr⟩ HG1.out
  have HB5 : Hid (Below w.heap.size w w5) := FrQ.below HB4.out (Nat.le_refl _) hf5
  obtain ⟨c2, s2, e2, g2, r2, _⟩ := flush_good HG1.out (by omega)
  have hw2 := flush_any w.heap.size q p c1 s1 F5 w5 hs5.st hs5.ch hs5.ok.inv (by have := hs5.ok.ep; omega)
  rw [e2] at hw2
  have HW2 := Lib.hid hw2
  have HG2 := Lib.hid g2
  have HR2 : Hid (s2.rows = rowsW [] [⟨wK, wX, false⟩]) := r2.trans HR1.out
  clear hr hs5 hF5 hf5 e2 g2 r2 hw2 HW1
  simp only
  rw [show errV 0 = Value.nilIface from rfl]
  go_wp2_with fail
  refine HW2.out.mono ?_
  rintro e w6 ⟨rfl, hr⟩
  obtain ⟨F6, hs6, hF6, hf6⟩ := StS.post (k := 0) (j := 0) (c := c1) (s := s1) (n := 0) ⟨rfl, hr⟩ HG2.out
  have HB6 : Hid (Below w.heap.size w w6) := FrQ.below HB5.out (Nat.le_refl _) hf6
  have HOP := Lib.hid (open_any w.heap.size p c2 s2 w6 hs6.ch hs6.ok.inv)
  have HS6 := Lib.hid hs6
  clear hr hs6 hF6 hf6 HW2
  simp only
  rw [show errV 0 = Value.nilIface from rfl]
  go_wp2_with fail
  refine HOP.out.mono ?_
  rintro e w7 ⟨q2, F7, rfl, hs7, hb7, hq7, hF7⟩
  have hge := sget_any w.heap.size q2 p c2 s2 F7 wK w7 hs7 (HS6.out.ch.below hb7) HS6.out.ok.inv (by decide)
  rw [told_rows HS6.out.ok.inv, HR2.out] at hge
  unfold toldR at hge
  rw [wkx_get] at hge
  have HGE : Hid (Calls Try.prog 18 #[.pointer (some ⟨q2, 0, none⟩), .string wK] w7 fun e w' => e = .returned (.tuple #[.string wX, .bool true, .nilIface]) ∧ Below w7.heap.size w7 w') := hge
  have HB7 := Lib.hid (HB6.out.trans (hb7.mono HB6.out.size))
  clear hs7 hb7 hq7 hF7 hge HOP
  go_wp2_with fail
  refine HGE.out.mono ?_
  rintro e w8 ⟨rfl, hb8⟩
  have HB8 := Lib.hid (HB7.out.trans (hb8.mono HB7.out.size))
  clear hb8 HGE
  go_wp2_with fail
  go_ret
  exact ⟨by simp, HB8.out⟩
end Go.Proofs.Ytaepdbkfaoiimad
/- What the statements about a filled store share. Conditions: none but those that each names. -/
set_option linter.unusedVariables false
set_option linter.unusedSimpArgs false
namespace Go.Proofs.Ytaepdbkfaoiimad
open Go.RowKit
theorem fil_no {l : List Act} (hg : filG l = false) {W : World} {n : Nat} {args : Array Value} (h : Calls Try.prog n args W (FilP W l)) : Calls Try.prog n args W fun e w' => e = .returned (.tuple #[.pointer none, .pointer none, .bool false]) ∧ W = w' :=
  h.mono fun e w' hp => by
    rcases hp with ⟨_, h⟩ | ⟨h, _⟩
    · exact h
    · rw [hg] at h; cases h
theorem fil_yes {l : List Act} (hg : filG l = true) {W : World} {n : Nat} {args : Array Value} (h : Calls Try.prog n args W (FilP W l)) : Calls Try.prog n args W fun e w' => ∃ p q, e = .returned (.tuple #[.pointer (some ⟨p, 0, none⟩), .pointer (some ⟨q, 0, none⟩), .bool true]) ∧ FilS W l p q w' :=
  h.mono fun e w' hp => by
    rcases hp with ⟨h, _⟩ | ⟨_, h⟩
    · rw [hg] at h; cases h
    · exact h
theorem filG_len {l : List Act} (h : filG l = true) : l.length ≤ 80 := by
  unfold filG lightA at h
  simp at h
  omega
theorem rows_alive (s : SM) : ∀ e ∈ s.rows, e.g = false := by
  intro e he
  have := (List.mem_filter.1 (show e ∈ (mergeAll (s.mem :: s.tabs)).filter (fun e => !e.g) from he)).2
  simpa using this
theorem getE_alive {l : List Ent} (h : ∀ e ∈ l, e.g = false) (key : ByteArray) : (getE l key).filter (fun e => !e.g) = getE l key := by
  cases hg : getE l key with
  | none => rfl
  | some e => simp [h e (getE_mem hg).1]
theorem get_rowsW {r l : List Ent} (hr : Rises r) (ha : ∀ e ∈ r, e.g = false) (h0 : checkR r l = 0) (key : ByteArray) : getE (rowsW r l) key = ((lastE l key).or (getE r key)).filter (fun e => !e.g) := by
  rw [rowsW, if_pos h0, get_live (rises_puts l hr), get_puts l hr]
theorem get_others {r l : List Ent} (hr : Rises r) (ha : ∀ e ∈ r, e.g = false) {key : ByteArray} (hk : ∀ e ∈ l, e.k ≠ key) : getE (rowsW r l) key = getE r key := by
  by_cases h0 : checkR r l = 0
  · rw [get_rowsW hr ha h0]
    have : lastE l key = none := by
      unfold lastE getE
      rw [List.find?_eq_none]
      intro e he
      have := hk e (List.mem_reverse.1 he)
      simpa using this
    rw [this, Option.none_or, getE_alive ha]
  · rw [rowsW, if_neg h0]
theorem ents_up {B B' : Nat} {w : World} {v : Value} {l : List Ent} (h : Ents B w v l) (hB : B ≤ B') : Ents B' w v l := ⟨Rd.mono h.1 hB, h.2⟩
theorem acts_below {B : Nat} {w w' : World} {v : Value} {l : List Act} (h : ActsR B w v l) (hb : Below w.heap.size w w') : ActsR B w' v l := ⟨h.1.keep fun k hk hlt => hb.block k hlt, fun x hx => ⟨(h.2 x hx).1.below hb, (h.2 x hx).2⟩⟩
section
variable {B q p k j : Nat} {c : Chip} {s : SM} {F : List Nat} {w : World}
theorem get_st (h : StS B w q p k j c s F) (key : ByteArray) (hk : key.size ≤ 9223372036854775807) : Calls Try.prog 18 #[.pointer (some ⟨q, 0, none⟩), .string key] w fun e w' =>
    e = .returned (.tuple #[.string ((getE s.rows key).getD Ent.zero).v, .bool (getE s.rows key).isSome, .nilIface]) ∧ StS B w' q p k j c s F ∧ Below w.heap.size w w' := by
  have := sget_any B q p c s F key w h.st h.ch h.ok.inv hk
  rw [told_rows h.ok.inv] at this
  exact this.mono fun e w' ⟨h1, h2⟩ => ⟨h1, h.below h2, h2⟩
theorem rows_st (h : StS B w q p k j c s F) : Calls Try.prog 8 #[.pointer (some ⟨q, 0, none⟩)] w fun e w' => ∃ v, e = .returned v ∧ Ents B w' v s.rows ∧ StS B w' q p k j c s F ∧ Below w.heap.size w w' :=
  (rows_any B q p k j c s F w h).mono fun e w' ⟨v, h1, h2, h3⟩ => ⟨v, h1, h2, h.below h3, h3⟩
theorem write_st (h : StS B w q p k j c s F) (hk : k ≤ 1000) {v : Value} {l : List Ent} (hl : Ents B w v l) : Calls Try.prog 9 #[.pointer (some ⟨q, 0, none⟩), v] w (DoP B q p (k + 1) j F w (rowsW s.rows l) (checkR s.rows l)) := by
  obtain ⟨c1, s1, e1, g1, r1⟩ := write_good h.ok hk l
  have hw := write_any B q p c s F v l w h.st h.ch h.ok.inv hl (by have := h.ok.ep; omega)
  rw [e1] at hw
  refine hw.mono ?_
  intro e w' hp
  obtain ⟨F', hs, hF, hf⟩ := StS.post (k := k) (j := j) (c := c) (s := s) hp g1
  exact ⟨c1, s1, F', hp.1, hs, r1, hF, hf⟩
theorem DoP.st {k' j' n : Nat} {r : List Ent} {w0 w' : World} {e : Ending} (hb : Below B w0 w) (hB : B ≤ w0.heap.size) (h : DoP B q p k' j' F w r n e w') : ∃ c' s' F', e = .returned (errV n) ∧ StS B w' q p k' j' c' s' F' ∧ s'.rows = r ∧ Below B w0 w' := by
  obtain ⟨c', s', F', h1, h2, h3, h4, h5⟩ := h
  exact ⟨c', s', F', h1, h2, h3, FrQ.below hb hB h5⟩
theorem StS.rise (h : StS B w q p k j c s F) : Rises s.rows := rows_rise h.ok.inv
end
end Go.Proofs.Ytaepdbkfaoiimad
