/- Several texts of this proof, one behind the other: walks and plain laws that the statement rests on. Conditions: none but those that each lemma names. -/
import Derived.Test.YtaepdbkfaoiimabGreatDoorGk
import Derived.Test.YtaepdbkfaoiimabGreatDoorGf
import Derived.Test.YtaepdbkfaoiimabGreatDoorShelf
import Derived.Test.YtaepdbkfaoiimabGreatDoorGh
/- The contract of store.Open. Conditions: the chip has a store. -/
set_option linter.unusedVariables false
set_option linter.unusedSimpArgs false
namespace Go.Proofs.YtaepdbkfaoiimabGreatDoor
open Go.RowKit
attribute [local go_sem ↓] eql_err eql_nilerr neq_err neq_nilerr guard_err guard_nilerr guardn_err guardn_nilerr
theorem Fr.off {B n : Nat} {M : Nat → Prop} {w w' : World} (h : Fr B M w w') (hM : ∀ b, M b → n ≤ b) (hn : n ≤ w.heap.size) : Below n w w' :=
  ⟨h.os, h.tape, h.output, h.size, fun k hk => h.block k (Nat.lt_of_lt_of_le hk hn) (.inr (.inl fun hm => by have := hM k hm; omega))⟩
theorem findR_ok {c : Chip} {s : SM} (hi : Inv c s) : findR c = (s.m, s.at_, 0) := by
  unfold findR
  rw [hi.up, if_neg (by simp), hi.head.find, if_neg (by have := hi.head.at_; simp only; omega)]
/-- A page of the log is read. -/
theorem log_read {c : Chip} {b i : Nat} {x : Sheet} (hd : c.down = false) (hb : b < 24) (hi : i < 8) (hx : (c.b b).l[i]? = some x) : c.read b i = if x.t then (ByteArray.empty, 4) else (x.d, 0) := by
  unfold Chip.read
  rw [hd, if_neg (by simp), if_neg (by omega), Int.toNat_natCast, Int.toNat_natCast, hx]
theorem logE_drop {l : List Sheet} {i : Nat} {x : Sheet} {es : List Ent} (hx : l[i]? = some x) (h : logE (l.drop i) = some es) :
    (x.t = true ∧ logE (l.drop (i + 1)) = some es) ∨ (x.t = false ∧ ∃ a b, parseR x.d = some a ∧ logE (l.drop (i + 1)) = some b ∧ es = a ++ b) := by
  have hk : i < l.length := by
    rcases Nat.lt_or_ge i l.length with h' | h'
    · exact h'
    · rw [List.getElem?_eq_none h'] at hx; cases hx
  rw [List.drop_eq_getElem_cons hk] at h
  rw [List.getElem?_eq_getElem hk] at hx
  cases hx
  unfold logE at h
  split at h
  · rename_i ht; exact .inl ⟨ht, h⟩
  · rename_i ht
    right
    refine ⟨by simpa using ht, ?_⟩
    cases hp : parseR l[i].d with
    | none => rw [hp] at h; simp at h
    | some a =>
      cases hl : logE (l.drop (i + 1)) with
      | none => rw [hp, hl] at h; simp at h
      | some b =>
        rw [hp, hl] at h
        exact ⟨a, b, rfl, rfl, (Option.some.inj h).symm⟩
set_option maxRecDepth 20000 in
set_option maxHeartbeats 8000000 in
theorem open_any (B : Nat) (p : Nat) (c : Chip) (s : SM) (w : World) (hc : ChipR B w p c) (hi : Inv c s) :
    Calls Tryz.prog 24 #[.pointer (some ⟨p, 0, none⟩)] w fun e w' => ∃ q F, e = .returned (.tuple #[.pointer (some ⟨q, 0, none⟩), .nilIface]) ∧ StoreR B w' q p s F ∧ Below w.heap.size w w' ∧ w.heap.size ≤ q ∧ ∀ b ∈ F, w.heap.size ≤ b := by
  have fin : ∀ (wr : World) (tmps : Array Value) (q : Nat) (F : List Nat), StoreR B wr q p s F → Below w.heap.size w wr → w.heap.size ≤ q → (∀ b ∈ F, w.heap.size ≤ b) → tmps[2]? = some (.pointer (some ⟨q, 0, none⟩)) → tmps[3]? = some .nilIface →
      bodyPost Tryz.prog Tryz.f24 (fun e w' => ∃ q F, e = .returned (.tuple #[.pointer (some ⟨q, 0, none⟩), .nilIface]) ∧ StoreR B w' q p s F ∧ Below w.heap.size w w' ∧ w.heap.size ≤ q ∧ ∀ b ∈ F, w.heap.size ≤ b) .ret { tmps := tmps, defers := [] } wr := by
    intro wr tmps q F h1 h2 h3 h4 t2 t3
    exact bodyPost_ret (v := .tuple #[.pointer (some ⟨q, 0, none⟩), .nilIface]) (by simp [results, Tryz.results24, go_sem, t2, t3]) rfl ⟨q, F, rfl, h1, h2, h3, h4⟩
  have FIN := Lib.hid fin
  clear fin
  have hpw := hc.lt
  have hBp : B ≤ p := by obtain ⟨V, u, hv, _⟩ := hc; exact hv.base
  have hn5 := hi.body.nwl
  have ho3 := hi.body.odl
  have hml := Fallen.mem_len hi
  have hrng := hi.body.rng
  have HUP := Lib.hid hi.up
  have HTB := Lib.hid hi.body.tabs
  have HWF := Lib.hid hi.wf
  have HCR := Lib.hid hc
  obtain ⟨es, hlog⟩ := hi.body.log
  have hlr := hrng s.m.log (by simp [Man.all])
  have hlog8 := hi.wf.len s.m.log.toNat (by omega)
  have hesl := hlog.few
  have HLG := Lib.hid hlog
  have HRN : Hid (∀ b ∈ s.m.nw ++ s.m.od, 2 ≤ b ∧ b < 24) := fun b hb => hrng b (by simp only [Man.all, List.mem_cons]; exact .inr hb)
  have hbl : (s.m.nw ++ s.m.od).length ≤ 8 := by rw [List.length_append]; omega
  obtain ⟨bs, hbs⟩ : ∃ bs, bs = s.m.nw ++ s.m.od := ⟨_, rfl⟩
  rw [← hbs] at HTB HRN hbl
  have HBS := Lib.hid hbs
  have hfd := find_any B p c w hc
  rw [findR_ok hi, show errV ((s.m, s.at_, 0) : Man × Int × Nat).2.2 = Value.nilIface from rfl] at hfd
  have HFD := Lib.hid hfd
  clear hrng hi hc hlog hbs hfd
  go_enter Tryz.func24, Tryz.ntmps24
  go_wp2_with fail
  refine HFD.out.mono ?_
  rintro e w1 ⟨v1, rfl, ⟨vn, vo, rfl, hn, ho⟩, hb1⟩
  simp only at hn ho ⊢
  obtain ⟨A1, c1, rfl, _, _, _⟩ := hn.form
  obtain ⟨A2, c2, rfl, _, _, _⟩ := ho.form
  have hs1 := hb1.size
  have hbA : Below w1.heap.size w1 (w1.alloc (.cells #[.int .i64 s.m.ep, .int .i64 s.m.log, .slice A1 s.m.nw.length c1, .slice A2 s.m.od.length c2] 74)).drew := ((Below.refl _ _).alloc (Nat.le_refl _) _).drew
  have HB2 : Hid (Below w.heap.size w (w1.alloc (.cells #[.int .i64 s.m.ep, .int .i64 s.m.log, .slice A1 s.m.nw.length c1, .slice A2 s.m.od.length c2] 74)).drew) := hb1.trans (hbA.mono hs1)
  have HM2 : Hid (Blk (w1.alloc (.cells #[.int .i64 s.m.ep, .int .i64 s.m.log, .slice A1 s.m.nw.length c1, .slice A2 s.m.od.length c2] 74)).drew w1.heap.size 74 #[.int .i64 s.m.ep, .int .i64 s.m.log, .slice A1 s.m.nw.length c1, .slice A2 s.m.od.length c2]) := (Blk.new w1 _ _).drewN 1
  have HN2 := Lib.hid (hn.below hbA)
  have HO2 := Lib.hid (ho.below hbA)
  have hsz2 : (w1.alloc (.cells #[.int .i64 s.m.ep, .int .i64 s.m.log, .slice A1 s.m.nw.length c1, .slice A2 s.m.od.length c2] 74)).drew.heap.size = w1.heap.size + 1 := by simp
  have HNEW := Lib.hid (tnew_any B (w1.alloc (.cells #[.int .i64 s.m.ep, .int .i64 s.m.log, .slice A1 s.m.nw.length c1, .slice A2 s.m.od.length c2] 74)).drew (by rw [hsz2]; omega))
  have HZ : Hid (∀ {w'}, Below (w1.heap.size + 1) (w1.alloc (.cells #[.int .i64 s.m.ep, .int .i64 s.m.log, .slice A1 s.m.nw.length c1, .slice A2 s.m.od.length c2] 74)).drew w' → w'.cell? ⟨w1.heap.size, 0, none⟩ = some (.int .i64 s.m.ep) ∧ w'.cell? ⟨w1.heap.size, 1, none⟩ = some (.int .i64 s.m.log) ∧ w'.cell? ⟨w1.heap.size, 2, none⟩ = some (.slice A1 s.m.nw.length c1) ∧ w'.cell? ⟨w1.heap.size, 3, none⟩ = some (.slice A2 s.m.od.length c2)) := by
    intro w' hb
    have a := HM2.out.below hb (by omega)
    have a0 := a.cell 0
    have a1 := a.cell 1
    have a2 := a.cell 2
    have a3 := a.cell 3
    simp at a0 a1 a2 a3
    exact ⟨a0, a1, a2, a3⟩
  rw [hsz2] at HNEW
  clear hn ho hb1 hbA HFD
  go_wp2_with fail
  go_region_held3 (fun w' => w'.cell? ⟨w1.heap.size, 0, none⟩ = some (.int .i64 s.m.ep) ∧ w'.cell? ⟨w1.heap.size, 1, none⟩ = some (.int .i64 s.m.log) ∧ w'.cell? ⟨w1.heap.size, 2, none⟩ = some (.slice A1 s.m.nw.length c1) ∧ w'.cell? ⟨w1.heap.size, 3, none⟩ = some (.slice A2 s.m.od.length c2))
    ((first | exact HZ.out (Below.refl _ _) | exact HZ.out hb3 | exact HZ.out hb4))
    ((first | (go_at_call 48; refine HNEW.out.mono ?_; rintro d w3 ⟨⟨rfl, hT3⟩, hb3⟩; have hb4 := hb3.alloc (Nat.le_of_lt (by have := hT3.lt _ List.mem_cons_self; omega)) (.cells #[.pointer (some ⟨p, 0, none⟩), .int .i64 s.m.ep, .int .i64 s.m.log, .slice A1 s.m.nw.length c1, .slice A2 s.m.od.length c2, .int .i64 s.at_, .pointer (some ⟨w1.heap.size + 1, 0, none⟩), .int .i64 0] 102))))
  have hs3 : w1.heap.size + 1 < w3.heap.size := hT3.lt _ List.mem_cons_self
  have hW : Below w3.heap.size w3 (w3.alloc (.cells #[.pointer (some ⟨p, 0, none⟩), .int .i64 s.m.ep, .int .i64 s.m.log, .slice A1 s.m.nw.length c1, .slice A2 s.m.od.length c2, .int .i64 s.at_, .pointer (some ⟨w1.heap.size + 1, 0, none⟩), .int .i64 0] 102)) := (Below.refl _ _).alloc (Nat.le_refl _) _
  have HS4 : Hid (StoreR B (w3.alloc (.cells #[.pointer (some ⟨p, 0, none⟩), .int .i64 s.m.ep, .int .i64 s.m.log, .slice A1 s.m.nw.length c1, .slice A2 s.m.od.length c2, .int .i64 s.at_, .pointer (some ⟨w1.heap.size + 1, 0, none⟩), .int .i64 0] 102)) w3.heap.size p ⟨s.m, s.at_, [], s.tabs⟩ [w1.heap.size + 1]) := by
    have h3 : Below (w1.heap.size + 1) (w1.alloc (.cells #[.int .i64 s.m.ep, .int .i64 s.m.log, .slice A1 s.m.nw.length c1, .slice A2 s.m.od.length c2] 74)).drew (w3.alloc (.cells #[.pointer (some ⟨p, 0, none⟩), .int .i64 s.m.ep, .int .i64 s.m.log, .slice A1 s.m.nw.length c1, .slice A2 s.m.od.length c2, .int .i64 s.at_, .pointer (some ⟨w1.heap.size + 1, 0, none⟩), .int .i64 0] 102)) := hb4
    have e : (w1.alloc (.cells #[.int .i64 s.m.ep, .int .i64 s.m.log, .slice A1 s.m.nw.length c1, .slice A2 s.m.od.length c2] 74)).drew.heap.size = w1.heap.size + 1 := by simp
    exact ⟨A1, c1, A2, c2, w1.heap.size + 1, 0, Blk.new w3 _ _, HN2.out.below (by rw [e]; exact h3), HO2.out.below (by rw [e]; exact h3), hT3.below hW, by omega, by simp; omega⟩
  have HB4 : Hid (Below w.heap.size w (w3.alloc (.cells #[.pointer (some ⟨p, 0, none⟩), .int .i64 s.m.ep, .int .i64 s.m.log, .slice A1 s.m.nw.length c1, .slice A2 s.m.od.length c2, .int .i64 s.at_, .pointer (some ⟨w1.heap.size + 1, 0, none⟩), .int .i64 0] 102))) := HB2.out.trans (hb4.mono (by omega))
  have HM4 : Hid (Blk (w3.alloc (.cells #[.pointer (some ⟨p, 0, none⟩), .int .i64 s.m.ep, .int .i64 s.m.log, .slice A1 s.m.nw.length c1, .slice A2 s.m.od.length c2, .int .i64 s.at_, .pointer (some ⟨w1.heap.size + 1, 0, none⟩), .int .i64 0] 102)) w1.heap.size 74 #[.int .i64 s.m.ep, .int .i64 s.m.log, .slice A1 s.m.nw.length c1, .slice A2 s.m.od.length c2]) := HM2.out.below hb4 (by omega)
  have HI4 : Hid (Ints B (w3.alloc (.cells #[.pointer (some ⟨p, 0, none⟩), .int .i64 s.m.ep, .int .i64 s.m.log, .slice A1 s.m.nw.length c1, .slice A2 s.m.od.length c2, .int .i64 s.at_, .pointer (some ⟨w1.heap.size + 1, 0, none⟩), .int .i64 0] 102)) (.slice A1 s.m.nw.length c1) s.m.nw ∧ Ints B (w3.alloc (.cells #[.pointer (some ⟨p, 0, none⟩), .int .i64 s.m.ep, .int .i64 s.m.log, .slice A1 s.m.nw.length c1, .slice A2 s.m.od.length c2, .int .i64 s.at_, .pointer (some ⟨w1.heap.size + 1, 0, none⟩), .int .i64 0] 102)) (.slice A2 s.m.od.length c2) s.m.od) := by
    have e : (w1.alloc (.cells #[.int .i64 s.m.ep, .int .i64 s.m.log, .slice A1 s.m.nw.length c1, .slice A2 s.m.od.length c2] 74)).drew.heap.size = w1.heap.size + 1 := by simp
    exact ⟨HN2.out.below (by rw [e]; exact hb4), HO2.out.below (by rw [e]; exact hb4)⟩
  have hq4 : w3.heap.size < (w3.alloc (.cells #[.pointer (some ⟨p, 0, none⟩), .int .i64 s.m.ep, .int .i64 s.m.log, .slice A1 s.m.nw.length c1, .slice A2 s.m.od.length c2, .int .i64 s.at_, .pointer (some ⟨w1.heap.size + 1, 0, none⟩), .int .i64 0] 102)).heap.size := by simp
  have hqw : w.heap.size ≤ w3.heap.size := by omega
  have hgw : w1.heap.size < w3.heap.size := by omega
  have htw : w.heap.size ≤ w1.heap.size + 1 := by omega
  generalize w3.alloc (.cells #[.pointer (some ⟨p, 0, none⟩), .int .i64 s.m.ep, .int .i64 s.m.log, .slice A1 s.m.nw.length c1, .slice A2 s.m.od.length c2, .int .i64 s.at_, .pointer (some ⟨w1.heap.size + 1, 0, none⟩), .int .i64 0] 102) = W4 at *
  generalize w3.heap.size = q at *
  clear hb3 hb4 hT3 hW HZ HNEW HB2 HM2 HN2 HO2
  have z1 := HM4.out.cell 1
  have z2 := HM4.out.cell 2
  have z3 := HM4.out.cell 3
  simp at z1 z2 z3
  have hCC : Calls Tryz.prog 49 #[.slice (some ⟨W4.heap.size, 0, none⟩) 2 2] (W4.alloc (.cells #[.slice A1 s.m.nw.length c1, .slice A2 s.m.od.length c2] 72)) fun e w5 => ∃ v5, e = .returned v5 ∧ Ints B w5 v5 bs ∧ Below W4.heap.size W4 w5 := by
    have hb : Below W4.heap.size W4 (W4.alloc (.cells #[.slice A1 s.m.nw.length c1, .slice A2 s.m.od.length c2] 72)) := (Below.refl _ _).alloc (Nat.le_refl _) _
    refine (concat_rd B _ _ _ s.m.nw s.m.od _ (Blk.new W4 72 #[.slice A1 s.m.nw.length c1, .slice A2 s.m.od.length c2]) (HI4.out.1.below hb) (HI4.out.2.below hb) (by omega) (by omega)).mono ?_
    rintro e w5 ⟨v5, h1, h2, h3⟩
    rw [HBS.out]
    exact ⟨v5, h1, h2, hb.trans (h3.mono (by simp))⟩
  have HCC := Lib.hid hCC
  clear hCC HI4
  go_wp2_with fail
  refine HCC.out.mono ?_
  rintro e w5 ⟨v5, rfl, hi5, hb5⟩
  obtain ⟨A5, c5, rfl, _, _, _⟩ := hi5.form
  have HS5 := Lib.hid (HS4.out.below hb5)
  have HM5 := Lib.hid (HM4.out.below hb5 HM4.out.lt)
  have HB5 := Lib.hid (HB4.out.trans (hb5.mono HB4.out.size))
  have HI5 := Lib.hid hi5
  clear hi5 hb5 HS4 HM4 HB4 HCC z1 z2 z3 hq4
  go_wp2_with fail
  go_loopw [38] (fun i wr => ∃ k : Nat, k ≤ bs.length ∧ i = .int .i64 (k : Int) ∧ Hid (StoreR B wr q p ⟨s.m, s.at_, [], s.tabs⟩ [w1.heap.size + 1]) ∧ Hid (Blk wr w1.heap.size 74 #[.int .i64 s.m.ep, .int .i64 s.m.log, .slice A1 s.m.nw.length c1, .slice A2 s.m.od.length c2]) ∧ Hid (Ints B wr (.slice A5 bs.length c5) bs) ∧ Below w.heap.size w wr) (fun i _ => bs.length - (intOf i).toNat)
  case atStart => exact ⟨0, Nat.zero_le _, rfl, HS5.out, HM5.out, HI5.out, HB5.out⟩
  case round =>
    obtain ⟨k, hk, rfl, hs, hm, hi, hbl5⟩ := hrel
    clear HS5 HM5 HI5 HB5
    by_cases hlt : k < bs.length
    · obtain ⟨b, hb, _, _⟩ := getElem?_of_lt hlt
      obtain ⟨l, hl, htab⟩ := tabsAt_at HTB.out k b hb
      have hbr := HRN.out b (List.mem_of_getElem? hb)
      obtain ⟨bn, rfl⟩ := Int.eq_ofNat_of_zero_le (show 0 ≤ b by omega)
      rw [Int.toNat_natCast] at htab
      obtain ⟨A4, c4, e4, _, _, hcell⟩ := hi.out.form
      obtain ⟨bb, oo, rfl, hbb, y1⟩ := hcell k _ hb
      cases e4
      have HT := Lib.hid (taball_any B p bn c l wr (HCR.out.below hbl5) (by omega) HUP.out htab)
      have HBL := Lib.hid hbl5
      have g1 : (0 : Int) ≤ (k : Int) := by omega
      have g2 : (k : Int) < (bs.length : Int) := by omega
      clear hb hl htab hcell hbr hbl5
      go_wp2_with fail
      refine HT.out.mono ?_
      rintro e6 w6 ⟨v6, rfl, hv6, hb6⟩
      have HS6 := Lib.hid (hs.out.below hb6)
      have HM6 := Lib.hid (hm.out.below hb6 hm.out.lt)
      have HI6 := Lib.hid (hi.out.below hb6)
      have HB6 := Lib.hid (HBL.out.trans (hb6.mono HBL.out.size))
      clear hv6 hb6 HT
      go_wp2_with fail
      go_roundw
      case rel => exact ⟨k + 1, by omega, by go_num, HS6, HM6, HI6, HB6.out⟩
      case measure => simp [intOf] <;> omega
    · have g2 : decide ((k : Int) < (bs.length : Int)) = false := decide_eq_false (by omega)
      have hnx := next_any B p c s.m.log wr (HCR.out.below hbl5) (by omega) (by omega)
      have HRD : Hid (∀ (i : Nat) (x : Sheet), i < 8 → (c.b s.m.log.toNat).l[i]? = some x → c.read s.m.log i = if x.t then (ByteArray.empty, 4) else (x.d, 0)) := fun i x h1 h2 => by
        have := log_read HUP.out (b := s.m.log.toNat) (by omega) h1 h2
        rw [Int.toNat_of_nonneg (by omega)] at this
        exact this
      have HSZ : Hid (∀ x ∈ (c.b s.m.log.toNat).l, x.t = false → x.d.size = 64) := HWF.out.size s.m.log.toNat (by omega)
      have HL0 : Hid (logE (c.b s.m.log.toNat).l = some es) := HLG.out.read
      have HLM : Hid (s.mem = es.foldl putE []) := HLG.out.mem
      generalize (c.b s.m.log.toNat).l = sh at *
      have HNX := Lib.hid hnx
      have z1 := hm.out.cell 1
      simp at z1
      have HBL := Lib.hid hbl5
      clear hnx hbl5 hi
      go_wp2_with fail
      refine HNX.out.mono ?_
      rintro e6 w6 ⟨rfl, rfl⟩
      go_wp2_with fail
      obtain ⟨wo, rfl⟩ : ∃ wo : World, wo = wr := ⟨_, rfl⟩
      go_loopw [56] (fun i wr => ∃ (k : Nat) (F' : List Nat) (es1 es2 : List Ent), k ≤ sh.length ∧ i = .int .i64 (k : Int) ∧ Hid (StoreR B wr q p ⟨s.m, s.at_, es1.foldl putE [], s.tabs⟩ F') ∧ Hid (es = es1 ++ es2 ∧ logE (sh.drop k) = some es2) ∧ Hid (∀ b ∈ F', w.heap.size ≤ b) ∧ Hid (Blk wr w1.heap.size 74 #[.int .i64 s.m.ep, .int .i64 s.m.log, .slice A1 s.m.nw.length c1, .slice A2 s.m.od.length c2]) ∧ Below w.heap.size w wr) (fun i _ => sh.length - (intOf i).toNat)
      case atStart => exact ⟨0, _, [], es, Nat.zero_le _, rfl, hs.out, ⟨rfl, HL0.out⟩, by intro b hb; simp at hb; omega, hm.out, HBL.out⟩
      case round =>
        obtain ⟨k, F', es1, es2, hk8, rfl, hs2, he, hF, hm2, hbl6⟩ := hrel
        clear hs hm HBL hlt
        by_cases hlt : k < sh.length
        · obtain ⟨x, hx, _, _⟩ := getElem?_of_lt hlt
          have hrd := HRD.out k x (by omega) hx
          have hcr := cread_any B p c s.m.log (k : Int) wr (HCR.out.below hbl6)
          have z1 := hm2.out.cell 1
          simp at z1
          have g2 : decide ((k : Int) < (sh.length : Int)) = true := decide_eq_true (by omega)
          have HB6 := Lib.hid hbl6
          rcases logE_drop hx he.out.2 with ⟨ht, hd⟩ | ⟨ht, a, b, hp, hd, hab⟩
          · rw [hrd, if_pos ht, show errV ((ByteArray.empty, 4) : ByteArray × Nat).2 = .iface 39 (.int .i64 4) from rfl] at hcr
            have HR := Lib.hid hcr
            have HE : Hid (es = es1 ++ es2 ∧ logE (sh.drop (k + 1)) = some es2) := ⟨he.out.1, hd⟩
            clear hx hrd hcr ht hd hbl6
            go_wp2_with fail
            refine HR.out.mono ?_
            rintro e7 w7 ⟨rfl, rfl⟩
            go_wp2_with fail
            go_roundw
            case rel => exact ⟨k + 1, F', es1, es2, by omega, by go_num, hs2, HE, hF, hm2, HB6.out⟩
            case measure => simp [intOf] <;> omega
          · have hxs := HSZ.out x (List.mem_of_getElem? hx) ht
            rw [hrd, if_neg (by rw [ht]; simp), show errV ((x.d, 0) : ByteArray × Nat).2 = .nilIface from rfl] at hcr
            have hpa := parse_any B x.d wr (by omega)
            have hpe : perr x.d = 0 := by unfold perr; rw [hp]; rfl
            rw [hpe, hp, show errV 0 = Value.nilIface from rfl] at hpa
            have HR := Lib.hid hcr
            have HP := Lib.hid hpa
            have hlen : es1.length + a.length ≤ 32 := by
              have := congrArg List.length he.out.1
              rw [hab] at this
              simp at this
              omega
            have HE : Hid (es = (es1 ++ a) ++ b ∧ logE (sh.drop (k + 1)) = some b) := ⟨by rw [he.out.1, hab, List.append_assoc], hd⟩
            have hs6 := hbl6.size
            clear hx hrd hcr ht hd hbl6 hpa hpe hp hab
            go_wp2_with fail
            refine HR.out.mono ?_
            rintro e7 w7 ⟨rfl, rfl⟩
            go_wp2_with fail
            refine HP.out.mono ?_
            rintro e7 w7 ⟨v7, rfl, hv7, hb7⟩
            simp only [Option.getD_some] at hv7
            have HS7 := Lib.hid (hs2.out.below hb7)
            have HM7 := Lib.hid (hm2.out.below hb7 hm2.out.lt)
            have HB7 := Lib.hid (HB6.out.trans (hb7.mono HB6.out.size))
            have hs7 := HB7.out.size
            have HTK := Lib.hid (take_any B q p ⟨s.m, s.at_, es1.foldl putE [], s.tabs⟩ F' v7 a w7 HS7.out hv7 (by have := puts_len es1 []; simp at this; simp only; omega) (by omega))
            clear hv7 hb7 HP HR z1
            go_wp2_with fail
            refine HTK.out.mono ?_
            rintro e8 w8 ⟨F2, rfl, hs8, hf8, hn8⟩
            have HS8 : Hid (StoreR B w8 q p ⟨s.m, s.at_, (es1 ++ a).foldl putE [], s.tabs⟩ F2) := by rw [Hid, List.foldl_append]; exact hs8
            have HM8 := Lib.hid (HM7.out.fr hf8 (.inr (.inr (by decide))))
            have HB8 : Hid (Below w.heap.size w w8) := HB7.out.trans (hf8.off (fun b hb => by
              rcases List.mem_cons.1 hb with rfl | hb
              · exact hqw
              · exact hF.out b hb) hs7)
            have HF8 : Hid (∀ b ∈ F2, w.heap.size ≤ b) := fun b hb => (hn8 b hb).elim (hF.out b) (fun h => by omega)
            clear hs8 hf8 hn8 HTK
            go_wp2_with fail
            go_roundw
            case rel => exact ⟨k + 1, F2, es1 ++ a, b, by omega, by go_num, HS8, HE, HF8, HM8, HB8.out⟩
            case measure => simp [intOf] <;> omega
        · have g2 : decide ((k : Int) < (sh.length : Int)) = false := decide_eq_false (by omega)
          have HSF : Hid (StoreR B wr q p s F') := by
            have h1 := he.out.1
            have h2 := he.out.2
            rw [List.drop_eq_nil_of_le (by omega)] at h2
            have h2 := (Option.some.inj h2).symm
            subst h2
            rw [List.append_nil] at h1
            have h3 := hs2.out
            rw [← h1, ← HLM.out] at h3
            exact h3
          clear hm2
          go_wp2_with fail
          exact FIN.out _ _ q F' HSF.out hbl6 hqw hF.out rfl rfl
end Go.Proofs.YtaepdbkfaoiimabGreatDoor
/- The contract of table.Get. Conditions: the block holds a table. -/
set_option linter.unusedVariables false
set_option linter.unusedSimpArgs false
namespace Go.Proofs.YtaepdbkfaoiimabGreatDoor
open Go.RowKit
attribute [local go_sem ↓] eql_err eql_nilerr neq_err neq_nilerr guard_err guard_nilerr guardn_err guardn_nilerr

def cmpv (a b : ByteArray) : Int := Lib.compareBytes a.data.toList b.data.toList
theorem cb_lt : ∀ x y : List UInt8, (Lib.compareBytes x y < 0 ↔ Op.bytesLess x y = true) ∧ (Lib.compareBytes x y = 0 ↔ x = y) ∧ (Lib.compareBytes x y = -1 ∨ Lib.compareBytes x y = 0 ∨ Lib.compareBytes x y = 1)
  | [], [] => by simp [Lib.compareBytes, Op.bytesLess]
  | [], _ :: _ => by simp [Lib.compareBytes, Op.bytesLess]
  | _ :: _, [] => by simp [Lib.compareBytes, Op.bytesLess]
  | a :: x, b :: y => by
    obtain ⟨h1, h2, h3⟩ := cb_lt x y
    rw [Lib.compareBytes]
    by_cases hab : a < b
    · rw [if_pos hab]
      have hne : a ≠ b := fun e => by subst e; exact absurd hab (UInt8.lt_irrefl a)
      simp [Op.bytesLess, hab, hne]
    · rw [if_neg hab]
      by_cases hba : b < a
      · rw [if_pos hba]
        have hne : a ≠ b := fun e => by subst e; exact absurd hba (UInt8.lt_irrefl a)
        simp [Op.bytesLess, hab, hne]
      · rw [if_neg hba]
        have he : a = b := UInt8.le_antisymm (UInt8.not_lt.1 hba) (UInt8.not_lt.1 hab)
        subst he
        refine ⟨by simp [Op.bytesLess, h1, hab], by simp [h2], h3⟩
theorem cmpv_lt (a b : ByteArray) : cmpv a b < 0 ↔ ltB a b = true := by
  unfold cmpv ltB
  rw [← ByteArray.toList_eq, ← ByteArray.toList_eq]
  exact (cb_lt _ _).1
theorem cmpv_eq (a b : ByteArray) : cmpv a b = 0 ↔ a = b := by
  unfold cmpv
  rw [← ByteArray.toList_eq, ← ByteArray.toList_eq]
  exact (cb_lt _ _).2.1.trans (toList_inj a b)
theorem rises_at {es : List Ent} (h : Rises es) {i j : Nat} {x y : Ent} (hij : i < j) (hx : es[i]? = some x) (hy : es[j]? = some y) : ltB x.k y.k = true := by
  have hj : j < es.length := by
    rcases Nat.lt_or_ge j es.length with h | h
    · exact h
    · rw [List.getElem?_eq_none h] at hy; cases hy
  have hi : i < es.length := by omega
  rw [List.getElem?_eq_getElem hi] at hx
  rw [List.getElem?_eq_getElem hj] at hy
  cases hx; cases hy
  exact List.pairwise_iff_getElem.1 h i j hi hj hij
theorem get1_any (x : Ent) (key : ByteArray) (w : World) :
    Calls Tryz.prog 140 #[.agg #[.string x.k, .string x.v, .bool x.g], .string key] w fun e w' => e = .returned (.int .i64 (cmpv x.k key)) ∧ Below w.heap.size w w' := by
  have HC := Lib.hid (fun w => Tryz.strings_Compare x.k key w)
  go_enter Tryz.func140, Tryz.ntmps140
  go_wp2_with (go_at_call 141; refine (HC.out _).mono ?_; rintro e2 w2 ⟨rfl, rfl⟩)
  go_ret
  exact ⟨rfl, (Below.refl _ _).alloc (Nat.le_refl _) _⟩
/-- Where a key stands in entries that rise, and whether it does. -/
structure BsR (es : List Ent) (key : ByteArray) (a : Nat) (is : Bool) : Prop where
  le : a ≤ es.length
  lo : ∀ i e, i < a → es[i]? = some e → ltB e.k key = true
  hi : ∀ i e, a ≤ i → es[i]? = some e → ltB e.k key = false
  is : is = true ↔ ∃ e, es[a]? = some e ∧ e.k = key
set_option maxRecDepth 20000 in
set_option maxHeartbeats 4000000 in
theorem bsf_any (B : Nat) (v : Value) (es : List Ent) (key : ByteArray) (w : World) (h : Ents B w v es) (hr : Rises es) (hn : es.length ≤ 1000000) :
    Calls Tryz.prog 139 #[v, .string key, .func (.func 140) #[] #[]] w fun e w' => ∃ a is, e = .returned (.tuple #[.int .i64 (a : Nat), .bool is]) ∧ BsR es key a is ∧ Below w.heap.size w w' := by
  obtain ⟨A, c, rfl, hc, hc2, hcell⟩ := h.form
  have HC := Lib.hid hcell
  have HRI := Lib.hid hr
  clear hcell h hr
  go_enter Tryz.func139, Tryz.ntmps139
  go_wp2_with fail
  go_loopw [9, 10] (fun i j wr => ∃ a d : Nat, a ≤ d ∧ d ≤ es.length ∧ i = .int .i64 a ∧ j = .int .i64 d ∧ Hid ((∀ i e, i < a → es[i]? = some e → ltB e.k key = true) ∧ (∀ i e, d ≤ i → es[i]? = some e → ltB e.k key = false)) ∧ Below w.heap.size w wr) (fun i j _ => (intOf j).toNat - (intOf i).toNat)
  case atStart => exact ⟨0, es.length, Nat.zero_le _, Nat.le_refl _, rfl, rfl, ⟨fun i e h => absurd h (by omega), fun i e h h2 => by rw [List.getElem?_eq_none h] at h2; cases h2⟩, Below.refl _ _⟩
  case round =>
    obtain ⟨a, d, had, hd, rfl, rfl, hinv, hbl⟩ := hrel
    by_cases hlt : a < d
    · have t1 : decide ((a : Int) < (d : Int)) = true := decide_eq_true (by omega)
      obtain ⟨m, hm⟩ : ∃ m : Nat, (a + d) / 2 = m := ⟨_, rfl⟩
      have hmn : m < es.length := by omega
      obtain ⟨x, hx, htk, _⟩ := getElem?_of_lt hmn
      obtain ⟨b, o, rfl, hb, c1, c2, c3⟩ := HC.out m x hx
      have d1 := (hbl.cell (p := ⟨b, o + m * 3, none⟩) hb).trans c1
      have d2 := (hbl.cell (p := ⟨b, o + m * 3 + 1, none⟩) hb).trans c2
      have d3 := (hbl.cell (p := ⟨b, o + m * 3 + 2, none⟩) hb).trans c3
      have hm2 : ((a : Int) + (d : Int)) / 2 = (m : Int) := by omega
      have HCM := Lib.hid (get1_any x key wr)
      clear htk c1 c2 c3
      have g1 : (0 : Int) ≤ (m : Int) := by omega
      have g2 : (m : Int) < (es.length : Int) := by omega
      have HX := Lib.hid hx
      have HBL := Lib.hid hbl
      clear hx
      have hinv := hinv.out
      by_cases hl : cmpv x.k key < 0
      · have hlo : Hid ((∀ i e, i < m + 1 → es[i]? = some e → ltB e.k key = true) ∧ (∀ i e, d ≤ i → es[i]? = some e → ltB e.k key = false)) := by
          refine ⟨fun i e hi he => ?_, hinv.2⟩
          rcases Nat.lt_or_ge i m with h | h
          · exact ltB_trans (rises_at HRI.out h he HX.out) ((cmpv_lt _ _).1 hl)
          · have : i = m := by omega
            subst this
            rw [HX.out] at he
            cases he
            exact (cmpv_lt _ _).1 hl
        have t2 : decide (cmpv x.k key < 0) = true := decide_eq_true hl
        generalize cmpv x.k key = cv at *
        clear hinv hbl
        go_wp2_with (go_at_call 140; refine HCM.out.mono ?_; rintro e2 w2 ⟨rfl, hb2⟩; have HB2 := Lib.hid (HBL.out.trans (hb2.mono HBL.out.size)); clear hb2)
        go_roundw
        case rel => exact ⟨m + 1, d, by omega, hd, by go_num, rfl, hlo, HB2.out⟩
        case measure => simp [intOf] <;> omega
      · have hlo : Hid ((∀ i e, i < a → es[i]? = some e → ltB e.k key = true) ∧ (∀ i e, m ≤ i → es[i]? = some e → ltB e.k key = false)) := by
          refine ⟨hinv.1, fun i e hi he => ?_⟩
          have hx0 : ltB x.k key = false := by
            cases hh : ltB x.k key
            · rfl
            · exact absurd ((cmpv_lt _ _).2 hh) hl
          rcases Nat.lt_or_ge m i with h | h
          · cases hh : ltB e.k key
            · rfl
            · have := ltB_trans (rises_at HRI.out h HX.out he) hh
              rw [hx0] at this
              cases this
          · have : i = m := by omega
            subst this
            rw [HX.out] at he
            cases he
            exact hx0
        have t2 : decide (cmpv x.k key < 0) = false := decide_eq_false hl
        generalize cmpv x.k key = cv at *
        clear hinv hbl
        go_wp2_with (go_at_call 140; refine HCM.out.mono ?_; rintro e2 w2 ⟨rfl, hb2⟩; have HB2 := Lib.hid (HBL.out.trans (hb2.mono HBL.out.size)); clear hb2)
        go_roundw
        case rel => exact ⟨a, m, by omega, by omega, rfl, by go_num, hlo, HB2.out⟩
        case measure => simp [intOf] <;> omega
    · have had2 : a = d := by omega
      subst had2
      have t1 : decide ((a : Int) < (a : Int)) = false := decide_eq_false (by omega)
      by_cases hlast : a < es.length
      · obtain ⟨x, hx, htk, _⟩ := getElem?_of_lt hlast
        obtain ⟨b, o, rfl, hb, c1, c2, c3⟩ := HC.out a x hx
        have d1 := (hbl.cell (p := ⟨b, o + a * 3, none⟩) hb).trans c1
        have d2 := (hbl.cell (p := ⟨b, o + a * 3 + 1, none⟩) hb).trans c2
        have d3 := (hbl.cell (p := ⟨b, o + a * 3 + 2, none⟩) hb).trans c3
        have HCM := Lib.hid (get1_any x key wr)
        have HX := Lib.hid hx
        have HBL := Lib.hid hbl
        clear htk c1 c2 c3 hx hbl
        have t3 : decide ((a : Int) < (es.length : Int)) = true := decide_eq_true (by omega)
        have g1 : (0 : Int) ≤ (a : Int) := by omega
        have g2 : (a : Int) < (es.length : Int) := by omega
        have HEND : Hid (BsR es key a (cmpv x.k key == 0)) := by
          refine ⟨hd, hinv.out.1, hinv.out.2, ?_⟩
          rw [beq_iff_eq, cmpv_eq, HX.out]
          exact ⟨fun h => ⟨x, rfl, h⟩, fun ⟨e, h1, h2⟩ => by cases h1; exact h2⟩
        generalize cmpv x.k key = cv at *
        go_wp2_with (go_at_call 140; refine HCM.out.mono ?_; rintro e2 w2 ⟨rfl, hb2⟩; have HB2 := Lib.hid (HBL.out.trans (hb2.mono HBL.out.size)); clear hb2)
        go_ret2
        exact ⟨a, _, rfl, HEND.out, HB2.out⟩
      · have t3 : decide ((a : Int) < (es.length : Int)) = false := decide_eq_false (by omega)
        have HEND : Hid (BsR es key a false) := by
          refine ⟨hd, hinv.out.1, hinv.out.2, ?_⟩
          rw [List.getElem?_eq_none (by omega)]
          exact ⟨fun h => (by cases h), fun ⟨e, h1, _⟩ => by cases h1⟩
        go_wp2_with fail
        go_ret2
        exact ⟨a, false, rfl, HEND.out, hbl⟩
/-- An entry or the zero one. -/
def entO : Option Ent → Value
  | some e => .agg #[.string e.k, .string e.v, .bool e.g]
  | none => .agg #[.string ByteArray.empty, .string ByteArray.empty, .bool false]
theorem getE_none {l : List Ent} {key : ByteArray} (h : ∀ e ∈ l, e.k ≠ key) : getE l key = none := by
  unfold getE
  rw [List.find?_eq_none]
  intro e he
  simpa using h e he
theorem rises_app {a b : List Ent} (h : Rises (a ++ b)) : Rises a ∧ Rises b ∧ ∀ x ∈ a, ∀ y ∈ b, ltB x.k y.k = true := List.pairwise_append.1 h
/-- One page is looked at. -/
theorem get_parts {ps : List (List Ent)} {l q : List Ent} {key : ByteArray} {k a : Nat} {is : Bool} (hl : ps.flatten = l) (hr : Rises l) (hq : ps[k]? = some q) (hne : q ≠ []) (hb : BsR q key a is) :
    (is = true → ∃ e, q[a]? = some e ∧ getE l key = some e) ∧
    (is = false → a = 0 → ∀ e ∈ (ps.drop k).flatten, ltB key e.k = true) ∧
    (is = false → a = q.length → ∀ e ∈ (ps.take (k + 1)).flatten, ltB e.k key = true) ∧
    (is = false → a ≠ 0 → a ≠ q.length → getE l key = none) := by
  have hk : k < ps.length := by
    rcases Nat.lt_or_ge k ps.length with h | h
    · exact h
    · rw [List.getElem?_eq_none h] at hq; cases hq
  have hqe : ps[k] = q := by rw [List.getElem?_eq_getElem hk] at hq; exact Option.some.inj hq
  have hsp : l = (ps.take k).flatten ++ (q ++ (ps.drop (k + 1)).flatten) := by
    rw [← hl]
    conv => lhs; rw [← List.take_append_drop k ps, List.drop_eq_getElem_cons hk, hqe]
    simp
  have hdr : (ps.drop k).flatten = q ++ (ps.drop (k + 1)).flatten := by rw [List.drop_eq_getElem_cons hk, hqe]; rfl
  have htk : (ps.take (k + 1)).flatten = (ps.take k).flatten ++ q := by rw [List.take_succ_eq_append_getElem hk, hqe]; simp
  rw [hsp] at hr
  obtain ⟨r1, r2, r3⟩ := rises_app hr
  obtain ⟨r4, r5, r6⟩ := rises_app r2
  obtain ⟨x0, q', rfl⟩ : ∃ x q', q = x :: q' := by cases q with | nil => exact absurd rfl hne | cons x q' => exact ⟨x, q', rfl⟩
  have hgt : ∀ e, is = false → ∀ i, a ≤ i → (x0 :: q')[i]? = some e → ltB key e.k = true := by
    intro e hi i hai he
    have h1 := hb.hi i e hai he
    cases hh : ltB key e.k
    · have := ltB_tri h1 hh
      exfalso
      rcases Nat.lt_or_ge a i with h2 | h2
      · have hai' : a < (x0 :: q').length := by
          have : i < (x0 :: q').length := by
            rcases Nat.lt_or_ge i (x0 :: q').length with h | h
            · exact h
            · rw [List.getElem?_eq_none h] at he; cases he
          omega
        have hy := List.getElem?_eq_getElem hai'
        have h3 := hb.hi a _ (Nat.le_refl _) hy
        have h4 := rises_at r4 h2 hy he
        rw [this] at h4
        rw [h4] at h3
        cases h3
      · have : i = a := by omega
        subst this
        have := hb.is.2 ⟨e, he, by assumption⟩
        rw [hi] at this
        cases this
    · rfl
  refine ⟨fun hi => ?_, fun hi ha => ?_, fun hi ha => ?_, fun hi h0 hn => ?_⟩
  · obtain ⟨e, he, hk⟩ := hb.is.1 hi
    refine ⟨e, he, ?_⟩
    rw [← hk, hsp]
    exact getE_of_mem hr (List.mem_append_right _ (List.mem_append_left _ (List.mem_of_getElem? he)))
  · subst ha
    rw [hdr]
    intro e he
    have hx := hgt x0 hi 0 (Nat.le_refl _) rfl
    rcases List.mem_append.1 he with he | he
    · obtain ⟨i, hi2, hie⟩ := List.getElem_of_mem he
      exact hgt e hi i (Nat.zero_le _) (by rw [List.getElem?_eq_getElem hi2, hie])
    · exact ltB_trans hx (r6 x0 (List.mem_cons_self) e he)
  · have hall : ∀ e ∈ (x0 :: q'), ltB e.k key = true := by
      intro e he
      obtain ⟨i, hi2, hie⟩ := List.getElem_of_mem he
      exact hb.lo i e (by omega) (by rw [List.getElem?_eq_getElem hi2, hie])
    rw [htk]
    intro e he
    rcases List.mem_append.1 he with he | he
    · exact ltB_trans (r3 e he x0 (List.mem_append_left _ List.mem_cons_self)) (hall x0 List.mem_cons_self)
    · exact hall e he
  · have hle := hb.le
    have hx := hb.lo 0 x0 (by omega) rfl
    have hal : a < (x0 :: q').length := by omega
    have hy := List.getElem?_eq_getElem hal
    have hy2 := hgt _ hi a (Nat.le_refl _) hy
    rw [hsp]
    refine getE_none fun e he hek => ?_
    rcases List.mem_append.1 he with he | he
    · have := ltB_trans (r3 e he x0 (List.mem_append_left _ List.mem_cons_self)) hx
      rw [hek, ltB_irrefl] at this; cases this
    · rcases List.mem_append.1 he with he | he
      · obtain ⟨i, hi2, hie⟩ := List.getElem_of_mem he
        rcases Nat.lt_or_ge i a with h | h
        · have := hb.lo i e h (by rw [List.getElem?_eq_getElem hi2, hie])
          rw [hek, ltB_irrefl] at this; cases this
        · have := hgt e hi i h (by rw [List.getElem?_eq_getElem hi2, hie])
          rw [hek, ltB_irrefl] at this; cases this
      · have := ltB_trans hy2 (r6 _ (List.mem_of_getElem? hy) e he)
        rw [hek, ltB_irrefl] at this; cases this
theorem ent3 {n g T : Nat} {w W : World} {x y z : Value} (hk : Blk W g T #[x, y, z]) (hb : Below n w W) (hn : n ≤ g) (hg : w.heap.size ≤ W.heap.size) (a b c : Value) :
    Below n w (((W.setCell ⟨g, 0, none⟩ a).setCell ⟨g, 1, none⟩ b).setCell ⟨g, 2, none⟩ c) ∧ (((W.setCell ⟨g, 0, none⟩ a).setCell ⟨g, 1, none⟩ b).setCell ⟨g, 2, none⟩ c).cell? ⟨g, 0, none⟩ = some a ∧
      (((W.setCell ⟨g, 0, none⟩ a).setCell ⟨g, 1, none⟩ b).setCell ⟨g, 2, none⟩ c).cell? ⟨g, 1, none⟩ = some b ∧ (((W.setCell ⟨g, 0, none⟩ a).setCell ⟨g, 1, none⟩ b).setCell ⟨g, 2, none⟩ c).cell? ⟨g, 2, none⟩ = some c := by
  have h := ((hk.set_ 0 a).set_ 1 b).set_ 2 c
  refine ⟨((hb.setCell (p := ⟨g, 0, none⟩) hn _).setCell (p := ⟨g, 1, none⟩) hn _).setCell (p := ⟨g, 2, none⟩) hn _, ?_, ?_, ?_⟩ <;> rw [h.cell] <;> rfl
theorem errV9 : errV 9 = .iface 39 (.int .i64 9) := rfl
theorem chunks_ne {l : List Ent} : ∀ q ∈ chunks2 l, q ≠ [] := by
  have key : ∀ (n : Nat) (l : List Ent), l.length ≤ n → ∀ q ∈ chunks2 l, q ≠ [] := by
    intro n
    induction n using Nat.strongRecOn with
    | _ n ih =>
      intro l hn q hq
      match l, hn, hq with
      | [], _, hq => cases hq
      | [a], _, hq => have := List.mem_singleton.1 hq; subst this; simp
      | a :: b :: l, hn, hq =>
        rcases List.mem_cons.1 hq with rfl | hq
        · simp
        · simp only [List.length_cons] at hn
          exact ih (n - 2) (by omega) l (by omega) q hq
  exact key _ l (Nat.le_refl _)
set_option maxRecDepth 20000 in
set_option maxHeartbeats 8000000 in
theorem tabget_any (B p b : Nat) (c : Chip) (l : List Ent) (key : ByteArray) (w : World) (h : ChipR B w p c) (hb : b < 24) (hd : c.down = false) (ht : TabAt c b l) (hks : key.size ≤ 9223372036854775807)
    (hmay : mayB (fOf (l.map Ent.k)) key = false → getE l key = none) :
    Calls Tryz.prog 110 #[.pointer (some ⟨p, 0, none⟩), .int .i64 b, .string key] w fun e w' => e = .returned (.tuple #[entO (getE l key), .bool (getE l key).isSome, .nilIface]) ∧ Below w.heap.size w w' := by
  have hB0 : B ≤ w.heap.size := by obtain ⟨V, u, hv, _⟩ := h; have := hv.base; have := hv.blk.lt; omega
  have hpart := tabF_parts ht.ok
  have hris := (chkT_rises hpart.2.2).1
  have hcl := chunks2_len l
  have hpn : (chunks2 l).length ≤ 7 := by omega
  have hpl : (c.b b).l.length = 1 + (chunks2 l).length := by rw [ht.pages]; simp [tabPages, rawPages]; omega
  have HA : Hid (∀ W, Below w.heap.size w W → ChipR B W p c) := fun W hb => h.below hb
  have HRD : Hid (∀ W, Below w.heap.size w W → Calls Tryz.prog 51 #[.pointer (some ⟨p, 0, none⟩), .int .i64 b, .int .i64 0] W fun e w' => e = .returned (.tuple #[.string (pad (bitsB (fOf (l.map Ent.k)))), .nilIface]) ∧ W = w') := by
    intro W hb'
    have := cread_any B p c b 0 W (h.below hb')
    rw [tab_read0 hb hd ht] at this
    exact this
  have HNX : Hid (∀ W, Below w.heap.size w W → Calls Tryz.prog 45 #[.pointer (some ⟨p, 0, none⟩), .int .i64 b] W fun e w' => e = .returned (.int .i64 (1 + (chunks2 l).length : Nat)) ∧ W = w') := by
    intro W hb'
    have := next_any B p c b W (h.below hb') (by omega) (by omega)
    rw [Int.toNat_natCast, hpl] at this
    exact this
  have HUB := Lib.hid (fun W => unbits_any (fOf (l.map Ent.k)) (fOf_lt _) W)
  have HMY := Lib.hid (fun W => may_any (fOf (l.map Ent.k)) key W hks (fOf_lt _))
  have HPG : Hid (∀ (k : Nat) (q : List Ent), (chunks2 l)[k]? = some q → ∀ W, Below w.heap.size w W → Calls Tryz.prog 86 #[.pointer (some ⟨p, 0, none⟩), .int .i64 b, .int .i64 ((k : Int) + 1)] W fun e w2 => ∃ v, e = .returned (.tuple #[v, .nilIface]) ∧ Ents w.heap.size w2 v q ∧ Below W.heap.size W w2) := by
    intro k q hq W hb'
    have hk : k < (chunks2 l).length := by
      rcases Nat.lt_or_ge k (chunks2 l).length with h | h
      · exact h
      · rw [List.getElem?_eq_none h] at hq; cases hq
    have hpr := tab_pageR hb (show k < 7 by omega) hd ht
    rw [show ((1 : Int) + (k : Int)) = (k : Int) + 1 from by omega, hq] at hpr
    refine (page_any B p c b ((k : Int) + 1) W (h.below hb')).mono ?_
    rintro e w2 ⟨v, rfl, hv, hb2⟩
    rw [hpr] at hv ⊢
    exact ⟨v, rfl, ⟨hv.1.mono hB0, hv.2⟩, hb2⟩
  have HPS : Hid ((chunks2 l).flatten = l) := chunks2_flatten l
  have HNE : Hid (∀ q ∈ chunks2 l, q ≠ [] ∧ Rises q ∧ q.length ≤ 2) := fun q hq => ⟨chunks_ne q hq, by
    obtain ⟨i, hi, hie⟩ := List.getElem_of_mem hq
    have hr := hris
    rw [← chunks2_flatten l, ← List.take_append_drop i (chunks2 l), List.flatten_append, List.drop_eq_getElem_cons hi, hie, List.flatten_cons] at hr
    exact (rises_app (rises_app hr).2.1).1, (chunks2_mem hq).1⟩
  have HRS := Lib.hid hris
  have HMN := Lib.hid hmay
  generalize chunks2 l = ps at *
  generalize pad (bitsB (fOf (l.map Ent.k))) = s0 at *
  generalize fOf (l.map Ent.k) = f0 at *
  have fin : ∀ (W : World) (tmps : Array Value) (o : Option Ent), getE l key = o → Below w.heap.size w W → W.cell? ⟨w.heap.size, 0, none⟩ = some (.string ((o.map Ent.k).getD ByteArray.empty)) → W.cell? ⟨w.heap.size, 1, none⟩ = some (.string ((o.map Ent.v).getD ByteArray.empty)) → W.cell? ⟨w.heap.size, 2, none⟩ = some (.bool ((o.map Ent.g).getD false)) →
      tmps[6]? = some (.pointer (some ⟨w.heap.size, 0, none⟩)) → tmps[7]? = some (.bool o.isSome) → tmps[8]? = some .nilIface →
      bodyPost Tryz.prog Tryz.f110 (fun e w' => e = .returned (.tuple #[entO (getE l key), .bool (getE l key).isSome, .nilIface]) ∧ Below w.heap.size w w') .ret { tmps := tmps, defers := [] } W := by
    intro W tmps o ho hb c0 c1 c2 t6 t7 t8
    rw [ho]
    refine bodyPost_ret (v := .tuple #[.agg #[.string ((o.map Ent.k).getD ByteArray.empty), .string ((o.map Ent.v).getD ByteArray.empty), .bool ((o.map Ent.g).getD false)], .bool o.isSome, .nilIface]) (by simp [results, Tryz.results110, go_sem, t6, t7, t8, c0, c1, c2]) rfl ⟨?_, hb⟩
    cases o <;> rfl
  have FIN := Lib.hid fin
  clear fin h hd ht hpart hris hmay hpl hcl
  go_enter Tryz.func110, Tryz.ntmps110
  have HB0 : Hid (Below w.heap.size w (w.alloc (.cells #[.string ByteArray.empty, .string ByteArray.empty, .bool false] 56))) := (Below.refl _ _).alloc (Nat.le_refl _) _
  have HE0 := Lib.hid (Blk.new w 56 #[.string ByteArray.empty, .string ByteArray.empty, .bool false])
  cases hm : mayB f0 key
  · have HGN := Lib.hid (HMN.out hm)
    rw [hm] at HMY
    go_wp2_with (first
      | (go_at_call 51; refine (HRD.out _ HB0.out).mono ?_; rintro e2 w2 ⟨rfl, rfl⟩)
      | (go_at_call 85; refine (HUB.out _).mono ?_; rintro e2 w2 ⟨rfl, n2, rfl⟩)
      | (go_at_call 138; refine (HMY.out _).mono ?_; rintro e2 w2 ⟨rfl, rfl⟩))
    have h3 := ent3 (HE0.out.drewN n2) (below_drewN HB0.out n2) (Nat.le_refl _) (by simp) (.string ByteArray.empty) (.string ByteArray.empty) (.bool false)
    exact FIN.out _ _ none HGN.out h3.1 h3.2.1 h3.2.2.1 h3.2.2.2 rfl rfl rfl
  · rw [hm] at HMY
    go_wp2_with (first
      | (go_at_call 51; refine (HRD.out _ HB0.out).mono ?_; rintro e2 w2 ⟨rfl, rfl⟩)
      | (go_at_call 85; refine (HUB.out _).mono ?_; rintro e2 w2 ⟨rfl, n2, rfl⟩)
      | (go_at_call 138; refine (HMY.out _).mono ?_; rintro e2 w2 ⟨rfl, rfl⟩)
      | (go_at_call 45; refine (HNX.out _ (below_drewN HB0.out _)).mono ?_; rintro e2 w2 ⟨rfl, rfl⟩))
    clear HRD HNX HUB HMY HMN
    go_loopw [13, 14] (fun i j wr => ∃ lo hi : Nat, lo ≤ hi ∧ hi ≤ ps.length ∧ i = .int .i64 ((lo + 1 : Nat) : Int) ∧ j = .int .i64 ((hi + 1 : Nat) : Int) ∧ Hid ((∀ e ∈ (ps.take lo).flatten, ltB e.k key = true) ∧ (∀ e ∈ (ps.drop hi).flatten, ltB key e.k = true)) ∧ Below w.heap.size w wr ∧ Hid (Blk wr w.heap.size 56 #[.string ByteArray.empty, .string ByteArray.empty, .bool false])) (fun i j _ => (intOf j).toNat - (intOf i).toNat)
    case atStart => exact ⟨0, ps.length, Nat.zero_le _, Nat.le_refl _, rfl, by congr 1; omega, ⟨fun e he => by simp at he, fun e he => by simp at he⟩, below_drewN HB0.out _, HE0.out.drewN _⟩
    case round =>
      obtain ⟨lo, hi, hle, hhi, rfl, rfl, hinv, hbl, hblk⟩ := hrel
      by_cases hlt : lo < hi
      · have t1 : decide (((lo + 1 : Nat) : Int) < ((hi + 1 : Nat) : Int)) = true := decide_eq_true (by omega)
        obtain ⟨m, hm⟩ : ∃ m : Nat, (lo + hi) / 2 = m := ⟨_, rfl⟩
        have hmm : ((lo : Int) + 1 + ((hi : Int) + 1)).tdiv 2 = (m : Int) + 1 := by
          rw [Int.tdiv_eq_ediv_of_nonneg (by omega)]
          omega
        have hmp : m < ps.length := by omega
        obtain ⟨q, hq⟩ : ∃ q, ps[m]? = some q := ⟨_, List.getElem?_eq_getElem hmp⟩
        obtain ⟨hqn, hqr, hq2⟩ := HNE.out q (List.mem_of_getElem? hq)
        have HP := Lib.hid (HPG.out m q hq wr hbl)
        have HPT := Lib.hid (fun a is (h : BsR q key a is) => get_parts HPS.out HRS.out hq hqn h)
        have HBS := Lib.hid (fun W v (hv : Ents w.heap.size W v q) => bsf_any w.heap.size v q key W hv hqr (by omega))
        have HBL := Lib.hid hbl
        have HQR := Lib.hid hqr
        clear hq hqn hqr hbl
        go_wp2_with (go_at_call 86; refine HP.out.mono ?_; rintro e3 w3 ⟨v3, rfl, hv3, hb3⟩; have HV3 := Lib.hid hv3; have HB3 := Lib.hid (HBL.out.trans (hb3.mono HBL.out.size)); have HK3 := Lib.hid (hblk.out.below hb3 hblk.out.lt); clear hb3 hv3)
        refine (HBS.out _ _ HV3.out).mono ?_
        rintro e4 w4 ⟨a, is, rfl, hbs, hb4⟩
        have HB4 := Lib.hid (HB3.out.trans (hb4.mono HB3.out.size))
        have hv4 := HV3.out.below hb4
        obtain ⟨A3, cp3, rfl, hcp3, hcp4, hcell3⟩ := hv4.form
        have HC4 := Lib.hid hcell3
        have hk4 := HK3.out.below hb4 HK3.out.lt
        have HK4 := Lib.hid hk4
        have HPR := Lib.hid (HPT.out a is hbs)
        have hal := hbs.le
        have q0 := hk4.cell 0
        have q1 := hk4.cell 1
        have q2 := hk4.cell 2
        have f0' := hk4.frozen 0
        have f1' := hk4.frozen 1
        have f2' := hk4.frozen 2
        simp at q0 q1 q2
        clear hb4 hbs hv4 hcell3 hk4 HPT HBS HP HPG HNE
        cases is
        · by_cases ha0 : a = 0
          · have t5 : (((a : Nat) : Int) == 0) = true := by rw [ha0]; rfl
            have hnew : Hid ((∀ e ∈ (ps.take lo).flatten, ltB e.k key = true) ∧ (∀ e ∈ (ps.drop m).flatten, ltB key e.k = true)) := ⟨hinv.out.1, HPR.out.2.1 rfl ha0⟩
            go_wp2_with fail
            go_roundw
            case rel => exact ⟨lo, m, by omega, by omega, by go_num, by go_num, hnew, HB4.out, HK4⟩
            case measure => simp [intOf] <;> omega
          · have t5 : (((a : Nat) : Int) == 0) = false := beq_eq_false_iff_ne.2 (by omega)
            by_cases han : a = q.length
            · have t6 : (((a : Nat) : Int) == ((q.length : Nat) : Int)) = true := by rw [han]; simp
              have hnew : Hid ((∀ e ∈ (ps.take (m + 1)).flatten, ltB e.k key = true) ∧ (∀ e ∈ (ps.drop hi).flatten, ltB key e.k = true)) := ⟨HPR.out.2.2.1 rfl han, hinv.out.2⟩
              go_wp2_with fail
              go_roundw
              case rel => exact ⟨m + 1, hi, by omega, by omega, by go_num, by go_num, hnew, HB4.out, HK4⟩
              case measure => simp [intOf] <;> omega
            · have t6 : (((a : Nat) : Int) == ((q.length : Nat) : Int)) = false := beq_eq_false_iff_ne.2 (by omega)
              have HGN := Lib.hid (HPR.out.2.2.2 rfl ha0 han)
              have h3 := Lib.hid (ent3 HK4.out HB4.out (Nat.le_refl _) HB4.out.size (.string ByteArray.empty) (.string ByteArray.empty) (.bool false))
              go_wp2_with fail
              exact FIN.out _ _ none HGN.out h3.out.1 h3.out.2.1 h3.out.2.2.1 h3.out.2.2.2 rfl rfl rfl
        · obtain ⟨e, he1, he2⟩ := HPR.out.1 rfl
          obtain ⟨b', o', rfl, hb', c1, c2, c3⟩ := HC4.out a e he1
          have HGN := Lib.hid he2
          have hal2 : a < q.length := by
            rcases Nat.lt_or_ge a q.length with h | h
            · exact h
            · rw [List.getElem?_eq_none h] at he1; cases he1
          have g1 : (0 : Int) ≤ (a : Int) := by omega
          have g2 : (a : Int) < (q.length : Int) := by omega
          have h3 := Lib.hid (ent3 HK4.out HB4.out (Nat.le_refl _) HB4.out.size (.string e.k) (.string e.v) (.bool e.g))
          clear he1 he2
          go_wp2_with fail
          exact FIN.out _ _ (some e) HGN.out h3.out.1 h3.out.2.1 h3.out.2.2.1 h3.out.2.2.2 rfl rfl rfl
      · have he : lo = hi := by omega
        subst he
        have t1 : decide (((lo + 1 : Nat) : Int) < ((lo + 1 : Nat) : Int)) = false := decide_eq_false (by omega)
        have HGN : Hid (getE l key = none) := by
          refine getE_none fun e he hek => ?_
          rw [← HPS.out, ← List.take_append_drop lo ps, List.flatten_append] at he
          rcases List.mem_append.1 he with he | he
          · have := hinv.out.1 e he
            rw [hek, ltB_irrefl] at this; cases this
          · have := hinv.out.2 e he
            rw [hek, ltB_irrefl] at this; cases this
        have q0 := hblk.out.cell 0
        have q1 := hblk.out.cell 1
        have q2 := hblk.out.cell 2
        have f0' := hblk.out.frozen 0
        have f1' := hblk.out.frozen 1
        have f2' := hblk.out.frozen 2
        simp at q0 q1 q2
        have h3 := Lib.hid (ent3 hblk.out hbl (Nat.le_refl _) hbl.size (.string ByteArray.empty) (.string ByteArray.empty) (.bool false))
        go_wp2_with fail
        exact FIN.out _ _ none HGN.out h3.out.1 h3.out.2.1 h3.out.2.2.1 h3.out.2.2.2 rfl rfl rfl
end Go.Proofs.YtaepdbkfaoiimabGreatDoor
/- The contracts of store.Rows, Get. Conditions: none but those that each names. -/
set_option linter.unusedVariables false
set_option linter.unusedSimpArgs false
namespace Go.Proofs.YtaepdbkfaoiimabGreatDoor
open Go.RowKit
attribute [local go_sem ↓] eql_err eql_nilerr neq_err neq_nilerr guard_err guard_nilerr guardn_err guardn_nilerr
theorem orbitQ (l : List ByteArray) : ∀ (n i : Nat), n.testBit i = true → (l.foldl (fun f s => f ||| spBits s) n).testBit i = true := by
  induction l with
  | nil => intro n i h; exact h
  | cons s l ih => intro n i h; exact ih _ _ (by rw [Nat.testBit_or, h, Bool.true_or])
theorem spaQ (s : ByteArray) : (spBits s).testBit (spA s) = true := by rw [spBits, Nat.testBit_or, Nat.testBit_two_pow_self, Bool.true_or]
theorem spbQ (s : ByteArray) : (spBits s).testBit (spB s) = true := by rw [spBits, Nat.testBit_or, Nat.testBit_two_pow_self, Bool.or_true]
theorem ormemQ (l : List ByteArray) (s : ByteArray) (h : s ∈ l) : ∀ (n i : Nat), (spBits s).testBit i = true → (l.foldl (fun f s => f ||| spBits s) n).testBit i = true := by
  induction l with
  | nil => cases h
  | cons a l ih =>
    intro n i hi
    rcases List.mem_cons.1 h with rfl | h
    · exact orbitQ l _ _ (by rw [Nat.testBit_or, hi, Bool.or_true])
    · exact ih h _ _ hi
theorem maymemQ (l : List ByteArray) (s : ByteArray) (h : s ∈ l) : mayB (fOf l) s = true := by
  rw [mayB, fOf, ormemQ l s h _ _ (spaQ s), ormemQ l s h _ _ (spbQ s)]; rfl
theorem maygetQ (l : List Ent) (key : ByteArray) (h : mayB (fOf (l.map Ent.k)) key = false) : getE l key = none := by
  cases hg : getE l key with
  | none => rfl
  | some e =>
    obtain ⟨h1, h2⟩ := getE_mem hg
    rw [← h2, maymemQ _ _ (List.mem_map.2 ⟨e, h1, rfl⟩)] at h
    cases h

theorem sum_tabs : ∀ (ls : List (List Ent)), (∀ l ∈ ls, tabF l = 0) → sumLen ls ≤ 14 * ls.length
  | [], _ => by simp [sumLen]
  | l :: ls, h => by
    have h1 := sum_tabs ls fun x hx => h x (by simp [hx])
    have h2 := (tabF_parts (h l (by simp))).2.1
    simp only [sumLen, List.map_cons, List.sum_cons, List.length_cons] at *
    omega
theorem sum_lists {c : Chip} {s : SM} (hi : Inv c s) : sumLen (s.mem :: s.tabs) ≤ 1000 ∧ s.tabs.length ≤ 8 := by
  have h1 := sum_tabs s.tabs (tabsAt_ok hi.body.tabs)
  have h2 := tabsAt_len hi.body.tabs
  have h3 := hi.body.nwl
  have h4 := hi.body.odl
  have h5 := Fallen.mem_len hi
  rw [List.length_append] at h2
  simp only [sumLen, List.map_cons, List.sum_cons] at *
  omega
set_option maxHeartbeats 1000000 in
theorem srows_any (B : Nat) (q p : Nat) (c : Chip) (s : SM) (F : List Nat) (w : World) (h : StoreR B w q p s F) (hc : ChipR B w p c) (hi : Inv c s) :
    Calls Tryz.prog 117 #[.pointer (some ⟨q, 0, none⟩)] w fun e w' => ∃ v, e = .returned (.tuple #[v, .nilIface]) ∧ Ents B w' v s.rows ∧ Below w.heap.size w w' := by
  have fin : ∀ (wr : World) (tmps : Array Value) (v : Value), Ents B wr v s.rows → Below w.heap.size w wr → tmps[2]? = some v → tmps[3]? = some .nilIface →
      bodyPost Tryz.prog Tryz.f117 (fun e w' => ∃ v, e = .returned (.tuple #[v, .nilIface]) ∧ Ents B w' v s.rows ∧ Below w.heap.size w w') .ret { tmps := tmps, defers := [] } wr := by
    intro wr tmps v hv hb t2 t3
    exact bodyPost_ret (v := .tuple #[v, .nilIface]) (by simp [results, Tryz.results117, go_sem, t2, t3]) rfl ⟨v, rfl, hv, hb⟩
  have FIN := Lib.hid fin
  have HL := Lib.hid (lists_any B q p c s F w h hc hi)
  obtain ⟨h1, h2⟩ := sum_lists hi
  have h3 := mergeAll_len (s.mem :: s.tabs)
  have HROW : Hid (liveE (mergeAll (s.mem :: s.tabs)) = s.rows) := rfl
  have h4 : (s.mem :: s.tabs).length ≤ 1000 := by rw [List.length_cons]; omega
  generalize s.mem :: s.tabs = ls at *
  clear fin h hc hi h2
  go_enter Tryz.func117, Tryz.ntmps117
  go_wp2_with fail
  refine HL.out.mono ?_
  rintro e w1 ⟨v1, rfl, hv1, hb1⟩
  have HM := Lib.hid (all_any B v1 ls w1 hv1 (by omega) (by omega))
  have HB1 := Lib.hid hb1
  clear hv1 hb1 HL
  go_wp2_with fail
  refine HM.out.mono ?_
  rintro e w2 ⟨v2, rfl, hv2, hb2⟩
  have HV := Lib.hid (live_any B v2 _ w2 hv2 (by omega))
  have HB2 := Lib.hid (HB1.out.trans (hb2.mono HB1.out.size))
  clear hv2 hb2 HM
  go_wp2_with fail
  refine HV.out.mono ?_
  rintro e w3 ⟨v3, rfl, hv3, hb3⟩
  rw [HROW.out] at hv3
  have HV3 := Lib.hid hv3
  have HB3 := Lib.hid (HB2.out.trans (hb3.mono HB2.out.size))
  clear hv3 hb3 HV
  go_wp2_with fail
  exact FIN.out _ _ _ HV3.out HB3.out rfl rfl
/-- The first list that has a key tells. -/
def firstE (ls : List (List Ent)) (key : ByteArray) : Option Ent := ls.findSome? (fun l => getE l key)
theorem firstE_eq (key : ByteArray) : ∀ {ls : List (List Ent)}, (∀ l ∈ ls, Rises l) → getE (mergeAll ls) key = firstE ls key
  | [], _ => rfl
  | l :: ls, h => by
    rw [get_mergeAll_cons (h l (by simp)) (fun x hx => h x (by simp [hx])), firstE_eq key (fun x hx => h x (by simp [hx]))]
    unfold firstE
    rw [List.findSome?_cons]
    cases getE l key <;> rfl
/-- What a key has. -/
def SM.get (s : SM) (key : ByteArray) : Option Ent := (getE s.mem key).or (firstE s.tabs key)
theorem SM.get_rows {c : Chip} {s : SM} (hi : Inv c s) (key : ByteArray) : getE s.rows key = (s.get key).filter (fun e => !e.g) := by
  unfold SM.get SM.rows
  rw [rows_get hi.body.mem hi.body.tab, firstE_eq key hi.body.tab]
theorem firstE_drop {ls : List (List Ent)} {k : Nat} {l : List Ent} (h : ls[k]? = some l) (key : ByteArray) : firstE (ls.drop k) key = (getE l key).or (firstE (ls.drop (k + 1)) key) := by
  have hk : k < ls.length := by
    rcases Nat.lt_or_ge k ls.length with h' | h'
    · exact h'
    · rw [List.getElem?_eq_none h'] at h; cases h
  rw [List.drop_eq_getElem_cons hk]
  rw [List.getElem?_eq_getElem hk] at h
  cases h
  unfold firstE
  rw [List.findSome?_cons]
  cases getE ls[k] key <;> rfl
/-- What is told of a key. -/
def toldV (o : Option Ent) : Value := .tuple #[.string (o.getD Ent.zero).v, .bool (o.isSome && !(o.getD Ent.zero).g), .nilIface]
theorem entO_val' (o : Option Ent) : entO o = (o.getD Ent.zero).val := by cases o <;> rfl
set_option maxRecDepth 20000 in
set_option maxHeartbeats 4000000 in
theorem sget_any (B : Nat) (q p : Nat) (c : Chip) (s : SM) (F : List Nat) (key : ByteArray) (w : World) (h : StoreR B w q p s F) (hc : ChipR B w p c) (hi : Inv c s) (hks : key.size ≤ 9223372036854775807) :
    Calls Tryz.prog 61 #[.pointer (some ⟨q, 0, none⟩), .string key] w fun e w' => e = .returned (toldV (s.get key)) ∧ Below w.heap.size w w' := by
  have fin : ∀ (wr : World) (tmps : Array Value) (o : Option Ent) (x y : Value), s.get key = o → Below w.heap.size w wr → toldV o = .tuple #[x, y, .nilIface] → tmps[4]? = some x → tmps[5]? = some y → tmps[6]? = some .nilIface →
      bodyPost Tryz.prog Tryz.f61 (fun e w' => e = .returned (toldV (s.get key)) ∧ Below w.heap.size w w') .ret { tmps := tmps, defers := [] } wr := by
    intro wr tmps o x y ho hb hx t4 t5 t6
    rw [ho]
    exact bodyPost_ret (v := toldV o) (by rw [hx]; simp [results, Tryz.results61, go_sem, t4, t5, t6]) rfl ⟨rfl, hb⟩
  have FIN := Lib.hid fin
  clear fin
  have hlt := h.lt
  have hn5 := hi.body.nwl
  have ho3 := hi.body.odl
  have hml := Fallen.mem_len hi
  have hrng := hi.body.rng
  have HUP := Lib.hid hi.up
  have HTB := Lib.hid hi.body.tabs
  have HCR := Lib.hid hc
  have HRN : Hid (∀ b ∈ s.m.nw ++ s.m.od, 2 ≤ b ∧ b < 24) := fun b hb => hrng b (by simp only [Man.all, List.mem_cons]; exact .inr hb)
  have hbl : (s.m.nw ++ s.m.od).length ≤ 8 := by rw [List.length_append]; omega
  have hBw : B ≤ w.heap.size := Nat.le_of_lt (Nat.lt_of_le_of_lt h.base hlt)
  obtain ⟨bs, hbs⟩ : ∃ bs, bs = s.m.nw ++ s.m.od := ⟨_, rfl⟩
  rw [← hbs] at HTB HRN hbl
  have HBS := Lib.hid hbs
  clear hbs
  obtain ⟨A1, c1, A2, c2, t, n, hk, hn, ho, ht, _, _⟩ := h
  have HN := Lib.hid hn
  have HO := Lib.hid ho
  have x0 := hk.cell 0
  have x3 := hk.cell 3
  have x4 := hk.cell 4
  have x6 := hk.cell 6
  simp at x0 x3 x4 x6
  have HC : Hid (∀ w' : World, Below w.heap.size w w' → (w'.cell? ⟨q, 3, none⟩ = some (.slice A1 s.m.nw.length c1) ∧ w'.cell? ⟨q, 4, none⟩ = some (.slice A2 s.m.od.length c2)) ∧ Below w.heap.size w w') := fun w' hb =>
    ⟨⟨(hb.cell (p := ⟨q, 3, none⟩) hlt).trans x3, (hb.cell (p := ⟨q, 4, none⟩) hlt).trans x4⟩, hb⟩
  have HC0 : Hid (∀ w' : World, Below w.heap.size w w' → w'.cell? ⟨q, 0, none⟩ = some (.pointer (some ⟨p, 0, none⟩))) := fun w' hb => (hb.cell (p := ⟨q, 0, none⟩) hlt).trans x0
  have HG := Lib.hid (tget_two B t s.mem F key w ht (by omega))
  have HGET : Hid (s.get key = (getE s.mem key).or (firstE s.tabs key)) := rfl
  clear hrng hi hc hk hn ho ht x0 x3 x4
  go_enter Tryz.func61, Tryz.ntmps61
  go_wp2_with fail
  refine HG.out.mono ?_
  rintro e w1 ⟨⟨x, hx, rfl⟩, hb1⟩
  have hs1 := hb1.size
  have HB2 : Hid (Below w.heap.size w (w1.alloc (.cells #[.string x.k, .string x.v, .bool x.g] 56))) := hb1.alloc hs1 _
  have HX := Lib.hid hx
  clear hx HG hb1
  cases hg : getE s.mem key with
  | some e0 =>
    rw [hg] at HX HGET
    have HXE : Hid (x = e0) := HX.out
    have HGE : Hid (s.get key = some e0) := HGET.out
    clear hg HX HGET
    simp only [Option.isSome_some]
    go_wp2_with fail
    go_quiet (fail)
    go_wp2_with fail
    exact FIN.out _ _ _ (.string x.v) (.bool (!x.g)) HGE.out (below_drewN' HB2.out _) (by rw [HXE.out]; rfl) rfl rfl rfl
  | none =>
    rw [hg, Option.none_or] at HGET
    clear hg HX
    simp only [Option.isSome_none]
    have hsz2 : (w1.alloc (.cells #[.string x.k, .string x.v, .bool x.g] 56)).heap.size = w1.heap.size + 1 := by simp
    have hCC := concat_store (q := q) (p := p) (F := F) HN.out HO.out HB2.out (by omega) (by omega)
    rw [hsz2, ← HBS.out] at hCC
    have HCC := Lib.hid hCC
    have HB2D : Hid (Below w.heap.size w (w1.alloc (.cells #[.string x.k, .string x.v, .bool x.g] 56)).drew) := HB2.out.drew
    clear hCC hsz2
    go_wp2_with fail
    go_region_held3 (fun w' => (w'.cell? ⟨q, 3, none⟩ = some (.slice A1 s.m.nw.length c1) ∧ w'.cell? ⟨q, 4, none⟩ = some (.slice A2 s.m.od.length c2)) ∧ Below w.heap.size w w')
      ((first | exact HC.out _ HB2D.out | exact HC.out _ hB3 | exact HC.out _ (HB2.out.alloc HB2.out.size _).drew))
      ((first | (go_at_call 49; refine HCC.out.mono ?_; rintro e w3 ⟨v3, rfl, hi3, hB3, hBW⟩; obtain ⟨A3, c3, rfl, k5, k6, kc⟩ := hi3.form)))
    have HI3 := Lib.hid hi3
    have HB3 := Lib.hid hB3
    have HTL : Hid (bs.length = s.tabs.length) := tabsAt_len HTB.out
    clear hi3 hB3 kc hBW HC HN HO HB2 HB2D HCC
    go_wp2_with fail
    go_loopw [42] (fun i wr => ∃ (k : Nat), k ≤ bs.length ∧ i = .int .i64 (k : Int) ∧ Hid (s.get key = firstE (s.tabs.drop k) key) ∧ Hid (Ints B wr (.slice A3 bs.length c3) bs) ∧ Below w.heap.size w wr) (fun i _ => bs.length - (intOf i).toNat)
    case atStart => exact ⟨0, Nat.zero_le _, rfl, by rw [Hid, HGET.out]; rfl, HI3.out, HB3.out⟩
    case round =>
      obtain ⟨k, hk, rfl, hge, hi4, hbl4⟩ := hrel
      clear HI3 HB3 HGET
      by_cases hlt : k < bs.length
      · obtain ⟨b, hb, _, _⟩ := getElem?_of_lt hlt
        obtain ⟨l, hl, htab⟩ := tabsAt_at HTB.out k b hb
        have hbr := HRN.out b (List.mem_of_getElem? hb)
        obtain ⟨bn, rfl⟩ := Int.eq_ofNat_of_zero_le (show 0 ≤ b by omega)
        rw [Int.toNat_natCast] at htab
        obtain ⟨A4, c4, e4, _, _, hcell⟩ := hi4.out.form
        obtain ⟨bb, oo, rfl, hbb, y1⟩ := hcell k _ hb
        cases e4
        have hT := tabget_any B p bn c l key wr (HCR.out.below hbl4) (by omega) HUP.out htab hks (maygetQ _ _)
        rw [entO_val'] at hT
        have HGN : Hid (s.get key = (getE l key).or (firstE (s.tabs.drop (k + 1)) key)) := by rw [Hid, hge.out, firstE_drop hl]
        have x0 := HC0.out wr hbl4
        have HB4 := Lib.hid hbl4
        have hs4 := hbl4.size
        have g1 : (0 : Int) ≤ (k : Int) := by omega
        have g2 : (k : Int) < (bs.length : Int) := by omega
        obtain ⟨y, hy⟩ : ∃ y, y = (getE l key).getD Ent.zero := ⟨_, rfl⟩
        rw [← hy, show y.val = .agg #[.string y.k, .string y.v, .bool y.g] from rfl] at hT
        cases hgl : getE l key with
        | some e0 =>
          rw [hgl] at hT hy HGN
          have HXE : Hid (y = e0) := hy
          have HGE : Hid (s.get key = some e0) := HGN.out
          have HT := Lib.hid hT
          clear hb hl htab hcell hbr hbl4 hT hgl hy HGN hge
          go_wp2_with fail
          refine HT.out.mono ?_
          rintro e5 w5 ⟨rfl, hb5⟩
          have hbE : Below w.heap.size w (w5.alloc (.cells #[.string y.k, .string y.v, .bool y.g] 56)) := (HB4.out.trans (hb5.mono hs4)).alloc (Nat.le_trans hs4 hb5.size) _
          have HBE := Lib.hid hbE
          clear hb5 hbE HT
          simp only [Option.isSome_some]
          go_wp2_with fail
          go_quiet (fail)
          go_wp2_with fail
          exact FIN.out _ _ _ (.string y.v) (.bool (!y.g)) HGE.out (below_drewN' HBE.out _) (by rw [HXE.out]; rfl) rfl rfl rfl
        | none =>
          rw [hgl] at hT hy HGN
          have HGE : Hid (s.get key = firstE (s.tabs.drop (k + 1)) key) := by rw [Hid, HGN.out, Option.none_or]
          have HT := Lib.hid hT
          clear hb hl htab hcell hbr hbl4 hT hgl hy HGN hge
          go_wp2_with fail
          refine HT.out.mono ?_
          rintro e5 w5 ⟨rfl, hb5⟩
          have hb5' : Below wr.heap.size wr (w5.alloc (.cells #[.string y.k, .string y.v, .bool y.g] 56)) := hb5.alloc hb5.size _
          have HBE := Lib.hid (HB4.out.trans (hb5'.mono hs4))
          have HI5 := Lib.hid (hi4.out.below hb5')
          clear hb5 hb5' HT
          simp only [Option.isSome_none]
          go_wp2_with fail
          go_roundw
          case rel => exact ⟨k + 1, by omega, by go_num, HGE, HI5, HBE.out⟩
          case measure => simp [intOf] <;> omega
      · have g2 : decide ((k : Int) < (bs.length : Int)) = false := decide_eq_false (by omega)
        have HGE : Hid (s.get key = none) := by
          have := HTL.out
          rw [Hid, hge.out, List.drop_eq_nil_of_le (by omega)]
          rfl
        go_wp2_with fail
        exact FIN.out _ _ none (.string ByteArray.empty) (.bool false) HGE.out hbl4 rfl rfl rfl rfl
end Go.Proofs.YtaepdbkfaoiimabGreatDoor
/- The contract of store.Check. Conditions: the store is sound. -/
set_option linter.unusedVariables false
set_option linter.unusedSimpArgs false
namespace Go.Proofs.YtaepdbkfaoiimabGreatDoor
open Go.RowKit
attribute [local go_sem ↓] eql_err eql_nilerr neq_err neq_nilerr guard_err guard_nilerr guardn_err guardn_nilerr
theorem rows_rise {c : Chip} {s : SM} (h : Inv c s) : Rises s.rows := by
  unfold SM.rows rowsOf
  exact rises_live (rises_mergeAll (fun l hl => by
    rcases List.mem_cons.1 hl with rfl | hl
    · exact h.body.mem
    · exact h.body.tab l hl))
set_option maxRecDepth 20000 in
set_option maxHeartbeats 4000000 in
theorem scheck_any (B : Nat) (q p : Nat) (c : Chip) (s : SM) (F : List Nat) (v : Value) (l : List Ent) (w : World) (h : StoreR B w q p s F) (hc : ChipR B w p c) (hi : Inv c s) (hl : Ents B w v l) :
    Calls Tryz.prog 95 #[.pointer (some ⟨q, 0, none⟩), v] w fun e w' => e = .returned (errV (checkM s l)) ∧ Below w.heap.size w w' := by
  obtain ⟨A, cp, rfl, hc1, hc2, _⟩ := hl.form
  have HL := Lib.hid hl
  by_cases hn : l.length = 0 ∨ 4 < l.length
  · have HF : Hid (checkM s l = 2) := if_pos hn
    clear h hc hi hl
    by_cases h0 : l.length = 0
    · have t12 : ((l.length : Int) == 0) = true := by rw [beq_iff_eq]; omega
      clear hn
      go_enter Tryz.func95, Tryz.ntmps95
      go_wp2_with fail
      go_ret
      exact ⟨by rw [HF.out]; rfl, Below.refl _ _⟩
    · have t12 : ((l.length : Int) == 0) = false := by rw [beq_eq_false_iff_ne]; omega
      have t16 : decide ((4 : Int) < (l.length : Int)) = true := decide_eq_true (by omega)
      clear hn
      go_enter Tryz.func95, Tryz.ntmps95
      go_wp2_with fail
      go_ret
      exact ⟨by rw [HF.out]; rfl, Below.refl _ _⟩
  have HC0 : Hid (checkM s l = if bytesF l ≠ 0 then bytesF l else if 40 < (liveE (l.foldl putE s.rows)).length then 8 else 0) := if_neg hn
  have t12 : ((l.length : Int) == 0) = false := by rw [beq_eq_false_iff_ne]; omega
  have t16 : decide ((4 : Int) < (l.length : Int)) = false := decide_eq_false (by omega)
  have hl4 : l.length ≤ 4 := by omega
  have HBY := Lib.hid (bytes_any B _ l w hl (by omega))
  clear hn
  by_cases hb : bytesF l = 0
  case neg =>
    have HF : Hid (checkM s l = bytesF l) := by rw [Hid, HC0.out, if_pos hb]
    have he : errV (bytesF l) = .iface 39 (.int .i64 (bytesF l)) := if_neg hb
    have HE := Lib.hid he
    rw [he] at HBY
    clear h hc hi hl hb he HC0
    go_enter Tryz.func95, Tryz.ntmps95
    go_wp2_with fail
    refine HBY.out.mono ?_
    rintro e w1 ⟨rfl, hb1⟩
    go_wp2_with fail
    go_ret
    exact ⟨by rw [HF.out, HE.out]; rfl, hb1⟩
  have HF0 : Hid (checkM s l = if 40 < (liveE (l.foldl putE s.rows)).length then 8 else 0) := by rw [Hid, HC0.out, if_neg (by simp [hb])]
  rw [hb, show errV 0 = Value.nilIface from rfl] at HBY
  have HRI := Lib.hid (rows_rise hi)
  have hrl := hi.body.rows
  have HRO := Lib.hid (fun W (hW : Below w.heap.size w W) => srows_any B q p c s F W (h.below hW) (hc.below hW) hi)
  clear h hc hi hl hb HC0
  go_enter Tryz.func95, Tryz.ntmps95
  go_wp2_with fail
  refine HBY.out.mono ?_
  rintro e w1 ⟨rfl, hb1⟩
  have HB1 := Lib.hid hb1
  have HR1 := Lib.hid (HRO.out w1 hb1)
  clear hb1 HBY HRO
  go_wp2_with fail
  refine HR1.out.mono ?_
  rintro e w2 ⟨v2, rfl, hv2, hb2⟩
  have HV2 := Lib.hid hv2
  have HB2 := Lib.hid (HB1.out.trans (hb2.mono HB1.out.size))
  clear hv2 hb2 HR1 HB1
  generalize s.rows = rws at *
  go_wp2_with fail
  go_loopw [7, 37] (fun u i wr => ∃ k : Nat, i = .int .i64 (k : Int) ∧ k ≤ l.length ∧ Hid (Ents B wr u ((l.take k).foldl putE rws)) ∧ Hid (Below w.heap.size w wr)) (fun _ i _ => l.length - (intOf i).toNat)
  case atStart => exact ⟨0, rfl, Nat.zero_le _, HV2.out, HB2.out⟩
  case round =>
    obtain ⟨k, rfl, hk, hu, hbl⟩ := hrel
    by_cases hlt : k < l.length
    · obtain ⟨y, hy, hty, _⟩ := getElem?_of_lt hlt
      obtain ⟨A', cp', e, _, _, hcell⟩ := (HL.out.below hbl.out).form
      cases e
      obtain ⟨bb, oo, rfl, hbb, y1, y2, y3⟩ := hcell k y hy
      have hyok := HL.out.2 y (List.mem_of_getElem? hy)
      have hnext : (l.take (k + 1)).foldl putE rws = merge2 [y] ((l.take k).foldl putE rws) := by
        rw [hty, List.foldl_append]
        show putE _ y = _
        exact putE_eq y _ (rises_puts _ HRI.out)
      have HNX := Lib.hid hnext
      have hal : ((l.take k).foldl putE rws).length ≤ 1000000 := by
        have h1 := puts_len (l.take k) rws
        have h2 : (l.take k).length ≤ l.length := List.length_take_le' _ _
        omega
      have h1 : Ents B ((wr.alloc (.cells #[.string y.k, .string y.v, .bool y.g] 56)).alloc (.cells #[.string y.k, .string y.v, .bool y.g] 56)) (.slice (some ⟨wr.heap.size + 1, 0, none⟩) 1 1) [y] :=
        ⟨rd_lit3 B (wr.alloc (.cells #[.string y.k, .string y.v, .bool y.g] 56)) _ (World.size_alloc _ _) y.k y.v y.g, fun e he => by simp at he; subst he; exact hyok⟩
      have hb2 : Below wr.heap.size wr ((wr.alloc (.cells #[.string y.k, .string y.v, .bool y.g] 56)).alloc (.cells #[.string y.k, .string y.v, .bool y.g] 56)) := ((Below.refl _ _).alloc (Nat.le_refl _) _).alloc (by simp) _
      have HTW := Lib.hid (two_any B _ u7 [y] ((l.take k).foldl putE rws) _ h1 (hu.out.below hb2) (by simp) hal)
      have HB3 : Hid (Below w.heap.size w ((wr.alloc (.cells #[.string y.k, .string y.v, .bool y.g] 56)).alloc (.cells #[.string y.k, .string y.v, .bool y.g] 56))) := hbl.out.trans (hb2.mono hbl.out.size)
      have g1 : (0 : Int) ≤ (k : Int) := by omega
      have g2 : (k : Int) < (l.length : Int) := by omega
      clear h1 hb2 hnext hcell hy hty hyok
      go_wp2_with fail
      refine HTW.out.mono ?_
      rintro e w5 ⟨v5, rfl, hv5, hb5⟩
      rw [← HNX.out] at hv5
      have HV5 := Lib.hid hv5
      have HB5 := Lib.hid (HB3.out.trans (hb5.mono HB3.out.size))
      clear hv5 hb5 HTW
      go_wp2_with fail
      go_roundw
      case rel => exact ⟨k + 1, by go_num, by omega, HV5.out, HB5.out⟩
      case measure => simp [intOf] <;> omega
    · obtain rfl : k = l.length := by omega
      have g2 : decide ((l.length : Int) < (l.length : Int)) = false := by simp
      rw [List.take_length] at hu
      have hal := puts_len l rws
      generalize l.foldl putE rws = R at *
      have HLV := Lib.hid (live_any B u7 R wr hu.out (by omega))
      by_cases h40 : 40 < (liveE R).length
      · have t49 : decide ((40 : Int) < ((liveE R).length : Int)) = true := decide_eq_true (by omega)
        have HF : Hid (checkM s l = 8) := by rw [Hid, HF0.out, if_pos h40]
        clear h40
        go_wp2_with fail
        refine HLV.out.mono ?_
        rintro e w5 ⟨v5, rfl, hv5, hb5⟩
        obtain ⟨A5, c5, rfl, _, _, kX⟩ := hv5.form
        have HB5 := Lib.hid (hbl.out.trans (hb5.mono hbl.out.size))
        clear hv5 hb5 kX HLV
        go_wp2_with fail
        go_ret
        exact ⟨by rw [HF.out]; rfl, HB5.out⟩
      · have t49 : decide ((40 : Int) < ((liveE R).length : Int)) = false := decide_eq_false (by omega)
        have HF : Hid (checkM s l = 0) := by rw [Hid, HF0.out, if_neg h40]
        clear h40
        go_wp2_with fail
        refine HLV.out.mono ?_
        rintro e w5 ⟨v5, rfl, hv5, hb5⟩
        obtain ⟨A5, c5, rfl, _, _, kX⟩ := hv5.form
        have HB5 := Lib.hid (hbl.out.trans (hb5.mono hbl.out.size))
        clear hv5 hb5 kX HLV
        go_wp2_with fail
        go_ret
        exact ⟨by rw [HF.out]; rfl, HB5.out⟩
end Go.Proofs.YtaepdbkfaoiimabGreatDoor
