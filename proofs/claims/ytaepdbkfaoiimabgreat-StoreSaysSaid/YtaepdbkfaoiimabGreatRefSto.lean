/- The contracts of the reference's store: After, WriteFault, Write. Conditions: lists of at most a million entries. -/
import Derived.Test.YtaepdbkfaoiimabGreatMg
set_option linter.unusedVariables false
set_option linter.unusedSimpArgs false
namespace Go.Proofs.YtaepdbkfaoiimabGreat
open Go.RowKit
/-- The reference's store lies in block m and has these rows. -/
structure RS (B : Nat) (W : World) (m : Nat) (r : List Ent) : Prop where
  blk : ∃ v, Blk W m 39 #[v] ∧ Ents B W v r
  ge : B ≤ m
section
variable {B m : Nat} {w w' : World} {r : List Ent}
theorem RS.below (h : RS B w m r) (hb : Below w.heap.size w w') : RS B w' m r := by
  obtain ⟨⟨v, h1, h2⟩, h3⟩ := h
  exact ⟨⟨v, h1.below hb h1.lt, h2.below hb⟩, h3⟩
theorem RS.drewN (h : RS B w m r) (n : Nat) : RS B (w.drewN n) m r := h.below (below_drewN' (Below.refl _ _) n)
theorem RS.lt (h : RS B w m r) : m < w.heap.size := by obtain ⟨⟨v, h1, _⟩, _⟩ := h; exact h1.lt
/-- What another store does leaves it. -/
theorem RS.fr {M : Nat → Prop} (h : RS B w m r) (hf : Fr B M w w') (hM : ¬ M m) : RS B w' m r := by
  obtain ⟨⟨v, h1, h2⟩, h3⟩ := h
  exact ⟨⟨v, h1.fr hf (.inr (.inl hM)), h2.fr hf⟩, h3⟩
end
set_option maxHeartbeats 2000000 in
theorem rafter_any (B m : Nat) (v : Value) (r l : List Ent) (w : World) (hm : RS B w m r) (hl : Ents B w v l) (hn : r.length + l.length ≤ 1000000) :
    Calls Tryz.prog 36 #[.pointer (some ⟨m, 0, none⟩), v] w fun e w' => ∃ u, e = .returned u ∧ Ents B w' u (liveE (l.foldl putE r)) ∧ Below w.heap.size w w' := by
  obtain ⟨A, cp, rfl, hc1, hc2, _⟩ := hl.form
  obtain ⟨⟨vr, hmb, hvr⟩, hBm⟩ := hm
  have HL := Lib.hid hl
  have HR := Lib.hid hvr
  have x0 := hmb.cell 0
  simp at x0
  clear hmb hl hvr
  go_enter Tryz.func36, Tryz.ntmps36
  go_wp2_with fail
  go_loopw [5, 6] (fun u i wr => ∃ k : Nat, i = .int .i64 (k : Int) ∧ k ≤ l.length ∧ Hid (Ents B wr u ((l.take k).foldl putE r)) ∧ Hid (Below w.heap.size w wr)) (fun _ i _ => l.length - (intOf i).toNat)
  case atStart => exact ⟨0, rfl, Nat.zero_le _, HR.out, Below.refl _ _⟩
  case round =>
    obtain ⟨k, rfl, hk, hu, hbl⟩ := hrel
    by_cases hlt : k < l.length
    · obtain ⟨y, hy, hty, _⟩ := getElem?_of_lt hlt
      obtain ⟨A', cp', e, _, _, hcell⟩ := (HL.out.below hbl.out).form
      cases e
      obtain ⟨bb, oo, rfl, hbb, y1, y2, y3⟩ := hcell k y hy
      have hyok := HL.out.2 y (List.mem_of_getElem? hy)
      have HNX : Hid ((l.take (k + 1)).foldl putE r = putE ((l.take k).foldl putE r) y) := by
        rw [Hid, hty, List.foldl_append]; rfl
      have hal : ((l.take k).foldl putE r).length ≤ 1000000 := by
        have h1 := foldl_put_len (l.take k) r
        have h2 : (l.take k).length ≤ l.length := List.length_take_le' _ _
        omega
      have HP := Lib.hid (rput_any B u5 ((l.take k).foldl putE r) y wr hu.out hal hyok)
      have g1 : (0 : Int) ≤ (k : Int) := by omega
      have g2 : (k : Int) < (l.length : Int) := by omega
      clear hcell hy hty hyok
      go_wp2_with fail
      refine HP.out.mono ?_
      rintro e w5 ⟨v5, rfl, hv5, hb5⟩
      rw [← HNX.out] at hv5
      have HV5 := Lib.hid hv5
      have HB5 := Lib.hid (hbl.out.trans (hb5.mono hbl.out.size))
      clear hv5 hb5 HP
      go_wp2_with fail
      go_roundw
      case rel => exact ⟨k + 1, by go_num, by omega, HV5.out, HB5.out⟩
      case measure => simp [intOf] <;> omega
    · obtain rfl : k = l.length := by omega
      have g2 : decide ((l.length : Int) < (l.length : Int)) = false := by simp
      rw [List.take_length] at hu
      have hal := foldl_put_len l r
      generalize hR : l.foldl putE r = R at *
      have HLV := Lib.hid (rlive_any B u5 R wr hu.out (by omega))
      go_wp2_with fail
      refine HLV.out.mono ?_
      rintro e w5 ⟨v5, rfl, hv5, hb5⟩
      have HB5 := Lib.hid (hbl.out.trans (hb5.mono hbl.out.size))
      have HV5 := Lib.hid hv5
      clear hv5 hb5 HLV
      go_wp2_with fail
      go_ret
      exact ⟨_, rfl, by rw [hR]; exact HV5.out, HB5.out⟩
set_option maxHeartbeats 2000000 in
theorem rwfault_any (B m : Nat) (v : Value) (r l : List Ent) (w : World) (hm : RS B w m r) (hl : Ents B w v l) (hn : r.length ≤ 1000) :
    Calls Tryz.prog 12 #[.pointer (some ⟨m, 0, none⟩), v] w fun e w' => e = .returned (.int .i64 (checkR r l)) ∧ Below w.heap.size w w' := by
  obtain ⟨A, cp, rfl, hc1, hc2, _⟩ := hl.form
  by_cases hn4 : l.length = 0 ∨ 4 < l.length
  · have HF : Hid (checkR r l = 2) := if_pos hn4
    clear hm hl
    by_cases h0 : l.length = 0
    · have t9 : decide ((l.length : Int) < 1) = true := decide_eq_true (by omega)
      clear hn4
      go_enter Tryz.func12, Tryz.ntmps12
      go_wp2_with fail
      go_ret
      exact ⟨by rw [HF.out]; rfl, Below.refl _ _⟩
    · have t9 : decide ((l.length : Int) < 1) = false := decide_eq_false (by omega)
      have t13 : decide ((4 : Int) < (l.length : Int)) = true := decide_eq_true (by omega)
      clear hn4
      go_enter Tryz.func12, Tryz.ntmps12
      go_wp2_with fail
      go_ret
      exact ⟨by rw [HF.out]; rfl, Below.refl _ _⟩
  have HC0 : Hid (checkR r l = if bytesF l ≠ 0 then bytesF l else if 40 < (liveE (l.foldl putE r)).length then 8 else 0) := if_neg hn4
  have t9 : decide ((l.length : Int) < 1) = false := decide_eq_false (by omega)
  have t13 : decide ((4 : Int) < (l.length : Int)) = false := decide_eq_false (by omega)
  have hl4 : l.length ≤ 4 := by omega
  have HBY := Lib.hid (rbytes_any B _ l w hl (by omega))
  have HAF := Lib.hid (fun W (hW : Below w.heap.size w W) => rafter_any B m _ r l W (hm.below hW) (hl.below hW) (by omega))
  clear hn4 hm hl
  by_cases hb : bytesF l = 0
  case neg =>
    have HF : Hid (checkR r l = bytesF l) := by rw [Hid, HC0.out, if_pos hb]
    have t21 : decide ((0 : Int) < (bytesF l : Int)) = true := decide_eq_true (by omega)
    have t21n : decide (0 < bytesF l) = true := decide_eq_true (by omega)
    clear hb HC0 HAF
    go_enter Tryz.func12, Tryz.ntmps12
    go_wp2_with fail
    refine HBY.out.mono ?_
    rintro e w1 ⟨rfl, hb1⟩
    go_wp2_with fail
    go_ret
    exact ⟨by rw [HF.out]; rfl, hb1⟩
  have HF0 : Hid (checkR r l = if 40 < (liveE (l.foldl putE r)).length then 8 else 0) := by rw [Hid, HC0.out, if_neg (by simp [hb])]
  rw [hb] at HBY
  clear hb HC0
  go_enter Tryz.func12, Tryz.ntmps12
  go_wp2_with fail
  refine HBY.out.mono ?_
  rintro e w1 ⟨rfl, hb1⟩
  have HB1 := Lib.hid hb1
  have HA1 := Lib.hid (HAF.out w1 hb1)
  clear hb1 HBY HAF
  generalize liveE (l.foldl putE r) = R at *
  by_cases h40 : 40 < R.length
  · have t27 : decide ((40 : Int) < (R.length : Int)) = true := decide_eq_true (by omega)
    have HF : Hid (checkR r l = 8) := by rw [Hid, HF0.out, if_pos h40]
    clear h40
    go_wp2_with fail
    refine HA1.out.mono ?_
    rintro e w5 ⟨v5, rfl, hv5, hb5⟩
    obtain ⟨A5, c5, rfl, _, _, kX⟩ := hv5.form
    have HB5 := Lib.hid (HB1.out.trans (hb5.mono HB1.out.size))
    clear hv5 hb5 kX HA1
    go_wp2_with fail
    go_ret
    exact ⟨by rw [HF.out]; rfl, HB5.out⟩
  · have t27 : decide ((40 : Int) < (R.length : Int)) = false := decide_eq_false (by omega)
    have HF : Hid (checkR r l = 0) := by rw [Hid, HF0.out, if_neg h40]
    clear h40
    go_wp2_with fail
    refine HA1.out.mono ?_
    rintro e w5 ⟨v5, rfl, hv5, hb5⟩
    obtain ⟨A5, c5, rfl, _, _, kX⟩ := hv5.form
    have HB5 := Lib.hid (HB1.out.trans (hb5.mono HB1.out.size))
    clear hv5 hb5 kX HA1
    go_wp2_with fail
    go_ret
    exact ⟨by rw [HF.out]; rfl, HB5.out⟩
set_option maxHeartbeats 2000000 in
theorem rwrite_any (B m : Nat) (v : Value) (r l : List Ent) (w : World) (hm : RS B w m r) (hl : Ents B w v l) (hn : r.length ≤ 1000) :
    Calls Tryz.prog 14 #[.pointer (some ⟨m, 0, none⟩), v] w fun e w' => e = .returned (.int .i64 (checkR r l)) ∧ RS B w' m (rowsW r l) ∧ Fr B (· = m) w w' := by
  obtain ⟨A, cp, rfl, hc1, hc2, _⟩ := hl.form
  have HWF := Lib.hid (rwfault_any B m _ r l w hm hl hn)
  by_cases h0 : checkR r l = 0
  case neg =>
    have t10 : decide ((0 : Int) < (checkR r l : Int)) = true := decide_eq_true (by omega)
    have t10n : decide (0 < checkR r l) = true := decide_eq_true (by omega)
    have HF : Hid (rowsW r l = r) := if_neg h0
    have HM := Lib.hid hm
    clear h0 hm hl
    go_enter Tryz.func14, Tryz.ntmps14
    go_wp2_with fail
    refine HWF.out.mono ?_
    rintro e w1 ⟨rfl, hb1⟩
    go_wp2_with fail
    go_ret
    exact ⟨rfl, by rw [HF.out]; exact HM.out.below hb1, Fr.of_below hb1⟩
  have hl4 : l.length ≤ 4 := by
    by_cases h : l.length = 0 ∨ 4 < l.length
    · rw [checkR, if_pos h] at h0; cases h0
    · omega
  have HF : Hid (rowsW r l = liveE (l.foldl putE r)) := if_pos h0
  have HAF := Lib.hid (fun W (hW : Below w.heap.size w W) => rafter_any B m _ r l W (hm.below hW) (hl.below hW) (by omega))
  have HM := Lib.hid hm
  rw [h0] at HWF ⊢
  clear h0 hm hl
  go_enter Tryz.func14, Tryz.ntmps14
  go_wp2_with fail
  refine HWF.out.mono ?_
  rintro e w1 ⟨rfl, hb1⟩
  have HB1 := Lib.hid hb1
  have HA1 := Lib.hid (HAF.out w1 hb1)
  clear hb1 HWF HAF
  go_wp2_with fail
  refine HA1.out.mono ?_
  rintro e w5 ⟨v5, rfl, hv5, hb5⟩
  obtain ⟨A5, c5, rfl, _, _, kX⟩ := hv5.form
  have hb05 := HB1.out.trans (hb5.mono HB1.out.size)
  obtain ⟨⟨vr, hmb, hvr⟩, hBm⟩ := HM.out.below hb05
  have hmlt := hmb.lt
  have x0 := hmb.cell 0
  have f0 := hmb.frozen 0
  simp at x0
  have HMB := Lib.hid hmb
  have HV5 := Lib.hid hv5
  have HB5 := Lib.hid hb05
  clear hmb hvr hv5 hb5 hb05 kX HA1
  go_wp2_with fail
  go_ret
  refine ⟨rfl, ⟨⟨_, HMB.out.set_ 0 _, ?_⟩, hBm⟩, ?_⟩
  · rw [HF.out]
    exact ⟨Rd.far' HV5.out.1 HMB.out hBm (by decide) _, HV5.out.2⟩
  · obtain ⟨⟨vq, hq, _⟩, _⟩ := HM.out
    exact (Fr.of_below HB5.out (M := (· = m))).setCell (p := ⟨m, 0, none⟩) hBm (.inl rfl) (fun _ => ⟨_, _, _, hq, by decide⟩) _
section
variable {B q p k j m : Nat} {w w' : World} {c : Chip} {s : SM} {F : List Nat} {r : List Ent}
/-- The reference's store lies in a block of its own. -/
theorem RS.apart (h : RS B w m r) (hs : StS B w q p k j c s F) : ∀ b ∈ q :: p :: F, b ≠ m := by
  obtain ⟨⟨v, hb, _⟩, _⟩ := h
  intro b hm e
  subst e
  rcases List.mem_cons.1 hm with rfl | hm
  · obtain ⟨A1, c1, A2, c2, t, n, h1, _⟩ := hs.st
    exact blk_ne hb h1 (by decide)
  rcases List.mem_cons.1 hm with rfl | hm
  · obtain ⟨V, u, hv, _⟩ := hs.ch
    exact blk_ne hb hv.blk (by decide)
  · obtain ⟨A1, c1, A2, c2, t, n, _, _, _, h4, _⟩ := hs.st
    exact h4.type hb (by decide) (by decide) hm
/-- What the store does leaves the reference's. -/
theorem RS.sto (h : RS B w m r) (hs : StS B w q p k j c s F) (hf : Fr B (· ∈ q :: p :: F) w w') : RS B w' m r :=
  h.fr hf fun (hm : m ∈ q :: p :: F) => h.apart hs m hm rfl
/-- What the reference's store does leaves the store. -/
theorem StS.ref (hs : StS B w q p k j c s F) (h : RS B w m r) (hf : Fr B (· = m) w w') : StS B w' q p k j c s F := by
  have ha := h.apart hs
  exact ⟨hs.st.fr hf fun b hb e => ha b (by rcases List.mem_cons.1 hb with h1 | h1 <;> simp [h1]) e, hs.ch.keep hf fun e => ha p (by simp) e, hs.ok⟩
theorem RS.new {v : Value} (hv : Ents B w v r) (hB : B ≤ w.heap.size) : RS B (w.alloc (.cells #[v] 39)) w.heap.size r :=
  ⟨⟨v, Blk.new w _ _, hv.below ((Below.refl _ _).alloc (Nat.le_refl _) _)⟩, hB⟩
end
end Go.Proofs.YtaepdbkfaoiimabGreat
