/- TopOld returns true at every input, and leaves it as it was. Conditions: none. -/
import Derived.Test.YtaepdbkfaoiimacMh
set_option linter.unusedVariables false
set_option linter.unusedSimpArgs false
namespace Go.Proofs.Ytaepdbkfaoiimac
open Go.ChangeShapes Go.WideShapes Go.ChangeAt Go.RowKit Go.WideMaps Go.WideElems
open Go.ChangeMaps (open_string shut_string)
attribute [local go_sem ↓] eql_err eql_nilerr neq_err neq_nilerr guard_err guard_nilerr guardn_err guardn_nilerr
theorem empty_lt {k : ByteArray} (h : k.toList ≠ []) : ltB ByteArray.empty k = true := by
  unfold ltB
  rw [(toList_nil ByteArray.empty).2 rfl]
  cases hk : k.toList with
  | nil => exact absurd hk h
  | cons a l => rfl
/-- The keys that are to come rise, from a key on. -/
structure Ahead (key : ByteArray) (R : List Ent) : Prop where
  rise : Rises R
  live : ∀ e ∈ R, e.g = false
  from_ : ∀ e ∈ R, ltB key e.k = true
theorem Ahead.step {key : ByteArray} {x : Ent} {R : List Ent} (h : Ahead key (x :: R)) : x.g = false ∧ Op.bytesLess x.k.toList key.toList = false ∧ (x.k.toList == key.toList) = false ∧ Ahead x.k R := by
  have h1 := h.from_ x (by simp)
  obtain ⟨h2, h3⟩ := rises_cons.1 h.rise
  exact ⟨h.live x (by simp), ltB_asymm h1, by rw [ba_beq]; simp [(ltB_ne h1).symm], ⟨h3, fun e he => h.live e (by simp [he]), h2⟩⟩
def restO (old : List (List Ent)) (n : Nat) : List Ent := (old.drop n).flatten
theorem restO_at {old : List (List Ent)} {n : Nat} {l : List Ent} (h : old[n]? = some l) : restO old n = l ++ restO old (n + 1) := by
  unfold restO
  obtain ⟨h1, e1⟩ := List.getElem?_eq_some_iff.1 h
  rw [List.drop_eq_getElem_cons h1, e1, List.flatten_cons]
theorem old_at {c : Chip} {s : SM} (hi : Inv c s) {n : Nat} {b : Int} (h : s.m.od[n]? = some b) : ∃ l, (s.tabs.drop s.m.nw.length)[n]? = some l ∧ TabAt c b.toNat l ∧ 2 ≤ b ∧ b < 24 := by
  have h1 : (s.m.nw ++ s.m.od)[s.m.nw.length + n]? = some b := by rw [List.getElem?_append_right (by omega), Nat.add_sub_cancel_left]; exact h
  obtain ⟨l, h2, h3⟩ := tabsAt_at hi.body.tabs _ b h1
  have hr := hi.body.rng b (by simp [Man.all, List.mem_of_getElem? h])
  exact ⟨l, by rw [List.getElem?_drop]; exact h2, h3, by omega, by omega⟩
theorem old_ahead {c : Chip} {s : SM} (hi : Inv c s) : Ahead ByteArray.empty (restO (s.tabs.drop s.m.nw.length) 0) := by
  unfold restO
  rw [List.drop_zero]
  refine ⟨hi.body.old.1, hi.body.old.2, fun e he => ?_⟩
  obtain ⟨l, hl, hel⟩ := List.mem_flatten.1 he
  exact empty_lt (faultE_zero (chkT_all (tabF_parts (tabsAt_ok hi.body.tabs l (List.mem_of_mem_drop hl))).2.2 e hel)).1
set_option maxRecDepth 20000 in
set_option maxHeartbeats 4000000 in
theorem topOld_walk (va : Value) (l : List Act) (w : World) (ha : ActsR w.heap.size w va l) :
    Calls Try.prog 10 #[va] w fun e w' => e = .returned (.bool true) ∧ Below w.heap.size w w' := by
  have HWO := Lib.hid (works_any w)
  have HFI := Lib.hid (fun W (hW : Below w.heap.size w W) => filled_any w.heap.size va l W (acts_below ha hW) hW.size)
  clear ha
  cases hg : filG l
  · have HF0 := Lib.hid (fun W hW => fil_no hg (HFI.out W hW))
    clear hg HFI
    go_enter Try.func10, Try.ntmps10
    go_wp2_with (first
      | (go_at_call 11; refine HWO.out.mono ?_; rintro e w1 ⟨rfl, hb1⟩)
      | (go_at_call 12; refine (HF0.out w1 hb1).mono ?_; rintro e w2 ⟨rfl, rfl⟩))
    go_ret
    exact ⟨rfl, hb1⟩
  have HF1 := Lib.hid (fun W hW => fil_yes hg (HFI.out W hW))
  have hl80 := filG_len hg
  clear hg HFI
  go_enter Try.func10, Try.ntmps10
  go_wp2_with (first
    | (go_at_call 11; refine HWO.out.mono ?_; rintro e w1 ⟨rfl, hb1⟩)
    | (go_at_call 12; refine (HF1.out w1 hb1).mono ?_; rintro e w2 ⟨p, q, rfl, c, s, F, hst, hrw, hFw, hpw, hb2⟩))
  have hnl := hst.ok.inv.body.nwl
  have hol := hst.ok.inv.body.odl
  have HMA := Lib.hid (sman_any w1.heap.size q p s F w2 hst.st (by omega) (by omega))
  have HB2 := Lib.hid (And.intro hb2 hb1.size)
  have HB01 := Lib.hid hb1
  have HS2 := Lib.hid hst
  have HAT := Lib.hid (fun n b hb => old_at (n := n) (b := b) hst.ok.inv hb)
  have HAH := Lib.hid (old_ahead hst.ok.inv)
  have HUP := Lib.hid hst.ok.inv.up
  clear hst hrw hFw hpw hb2 hb1 HWO HF1
  refine HMA.out.mono ?_
  rintro e w3 ⟨A3, c3, A4, c4, rfl, hn3, ho3, hb3⟩
  obtain ⟨_, _, e4, _, _, hcell⟩ := ho3.form
  cases e4
  have HC3 := Lib.hid hcell
  have hg3 := Blk.new w3 52 #[.int .i64 s.m.ep, .int .i64 s.m.log, .slice A3 s.m.nw.length c3, .slice A4 s.m.od.length c4]
  have hb34 : Below w3.heap.size w3 (w3.alloc (.cells #[.int .i64 s.m.ep, .int .i64 s.m.log, .slice A3 s.m.nw.length c3, .slice A4 s.m.od.length c4] 52)) := (Below.refl _ _).alloc (Nat.le_refl _) _
  have HB4 : Hid (Below w1.heap.size w1 (w3.alloc (.cells #[.int .i64 s.m.ep, .int .i64 s.m.log, .slice A3 s.m.nw.length c3, .slice A4 s.m.od.length c4] 52))) := (HB2.out.1.trans (hb3.mono HB2.out.1.size)).trans (hb34.mono (HB2.out.1.trans (hb3.mono HB2.out.1.size)).size)
  have HS4 : Hid (StS w1.heap.size (w3.alloc (.cells #[.int .i64 s.m.ep, .int .i64 s.m.log, .slice A3 s.m.nw.length c3, .slice A4 s.m.od.length c4] 52)) q p l.length (weakN l) c s F) := (HS2.out.below hb3).below hb34
  have HG4 := Lib.hid hg3
  have HB34 := Lib.hid hb34
  clear hn3 ho3 hcell hb3 hg3 hb34 HMA
  go_wp2_with fail
  generalize hW : (w3.alloc (.cells #[.int .i64 s.m.ep, .int .i64 s.m.log, .slice A3 s.m.nw.length c3, .slice A4 s.m.od.length c4] 52)) = W at *
  generalize hgg : w3.heap.size = g at *
  clear hW
  have HGC : Hid (∀ W', Below W.heap.size W W' → W'.cell? ⟨g, 3, none⟩ = some (.slice A4 s.m.od.length c4)) := by
    intro W' hb
    have h := (HG4.out.below hb HG4.out.lt).cell 3
    simpa using h
  have HOC : Hid (∀ n b, s.m.od[n]? = some b → ∃ bb oo, A4 = some ⟨bb, oo, none⟩ ∧ ∀ W', Below W.heap.size W W' → W'.cell? ⟨bb, oo + n, none⟩ = some (.int .i64 b)) := by
    intro n b hb
    obtain ⟨bb, oo, e, h1, h2⟩ := HC3.out n b hb
    refine ⟨bb, oo, e, fun W' hW' => ?_⟩
    have h3 := (HB34.out.cell (p := ⟨bb, oo + n, none⟩) (by show bb < g; omega)).trans h2
    exact (hW'.cell (p := ⟨bb, oo + n, none⟩) (by have h5 := HB34.out.size; rw [hgg] at h5; exact Nat.lt_of_lt_of_le h1 h5)).trans h3
  clear HC3 HB34 HG4
  generalize hold : s.tabs.drop s.m.nw.length = old at *
  go_loopw [7, 8] (fun ky i wr => ∃ (n : Nat) (kb : ByteArray), ky = .string kb ∧ i = .int .i64 n ∧ n ≤ s.m.od.length ∧ Hid (Ahead kb (restO old n)) ∧ Hid (Below W.heap.size W wr)) (fun _ i _ => s.m.od.length - (intOf i).toNat)
  case atStart => exact ⟨0, ByteArray.empty, rfl, rfl, Nat.zero_le _, HAH.out, Below.refl _ _⟩
  case round =>
    obtain ⟨n, kb, rfl, rfl, hn, hah, hbl⟩ := hrel
    have y3 := HGC.out wr hbl.out
    by_cases hlt : n < s.m.od.length
    · obtain ⟨b, hb, _, _⟩ := getElem?_of_lt hlt
      obtain ⟨bb, oo, rfl, hcb⟩ := HOC.out n b hb
      have d0 := hcb wr hbl.out
      obtain ⟨x, hx, htab, hb2, hb24⟩ := HAT.out n b hb
      obtain ⟨bn, rfl⟩ := Int.eq_ofNat_of_zero_le (show 0 ≤ b by omega)
      rw [Int.toNat_natCast] at htab
      have HTA := Lib.hid (taball_any w1.heap.size p bn c x wr (HS4.out.below hbl.out).ch (by omega) HUP.out htab)
      have hah2 := hah.out
      rw [restO_at hx] at hah2
      have HAX := Lib.hid hah2
      have g1 : (0 : Int) ≤ (n : Int) := by omega
      have g2 : (n : Int) < (s.m.od.length : Int) := by omega
      clear hcb hx htab hah2 hb
      obtain ⟨wo, hwo⟩ : ∃ wo : World, wo = wr := ⟨_, rfl⟩
      go_wp2_with fail
      refine HTA.out.mono ?_
      rintro e w5 ⟨v5, rfl, hv5, hb5⟩
      obtain ⟨A5, c5, rfl, _, _, hcell⟩ := hv5.form
      have HC5 := Lib.hid hcell
      have HB5 := Lib.hid (hbl.out.trans (hb5.mono hbl.out.size))
      clear hv5 hcell hb5 HTA d0
      go_wp2_with fail
      go_loop [7, 11] (fun ky i => ∃ (m : Nat) (kb : ByteArray), ky = .string kb ∧ i = .int .i64 m ∧ m ≤ x.length ∧ Hid (Ahead kb (x.drop m ++ restO old (n + 1)))) (fun _ i => x.length - (intOf i).toNat)
      case atStart => exact ⟨0, kb, rfl, rfl, Nat.zero_le _, HAX.out⟩
      case round =>
        obtain ⟨m, kb', rfl, rfl, hm, hah'⟩ := hrel
        by_cases hmx : m < x.length
        · obtain ⟨y, hy, _, hdr⟩ := getElem?_of_lt hmx
          obtain ⟨b', o', rfl, hbb', z1, z2, z3⟩ := HC5.out m y hy
          have h2 := hah'.out
          rw [hdr, List.cons_append] at h2
          obtain ⟨t1, t2, t3, h3⟩ := h2.step
          have HA3 := Lib.hid h3
          rw [t1] at z3
          have g3 : (0 : Int) ≤ (m : Int) := by omega
          have g4 : (m : Int) < (x.length : Int) := by omega
          clear h2 h3 hy hdr t1
          go_wp2_with fail
          go_round
          case rel => exact ⟨m + 1, y.k, rfl, by go_num, by omega, HA3.out⟩
          case measure => simp [intOf] <;> omega
        · have h2 := hah'.out
          rw [List.drop_eq_nil_of_le (by omega), List.nil_append] at h2
          have HA3 := Lib.hid h2
          have t47 : decide ((m : Int) < (x.length : Int)) = false := decide_eq_false (by omega)
          clear h2
          go_wp2_with fail
          go_roundw
          case rel => exact ⟨n + 1, kb', rfl, by go_num, by omega, HA3.out, HB5.out⟩
          case measure => simp [intOf] <;> omega
    · have t29 : decide ((n : Int) < (s.m.od.length : Int)) = false := decide_eq_false (by omega)
      go_wp2_with fail
      go_ret
      exact ⟨rfl, HB01.out.trans ((HB4.out.trans (hbl.out.mono HB4.out.size)).mono HB01.out.size)⟩

-- CLOSING

set_option maxRecDepth 100000 in
theorem topOld_holds : Rows.TopOldSaid :=
  OpenClaim.holds_of_wide 10 Try.f10 rfl rfl rfl rfl rfl rfl rfl ⟨rfl, rfl, rfl, rfl, rfl⟩ rfl rfl rfl rfl rfl (by kernel_rfl) Try.func10 (by kernel_rfl)
    (of_decide_eq_true (by kernel_rfl)) (by unfold Func.isWrapper; first | (rw [if_pos (by decide +kernel)]; kernel_rfl) | (rw [if_neg (by decide +kernel)]; exact ⟨rfl, rfl⟩))
    (fun os started H enc _ => close_lifted Rows.topOldSpec 10 Try.f10 os started H enc (by kernel_rfl) Try.func10 (by kernel_rfl) rfl
      (fun ds hd => by
        rw [Try.params10] at hd
        match ds, hd with
        | [d1], _ => rfl)
      (by kernel_rfl)
      (ChangeSpec.witness6 (enc := enc) (C := Try.checked) false ⟨#[], #[.slice none 0 0], []⟩ 8 (by kernel_rfl) (by kernel_rfl) (by kernel_rfl) (by kernel_rfl))
      (fun W base args ds p hval hA => by
        rw [Try.params10] at hA hval
        obtain ⟨v0, d0, hargs, rfl, h0⟩ := trodAll_one hA
        obtain rfl : args = #[v0] := by cases args; simp_all
        obtain ⟨l0, hl0⟩ := acts_of (hval 0 _ v0 rfl rfl) h0
        exact topOld_walk v0 l0 W hl0))
#print axioms topOld_holds
end Go.Proofs.Ytaepdbkfaoiimac
