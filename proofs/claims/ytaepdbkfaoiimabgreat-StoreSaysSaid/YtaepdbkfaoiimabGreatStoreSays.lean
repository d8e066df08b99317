/- StoreSays returns true at every input, and leaves it as it was. Conditions: none. -/
import Derived.Test.YtaepdbkfaoiimabGreatRefSto
import Derived.Test.YtaepdbkfaoiimabGreatMg
set_option linter.unusedVariables false
set_option linter.unusedSimpArgs false
namespace Go.Proofs.YtaepdbkfaoiimabGreat
open Go.ChangeShapes Go.WideShapes Go.ChangeAt Go.RowKit Go.WideMaps Go.WideElems
open Go.ChangeMaps (open_string shut_string)
attribute [local go_sem ↓] eql_err eql_nilerr neq_err neq_nilerr guard_err guard_nilerr guardn_err guardn_nilerr
theorem kx_get : getE [eKX] ⟨#[107]⟩ = some eKX := by decide +kernel
def kOpenL : List UInt8 := [111, 112, 101, 110]
theorem checkM_R {c : Chip} {s : SM} (hi : Inv c s) (l : List Ent) : checkM s l = checkR s.rows l := rfl
theorem findR_new : findR Chip.new = (Man.zero, 0, 4) := rfl
set_option maxRecDepth 20000 in
/-- A chip that has nothing is not opened. -/
theorem open_none (B p : Nat) (w : World) (h : ChipR B w p Chip.new) :
    Calls Tryz.prog 7 #[.pointer (some ⟨p, 0, none⟩)] w fun e w' => e = .returned (.tuple #[.pointer none, errV 4]) ∧ Below w.heap.size w w' := by
  have fin : ∀ (wr : World) (tmps : Array Value), Below w.heap.size w wr → tmps[2]? = some (.pointer none) → tmps[3]? = some (errV 4) →
      bodyPost Tryz.prog Tryz.f7 (fun e w' => e = .returned (.tuple #[.pointer none, errV 4]) ∧ Below w.heap.size w w') .ret { tmps := tmps, defers := [] } wr := by
    intro wr tmps hb t2 t3
    exact bodyPost_ret (v := .tuple #[.pointer none, errV 4]) (by simp [results, Tryz.results7, go_sem, t2, t3]) rfl ⟨rfl, hb⟩
  have FIN := Lib.hid fin
  clear fin
  have hfd := find_any B p Chip.new w h
  rw [findR_new] at hfd
  have HFD := Lib.hid hfd
  clear hfd h
  go_enter Tryz.func7, Tryz.ntmps7
  go_wp2_with fail
  refine HFD.out.mono ?_
  rintro e w1 ⟨v1, rfl, ⟨vn, vo, rfl, hn, ho⟩, hb1⟩
  obtain ⟨A1, c1, rfl, _, _, _⟩ := hn.form
  obtain ⟨A2, c2, rfl, _, _, _⟩ := ho.form
  have HB1 := Lib.hid hb1
  clear hn ho hb1 HFD
  rw [show errV (Man.zero, (0 : Int), 4).2.2 = .iface 68 (.int .i64 4) from rfl]
  go_wp2_with fail
  exact FIN.out _ _ (HB1.out.alloc (Nat.le_trans (Nat.le_refl _) HB1.out.size) _) rfl rfl
set_option maxRecDepth 20000 in
set_option maxHeartbeats 4000000 in
theorem stores_any (w : World) : Calls Tryz.prog 4 #[] w fun e w' => e = .returned (.bool true) ∧ Below w.heap.size w w' := by
  have HST := Lib.hid (stored_any w)
  go_enter Tryz.func4, Tryz.ntmps4
  go_wp2_with (go_at_call 10; refine HST.out.mono ?_; rintro e w3 ⟨p, q, c, s, F, rfl, hst, hrw, hpw, hFw, hb3⟩)
  have hb4 : Below w3.heap.size w3 (w3.alloc (.cells #[.string ⟨#[107]⟩, .string ⟨#[120]⟩, .bool false] 49)) := (Below.refl _ _).alloc (Nat.le_refl _) _
  have HW := Lib.hid (write_st (hst.below hb4) (by omega) (kx_ents w.heap.size w3))
  rw [hrw, kx_check, kx_rows] at HW
  have HB4 : Hid (Below w.heap.size w (w3.alloc (.cells #[.string ⟨#[107]⟩, .string ⟨#[120]⟩, .bool false] 49))) := hb3.trans (hb4.mono hb3.size)
  clear hst hrw hFw hb3 hb4 HST
  refine HW.out.mono ?_
  intro e w5 hd
  obtain ⟨c5, s5, F5, rfl, hs5, hr5, hb5⟩ := hd.st HB4.out (Nat.le_refl _)
  have HR5 := Lib.hid hr5
  have HB5 := Lib.hid hb5
  have HFL := Lib.hid (flush_st hs5 (by omega))
  clear hd hs5 hr5 hb5 HW HB4
  rw [show errV 0 = Value.nilIface from rfl]
  go_wp2_with fail
  refine HFL.out.mono ?_
  rintro e w6 ⟨c6, s6, F6, rfl, hs6, hr6, hF6, hf6, _⟩
  have HR6 : Hid (s6.rows = [eKX]) := hr6.trans HR5.out
  have HB6 : Hid (Below w.heap.size w w6) := FrQ.below HB5.out (Nat.le_refl _) hf6
  have HOP := Lib.hid (open_st hs6)
  clear hs6 hr6 hF6 hf6 HFL HB5 HR5
  go_wp2_with fail
  refine HOP.out.mono ?_
  rintro e w7 ⟨q2, F2, rfl, hs7, hb7, hq7, hF7⟩
  have hge := get_st hs7 ⟨#[107]⟩ (by decide)
  rw [HR6.out, kx_get] at hge
  have HGE : Hid (Calls Tryz.prog 18 #[.pointer (some ⟨q2, 0, none⟩), .string ⟨#[107]⟩] w7 fun e w' => e = .returned (.tuple #[.string ⟨#[120]⟩, .bool true, .nilIface]) ∧ Below w7.heap.size w7 w') := hge.mono fun e w' ⟨h1, _, h2⟩ => ⟨h1, h2⟩
  have HB7 := Lib.hid (HB6.out.trans (hb7.mono HB6.out.size))
  clear hs7 hb7 hq7 hF7 hge HOP
  go_wp2_with fail
  refine HGE.out.mono ?_
  rintro e w8 ⟨rfl, hb8⟩
  have HB8 := Lib.hid (HB7.out.trans (hb8.mono HB7.out.size))
  clear hb8 HGE
  go_wp2_with fail
  go_ret
  exact ⟨by simp, HB8.out⟩
set_option maxRecDepth 20000 in
set_option maxHeartbeats 8000000 in
theorem storeSays_walk (va : Value) (l : List Act) (w : World) (ha : ActsR w.heap.size w va l) :
    Calls Tryz.prog 3 #[va] w fun e w' => e = .returned (.bool true) ∧ Below w.heap.size w w' := by
  have HSS := Lib.hid (stores_any w)
  have HLA := Lib.hid (fun W (hW : Below w.heap.size w W) => lightActs_any w.heap.size va l 80 W (acts_below ha hW))
  have HWK := Lib.hid (fun W (hW : Below w.heap.size w W) => weak_any w.heap.size va l W (acts_below ha hW))
  have HSA := Lib.hid (fun n W => same_err n n W)
  obtain ⟨A, cp, rfl, hc1, hc2, hcell⟩ := ha.form
  have HC := Lib.hid hcell
  have HEN := Lib.hid (fun x hx => ha.2 x hx)
  clear hcell ha
  go_enter Tryz.func3, Tryz.ntmps3
  go_wp2_with (go_at_call 4; refine HSS.out.mono ?_; rintro e w1 ⟨rfl, hb1⟩)
  have HB1 := Lib.hid hb1
  have HLA6 := Lib.hid (HLA.out w1 hb1)
  have HWK6 := Lib.hid (HWK.out w1 hb1)
  clear HLA HWK hb1 HSS
  cases hla : lightA 80 l
  · rw [hla] at HLA6
    clear hla
    go_wp2_with (go_at_call 5; refine HLA6.out.mono ?_; rintro e w7 ⟨rfl, rfl⟩)
    go_ret
    exact ⟨rfl, HB1.out⟩
  rw [hla] at HLA6
  have hl80 : l.length ≤ 80 := by
    simp [lightA] at hla
    omega
  clear hla
  by_cases hw : weakN l ≤ 6
  case neg =>
    have t52 : decide ((6 : Int) < (weakN l : Int)) = true := decide_eq_true (by omega)
    have t53 : 6 < weakN l := by omega
    clear hw
    go_wp2_with (first
      | (go_at_call 5; refine HLA6.out.mono ?_; rintro e w7 ⟨rfl, rfl⟩)
      | (go_at_call 6; refine HWK6.out.mono ?_; rintro e w7 ⟨rfl, rfl⟩))
    go_ret
    exact ⟨rfl, HB1.out⟩
  have t52 : decide ((6 : Int) < (weakN l : Int)) = false := decide_eq_false (by omega)
  have t53 : ¬ 6 < weakN l := by omega
  have HCN := Lib.hid (cnew_any w.heap.size w1 HB1.out.size)
  go_wp2_with (first
    | (go_at_call 5; refine HLA6.out.mono ?_; rintro e w7 ⟨rfl, rfl⟩)
    | (go_at_call 6; refine HWK6.out.mono ?_; rintro e w7 ⟨rfl, rfl⟩)
    | (go_at_call 8; refine HCN.out.mono ?_; rintro e w2 ⟨p0, rfl, hp0, hr2, hb2⟩))
  have HON := Lib.hid (open_none w.heap.size p0 w2 hr2)
  have HB2 := Lib.hid (HB1.out.trans (hb2.mono HB1.out.size))
  have HW6 := Lib.hid hw
  clear HLA6 HWK6 t52 t53 HCN hr2 hb2 hp0 HB1 hw
  refine HON.out.mono ?_
  rintro e w3 ⟨rfl, hb3⟩
  have HB3 := Lib.hid (HB2.out.trans (hb3.mono HB2.out.size))
  have HST := Lib.hid (stored_any w3)
  have HS4 : Hid (∀ W, Calls Tryz.prog 9 #[.iface 68 (.int .i64 4), .int .i64 4] W fun d w' => d = .returned (.bool true) ∧ W = w') := fun W => same_err 4 4 W
  clear hb3 HB2 HON
  rw [show errV 4 = .iface 68 (.int .i64 4) from rfl]
  go_wp2_with (first
    | (go_at_call 9; refine (HS4.out _).mono ?_; rintro d w13 ⟨rfl, rfl⟩)
    | (go_at_call 10; refine HST.out.mono ?_; rintro e w4 ⟨p, q, c, s, F, rfl, hst, hrw, hpw, hFw, hb4⟩))
  have hb5 : Below w4.heap.size w4 (w4.alloc (.cells #[.slice none 0 0] 39)) := (Below.refl _ _).alloc (Nat.le_refl _) _
  have HRS0 : Hid (RS w3.heap.size (w4.alloc (.cells #[.slice none 0 0] 39)) w4.heap.size []) := RS.new ⟨Rd.nil _ _ _ _, by simp⟩ hb4.size
  have HS5 := Lib.hid (hst.below hb5)
  have HB5 : Hid (Below w3.heap.size w3 (w4.alloc (.cells #[.slice none 0 0] 39))) := hb4.trans (hb5.mono hb4.size)
  have HX5 := Lib.hid hrw
  clear hst hrw hpw hFw hb4 hb5 HST HS4
  generalize w4.alloc (.cells #[.slice none 0 0] 39) = w5 at *
  generalize w4.heap.size = m at *
  go_wp2_with fail
  go_loopw [7, 9] (fun sv i wr => ∃ (k q : Nat) (c : Chip) (s : SM) (F : List Nat), sv = .pointer (some ⟨q, 0, none⟩) ∧ i = .int .i64 (k : Int) ∧ k ≤ l.length ∧ Hid (StS w3.heap.size wr q p k (weakN (l.take k)) c s F) ∧ Hid (RS w3.heap.size wr m s.rows) ∧ Hid (Below w3.heap.size w3 wr)) (fun _ i _ => l.length - (intOf i).toNat)
  case atStart => exact ⟨0, q, c, s, F, rfl, rfl, Nat.zero_le _, HS5.out, by rw [HX5.out]; exact HRS0.out, HB5.out⟩
  case round =>
    clear HS5 HX5 HRS0 HB5
    obtain ⟨k, q, c, s, F, rfl, rfl, hk, hst, hrs, hbl⟩ := hrel
    by_cases hlt : k < l.length
    · obtain ⟨x, hx, htk, _⟩ := getElem?_of_lt hlt
      obtain ⟨b, o, rfl, hb, e0, e1, e2, e3, e4⟩ := HC.out k x hx
      have hwt := weakN_snoc htk
      have hwl : weakN (l.take (k + 1)) ≤ 6 := by
        have h1 : weakN l = weakN (l.take (k + 1)) + weakN (l.drop (k + 1)) := by
          unfold weakN; rw [← List.sum_append, ← List.map_append, List.take_append_drop]
        have := HW6.out
        omega
      have hbw := HB3.out.trans (hbl.out.mono HB3.out.size)
      obtain ⟨hen0, _, hsx, _⟩ := HEN.out x (List.mem_of_getElem? hx)
      have hen := ents_up (hen0.below hbw) HB3.out.size
      obtain ⟨kd, sx, xa, xb, vx, lx⟩ := x
      simp only at e0 e1 e2 e3 e4 hen hsx
      obtain ⟨A', cp', rfl, _, _, _⟩ := hen.form
      have d0 := (hbw.cell (p := ⟨b, o + k * 5, none⟩) hb).trans e0
      have d1 := (hbw.cell (p := ⟨b, o + k * 5 + 1, none⟩) hb).trans e1
      have d2 := (hbw.cell (p := ⟨b, o + k * 5 + 2, none⟩) hb).trans e2
      have d3 := (hbw.cell (p := ⟨b, o + k * 5 + 3, none⟩) hb).trans e3
      have d4 := (hbw.cell (p := ⟨b, o + k * 5 + 4, none⟩) hb).trans e4
      have g1 : (0 : Int) ≤ (k : Int) := by omega
      have g2 : (k : Int) < (l.length : Int) := by omega
      clear hx htk e0 e1 e2 e3 e4 hen0
      have hb20 : Below wr.heap.size wr (wr.alloc (.cells #[.string kd, .string sx, .int .i64 xa, .int .i64 xb, .slice A' lx.length cp'] 41)) := (Below.refl _ _).alloc (Nat.le_refl _) _
      have HS20 := Lib.hid (hst.out.below hb20)
      have HR20 := Lib.hid (hrs.out.below hb20)
      have HB20 : Hid (Below w3.heap.size w3 (wr.alloc (.cells #[.string kd, .string sx, .int .i64 xa, .int .i64 xb, .slice A' lx.length cp'] 41))) := hbl.out.trans (hb20.mono hbl.out.size)
      have HE20 := Lib.hid (hen.below hb20)
      have K20 : Hid (Blk (wr.alloc (.cells #[.string kd, .string sx, .int .i64 xa, .int .i64 xb, .slice A' lx.length cp'] 41)) wr.heap.size 41 #[.string kd, .string sx, .int .i64 xa, .int .i64 xb, .slice A' lx.length cp']) := Blk.new _ _ _
      clear hb20 hbw hst hrs hbl hen
      by_cases k1 : kd.toList = kWrite
      · have t1 := kind_eq k1
        unfold kWrite at t1
        have hwa : weakA ⟨kd, sx, xa, xb, .slice A' lx.length cp', lx⟩ = 0 := if_neg (by rw [show (⟨kd, sx, xa, xb, .slice A' lx.length cp', lx⟩ : Act).kind.toList = kWrite from k1]; decide)
        rw [hwa, Nat.add_zero] at hwt
        have HCR : Hid (checkM s lx = checkR s.rows lx) := rfl
        clear k1 hwa
        go_wp2_with fail
        generalize hW20 : (wr.alloc (.cells #[.string kd, .string sx, .int .i64 xa, .int .i64 xb, .slice A' lx.length cp'] 41)) = w20 at *
        generalize hga : wr.heap.size = ga at *
        clear hW20 hga d0 d1 d2 d3 d4
        have hyc : ∀ W, Blk W ga 41 #[.string kd, .string sx, .int .i64 xa, .int .i64 xb, .slice A' lx.length cp'] → Blk W ga 41 #[.string kd, .string sx, .int .i64 xa, .int .i64 xb, .slice A' lx.length cp'] ∧ W.cell? ⟨ga, 4, none⟩ = some (.slice A' lx.length cp') := fun W h => ⟨h, h.cell 4⟩
        have HYC := Lib.hid hyc
        clear hyc
        have HCK := Lib.hid (scheck_any w3.heap.size q p c s F _ lx w20.drew (HS20.out.st.drewN 1) (HS20.out.ch.drewN 1) HS20.out.ok.inv (HE20.out.drewN 1))
        have HS20 := Lib.hid (StS.drawN HS20.out 1)
        have HR20 := Lib.hid (HR20.out.drewN 1)
        have HB20 := Lib.hid (below_drewN' HB20.out 1)
        have HE20 := Lib.hid (HE20.out.drewN 1)
        have K20 := Lib.hid (K20.out.drewN 1)
        rw [HCR.out] at HCK
        refine wp_region_held_drew (S := fun w' => Blk w' ga 41 #[.string kd, .string sx, .int .i64 xa, .int .i64 xb, .slice A' lx.length cp'] ∧ w'.cell? ⟨ga, 4, none⟩ = some (.slice A' lx.length cp')) (by kernel_rfl) (HYC.out _ K20.out) (fun hHeld => ?_)
        refine wpAnyH_take (i := 0) (oi := ⟨some 69, _, _, _, _, _⟩) (v := .pointer (some ⟨q, 0, none⟩)) rfl (by kernel_rfl) (by kernel_rfl) (by kernel_rfl) (fun _ _ _ h => h) (Or.inl ⟨by rfl, ?_⟩) (by assumption) ?_
        · intro wS hSw
          (try dsimp only at hSw)
          go_simp
        simp only [Act.put, List.setIfInBounds_toArray, List.set_cons_zero, List.set_cons_succ]
        refine wpAnyH_take (i := 1) (oi := ⟨some 70, _, _, _, _, _⟩) (v := .pointer (some ⟨ga, 4, none⟩)) rfl (by kernel_rfl) (by kernel_rfl) (by kernel_rfl) (fun _ _ _ h => h) (Or.inl ⟨by rfl, ?_⟩) (by assumption) ?_
        · intro wS hSw
          (try dsimp only at hSw)
          go_simp
        simp only [Act.put, List.setIfInBounds_toArray, List.set_cons_zero, List.set_cons_succ]
        refine wpAnyH_take (i := 2) (oi := ⟨some 71, _, _, _, _, _⟩) (v := .slice A' lx.length cp') rfl (by kernel_rfl) (by kernel_rfl) (by kernel_rfl) (fun _ _ _ h => h) (Or.inl ⟨by rfl, ?_⟩) (by assumption) ?_
        · intro wS hSw
          (try dsimp only at hSw)
          go_simp
        simp only [Act.put, List.setIfInBounds_toArray, List.set_cons_zero, List.set_cons_succ]
        refine wpAnyH_take (i := 4) (oi := ⟨some 73, _, _, _, _, _⟩) (v := .pointer (some ⟨m, 0, none⟩)) rfl (by kernel_rfl) (by kernel_rfl) (by kernel_rfl) (fun _ _ _ h => h) (Or.inl ⟨by rfl, ?_⟩) (by assumption) ?_
        · intro wS hSw
          (try dsimp only at hSw)
          go_simp
        simp only [Act.put, List.setIfInBounds_toArray, List.set_cons_zero, List.set_cons_succ]
        refine wpAnyH_take (i := 5) (oi := ⟨some 74, _, _, _, _, _⟩) (v := .pointer (some ⟨ga, 4, none⟩)) rfl (by kernel_rfl) (by kernel_rfl) (by kernel_rfl) (fun _ _ _ h => h) (Or.inl ⟨by rfl, ?_⟩) (by assumption) ?_
        · intro wS hSw
          (try dsimp only at hSw)
          go_simp
        simp only [Act.put, List.setIfInBounds_toArray, List.set_cons_zero, List.set_cons_succ]
        refine wpAnyH_take (i := 6) (oi := ⟨some 75, _, _, _, _, _⟩) (v := .slice A' lx.length cp') rfl (by kernel_rfl) (by kernel_rfl) (by kernel_rfl) (fun _ _ _ h => h) (Or.inl ⟨by rfl, ?_⟩) (by assumption) ?_
        · intro wS hSw
          (try dsimp only at hSw)
          go_simp
        simp only [Act.put, List.setIfInBounds_toArray, List.set_cons_zero, List.set_cons_succ]
        refine wpAnyH_ready (rs := [3]) (by kernel_rfl) (by simp) ?_
        refine AllReadyH.cons (o := ⟨some 72, _, _, _, _, _⟩) rfl (fun K hK => ?_) AllReadyH.nil
        go_simp
        refine HCK.out.mono ?_
        rintro e w21 ⟨rfl, hb21⟩
        have k21 := K20.out.below hb21 K20.out.lt
        have HS21 := Lib.hid (HS20.out.below hb21)
        have HR21 := Lib.hid (HR20.out.below hb21)
        have HB21 := Lib.hid (HB20.out.trans (hb21.mono HB20.out.size))
        have HE21 := Lib.hid (HE20.out.below hb21)
        have HWF := Lib.hid (rwfault_any w3.heap.size m _ s.rows lx w21 HR21.out HE21.out (by have := HS21.out.ok.inv.body.rows; omega))
        clear hb21
        refine hK.out _ _ ?_ (fun hHeld => ?_)
        · exact HYC.out _ k21
        clear hK K
        try simp only [Act.put, List.setIfInBounds_toArray, List.set_cons_zero, List.set_cons_succ]
        refine wpAnyH_ready (rs := [7]) (by kernel_rfl) (by simp) ?_
        refine AllReadyH.cons (o := ⟨some 76, _, _, _, _, _⟩) rfl (fun K hK => ?_) AllReadyH.nil
        go_simp
        refine HWF.out.mono ?_
        rintro e w22 ⟨rfl, hb22⟩
        have k22 := k21.below hb22 k21.lt
        have HS22 := Lib.hid (HS21.out.below hb22)
        have HR22 := Lib.hid (HR21.out.below hb22)
        have HB22 := Lib.hid (HB21.out.trans (hb22.mono HB21.out.size))
        have HE22 := Lib.hid (HE21.out.below hb22)
        clear hb22
        refine hK.out _ _ ?_ (fun hHeld => ?_)
        · exact HYC.out _ k22
        clear hK K
        try simp only [Act.put, List.setIfInBounds_toArray, List.set_cons_zero, List.set_cons_succ]
        refine wpAnyH_ready (rs := [8]) (by kernel_rfl) (by simp) ?_
        refine AllReadyH.cons (o := ⟨some 77, _, _, _, _, _⟩) rfl (fun K hK => ?_) AllReadyH.nil
        go_simp
        refine (HSA.out _ w22).mono ?_
        rintro e w23 ⟨rfl, rfl⟩
        refine hK.out _ _ ?_ (fun hHeld => ?_)
        · exact HYC.out _ k22
        clear hK K
        try simp only [Act.put, List.setIfInBounds_toArray, List.set_cons_zero, List.set_cons_succ]
        refine wpAnyH_take (i := 9) (oi := ⟨some 78, _, _, _, _, _⟩) (v := .bool true) rfl (by kernel_rfl) (by kernel_rfl) (by kernel_rfl) (fun _ _ _ h => h) (Or.inl ⟨by rfl, ?_⟩) (by assumption) ?_
        · intro wS hSw
          (try dsimp only at hSw)
          go_simp
        simp only [Act.put, List.setIfInBounds_toArray, List.set_cons_zero, List.set_cons_succ]
        refine wpAnyH_take (i := 10) (oi := ⟨some 79, _, _, _, _, _⟩) (v := .pointer (some ⟨q, 0, none⟩)) rfl (by kernel_rfl) (by kernel_rfl) (by kernel_rfl) (fun _ _ _ h => h) (Or.inl ⟨by rfl, ?_⟩) (by assumption) ?_
        · intro wS hSw
          (try dsimp only at hSw)
          go_simp
        simp only [Act.put, List.setIfInBounds_toArray, List.set_cons_zero, List.set_cons_succ]
        refine wpAnyH_take (i := 11) (oi := ⟨some 80, _, _, _, _, _⟩) (v := .pointer (some ⟨ga, 4, none⟩)) rfl (by kernel_rfl) (by kernel_rfl) (by kernel_rfl) (fun _ _ _ h => h) (Or.inl ⟨by rfl, ?_⟩) (by assumption) ?_
        · intro wS hSw
          (try dsimp only at hSw)
          go_simp
        simp only [Act.put, List.setIfInBounds_toArray, List.set_cons_zero, List.set_cons_succ]
        refine wpAnyH_take (i := 12) (oi := ⟨some 81, _, _, _, _, _⟩) (v := .slice A' lx.length cp') rfl (by kernel_rfl) (by kernel_rfl) (by kernel_rfl) (fun _ _ _ h => h) (Or.inl ⟨by rfl, ?_⟩) (by assumption) ?_
        · intro wS hSw
          (try dsimp only at hSw)
          go_simp
        simp only [Act.put, List.setIfInBounds_toArray, List.set_cons_zero, List.set_cons_succ]
        refine wpAnyH_take (i := 14) (oi := ⟨some 83, _, _, _, _, _⟩) (v := .pointer (some ⟨m, 0, none⟩)) rfl (by kernel_rfl) (by kernel_rfl) (by kernel_rfl) (fun _ _ _ h => h) (Or.inl ⟨by rfl, ?_⟩) (by assumption) ?_
        · intro wS hSw
          (try dsimp only at hSw)
          go_simp
        simp only [Act.put, List.setIfInBounds_toArray, List.set_cons_zero, List.set_cons_succ]
        refine wpAnyH_take (i := 15) (oi := ⟨some 84, _, _, _, _, _⟩) (v := .pointer (some ⟨ga, 4, none⟩)) rfl (by kernel_rfl) (by kernel_rfl) (by kernel_rfl) (fun _ _ _ h => h) (Or.inl ⟨by rfl, ?_⟩) (by assumption) ?_
        · intro wS hSw
          (try dsimp only at hSw)
          go_simp
        simp only [Act.put, List.setIfInBounds_toArray, List.set_cons_zero, List.set_cons_succ]
        refine wpAnyH_take (i := 16) (oi := ⟨some 85, _, _, _, _, _⟩) (v := .slice A' lx.length cp') rfl (by kernel_rfl) (by kernel_rfl) (by kernel_rfl) (fun _ _ _ h => h) (Or.inl ⟨by rfl, ?_⟩) (by assumption) ?_
        · intro wS hSw
          (try dsimp only at hSw)
          go_simp
        simp only [Act.put, List.setIfInBounds_toArray, List.set_cons_zero, List.set_cons_succ]
        refine wpAnyH_ready (rs := [13]) (by kernel_rfl) (by simp) ?_
        refine AllReadyH.cons (o := ⟨some 82, _, _, _, _, _⟩) rfl (fun K hK => ?_) AllReadyH.nil
        go_simp
        refine (write_st HS22.out (by omega) HE22.out).mono ?_
        intro e w24 hd
        obtain ⟨c8, s8, F8, rfl, hs8, hr8, hF8, hf8⟩ := hd
        have k24 := k22.fr hf8 (.inr (.inr (by decide)))
        have HR24 := Lib.hid (HR22.out.sto HS22.out hf8)
        have HE24 := Lib.hid (HE22.out.fr hf8)
        have HS24 := Lib.hid hs8
        have HX24 := Lib.hid hr8
        have HB24 := Lib.hid (HB22.out.trans (hf8.below HB22.out.size))
        have HRW := Lib.hid (rwrite_any w3.heap.size m _ s.rows lx w24 HR24.out HE24.out (by have := HS22.out.ok.inv.body.rows; omega))
        clear hs8 hr8 hF8 hf8
        refine hK.out _ _ ?_ (fun hHeld => ?_)
        · exact HYC.out _ k24
        clear hK K
        try simp only [Act.put, List.setIfInBounds_toArray, List.set_cons_zero, List.set_cons_succ]
        refine wpAnyH_ready (rs := [17]) (by kernel_rfl) (by simp) ?_
        refine AllReadyH.cons (o := ⟨some 86, _, _, _, _, _⟩) rfl (fun K hK => ?_) AllReadyH.nil
        go_simp
        refine HRW.out.mono ?_
        rintro e w25 ⟨rfl, hr25, hf25⟩
        have k25 := k24.fr hf25 (.inr (.inr (by decide)))
        have HS25 := Lib.hid (HS24.out.ref HR24.out hf25)
        have HR25 : Hid (RS w3.heap.size w25 m s8.rows) := by rw [Hid, HX24.out]; exact hr25
        have HB25 := Lib.hid (HB24.out.trans (hf25.below HB24.out.size))
        clear hr25 hf25
        refine hK.out _ _ ?_ (fun hHeld => ?_)
        · exact HYC.out _ k25
        clear hK K
        try simp only [Act.put, List.setIfInBounds_toArray, List.set_cons_zero, List.set_cons_succ]
        refine wpAnyH_ready (rs := [18]) (by kernel_rfl) (by simp) ?_
        refine AllReadyH.cons (o := ⟨some 87, _, _, _, _, _⟩) rfl (fun K hK => ?_) AllReadyH.nil
        go_simp
        refine (HSA.out _ w25).mono ?_
        rintro e w26 ⟨rfl, rfl⟩
        refine hK.out _ _ ?_ (fun hHeld => ?_)
        · exact HYC.out _ k25
        clear hK K
        try simp only [Act.put, List.setIfInBounds_toArray, List.set_cons_zero, List.set_cons_succ]
        refine wpAnyH_take (i := 19) (oi := ⟨some 88, _, _, _, _, _⟩) (v := .bool true) rfl (by kernel_rfl) (by kernel_rfl) (by kernel_rfl) (fun _ _ _ h => h) (Or.inl ⟨by rfl, ?_⟩) (by assumption) ?_
        · intro wS hSw
          (try dsimp only at hSw)
          go_simp
        simp only [Act.put, List.setIfInBounds_toArray, List.set_cons_zero, List.set_cons_succ]
        refine wpAnyH_take (i := 20) (oi := ⟨some 11, _, _, _, _, _⟩) (v := .bool true) rfl (by kernel_rfl) (by kernel_rfl) (by kernel_rfl) (fun _ _ _ h => h) (Or.inl ⟨by rfl, ?_⟩) (by assumption) ?_
        · intro wS hSw
          (try dsimp only at hSw)
          go_simp
        simp only [Act.put, List.setIfInBounds_toArray, List.set_cons_zero, List.set_cons_succ]
        refine wpAnyH_done (by kernel_rfl) ?_ _
        have HGT := Lib.hid (get_st HS25.out sx hsx)
        have y0 := k25.cell 1
        simp at y0
        go_wp2_with fail
        refine HGT.out.mono ?_
        rintro e w31 ⟨rfl, hs31, hb31⟩
        have HS31 := Lib.hid hs31
        have HR31 := Lib.hid (HR25.out.below hb31)
        have HB31 := Lib.hid (HB25.out.trans (hb31.mono HB25.out.size))
        have K31 := Lib.hid (k25.below hb31 k25.lt)
        obtain ⟨⟨vr, hmb, hvr⟩, hBm⟩ := HR25.out.below hb31
        have x0 := hmb.cell 0
        simp at x0
        have y1 := K31.out.cell 1
        simp at y1
        have hrg := fun W (hW : Below w31.heap.size w31 W) => rget_any w3.heap.size vr s8.rows sx W (hvr.below hW)
        unfold Ent.val at hrg
        have HRG := Lib.hid hrg
        have HRO := Lib.hid (fun W (hW : Below w31.heap.size w31 W) => srows_any w3.heap.size q p _ s8 _ W (hs31.st.below hW) (hs31.ch.below hW) hs31.ok.inv)
        have HVR := Lib.hid (fun W (hW : Below w31.heap.size w31 W) => hvr.below hW)
        have HML := Lib.hid (fun W (hW : Below w31.heap.size w31 W) => (hW.cell (p := ⟨m, 0, none⟩) (cell_lt x0)).trans x0)
        have HMS := Lib.hid (fun W (hW : Below w31.heap.size w31 W) => And.intro ((hW.cell (p := ⟨m, 0, none⟩) (cell_lt x0)).trans x0) ((hW.cell (p := ⟨ga, 1, none⟩) (cell_lt y1)).trans y1))
        have h40 : s8.rows.length ≤ 40 := hs31.ok.inv.body.rows
        clear hs31 hb31 HGT hmb hvr hrg HS25 HR25 HB25 y0
        generalize (getE s8.rows sx).getD Ent.zero = z at *
        generalize (getE s8.rows sx).isSome = zs at *
        go_wp2_with fail
        refine wp_region_held_drew (S := fun w' => w'.cell? ⟨m, 0, none⟩ = some vr ∧ w'.cell? ⟨ga, 1, none⟩ = some (.string sx)) (by kernel_rfl) ⟨x0, y1⟩ (fun hHeld => ?_)
        refine wpAnyH_take (i := 0) (oi := ⟨some 128, _, _, _, _, _⟩) (v := .pointer (some ⟨m, 0, none⟩)) rfl (by kernel_rfl) (by kernel_rfl) (by kernel_rfl) (fun _ _ _ h => h) (Or.inl ⟨by rfl, ?_⟩) (by assumption) ?_
        · intro wS hSw
          (try dsimp only at hSw)
          go_simp
        simp only [Act.put, List.setIfInBounds_toArray, List.set_cons_zero, List.set_cons_succ]
        refine wpAnyH_take (i := 1) (oi := ⟨some 129, _, _, _, _, _⟩) (v := .pointer (some ⟨m, 0, none⟩)) rfl (by kernel_rfl) (by kernel_rfl) (by kernel_rfl) (fun _ _ _ h => h) (Or.inl ⟨by rfl, ?_⟩) (by assumption) ?_
        · intro wS hSw
          (try dsimp only at hSw)
          go_simp
        simp only [Act.put, List.setIfInBounds_toArray, List.set_cons_zero, List.set_cons_succ]
        refine wpAnyH_take (i := 2) (oi := ⟨some 130, _, _, _, _, _⟩) (v := .pointer (some ⟨m, 0, none⟩)) rfl (by kernel_rfl) (by kernel_rfl) (by kernel_rfl) (fun _ _ _ h => h) (Or.inl ⟨by rfl, ?_⟩) (by assumption) ?_
        · intro wS hSw
          (try dsimp only at hSw)
          go_simp
        simp only [Act.put, List.setIfInBounds_toArray, List.set_cons_zero, List.set_cons_succ]
        refine wpAnyH_take (i := 3) (oi := ⟨some 131, _, _, _, _, _⟩) (v := vr) rfl (by kernel_rfl) (by kernel_rfl) (by kernel_rfl) (fun _ _ _ h => h) (Or.inl ⟨by rfl, ?_⟩) (by assumption) ?_
        · intro wS hSw
          (try dsimp only at hSw)
          go_simp
        simp only [Act.put, List.setIfInBounds_toArray, List.set_cons_zero, List.set_cons_succ]
        refine wpAnyH_take (i := 4) (oi := ⟨some 132, _, _, _, _, _⟩) (v := .pointer (some ⟨ga, 1, none⟩)) rfl (by kernel_rfl) (by kernel_rfl) (by kernel_rfl) (fun _ _ _ h => h) (Or.inl ⟨by rfl, ?_⟩) (by assumption) ?_
        · intro wS hSw
          (try dsimp only at hSw)
          go_simp
        simp only [Act.put, List.setIfInBounds_toArray, List.set_cons_zero, List.set_cons_succ]
        refine wpAnyH_take (i := 5) (oi := ⟨some 133, _, _, _, _, _⟩) (v := .string sx) rfl (by kernel_rfl) (by kernel_rfl) (by kernel_rfl) (fun _ _ _ h => h) (Or.inl ⟨by rfl, ?_⟩) (by assumption) ?_
        · intro wS hSw
          (try dsimp only at hSw)
          go_simp
        simp only [Act.put, List.setIfInBounds_toArray, List.set_cons_zero, List.set_cons_succ]
        refine wpAnyH_ready (rs := [6, 10]) (by kernel_rfl) (by simp) ?_
        refine AllReadyH.cons (o := ⟨some 134, _, _, _, _, _⟩) rfl (fun K hK => ?_) ?_
        · go_simp
          refine (HRG.out _ (Below.refl _ _).drew).mono ?_
          rintro e w32 ⟨rfl, hb32⟩
          have HB32 : Hid (Below w31.heap.size w31 w32) := (Below.refl _ _).drew.trans hb32
          obtain ⟨x2, y2⟩ := HMS.out _ HB32.out
          clear hb32
          refine hK.out _ _ ?_ (fun hHeld => ?_)
          · exact ⟨x2, y2⟩
          clear hK K
          try simp only [Act.put, List.setIfInBounds_toArray, List.set_cons_zero, List.set_cons_succ]
          refine wpAnyH_take (i := 7) (oi := ⟨some 127, _, _, _, _, _⟩) (v := .tuple #[.agg #[.string z.k, .string z.v, .bool z.g], .bool zs]) rfl (by kernel_rfl) (by kernel_rfl) (by kernel_rfl) (fun _ _ _ h => h) (Or.inl ⟨by rfl, ?_⟩) (by assumption) ?_
          · intro wS hSw
            (try dsimp only at hSw)
            go_simp
          simp only [Act.put, List.setIfInBounds_toArray, List.set_cons_zero, List.set_cons_succ]
          refine wpAnyH_take (i := 8) (oi := ⟨some 135, _, _, _, _, _⟩) (v := .agg #[.string z.k, .string z.v, .bool z.g]) rfl (by kernel_rfl) (by kernel_rfl) (by kernel_rfl) (fun _ _ _ h => h) (Or.inl ⟨by rfl, ?_⟩) (by assumption) ?_
          · intro wS hSw
            (try dsimp only at hSw)
            go_simp
          simp only [Act.put, List.setIfInBounds_toArray, List.set_cons_zero, List.set_cons_succ]
          refine wpAnyH_take (i := 9) (oi := ⟨some 136, _, _, _, _, _⟩) (v := .bool zs) rfl (by kernel_rfl) (by kernel_rfl) (by kernel_rfl) (fun _ _ _ h => h) (Or.inl ⟨by rfl, ?_⟩) (by assumption) ?_
          · intro wS hSw
            (try dsimp only at hSw)
            go_simp
          simp only [Act.put, List.setIfInBounds_toArray, List.set_cons_zero, List.set_cons_succ]
          refine wpAnyH_ready (rs := [10]) (by kernel_rfl) (by simp) ?_
          refine AllReadyH.cons (o := ⟨some 17, _, _, _, _, _⟩) rfl (fun K hK => ?_) AllReadyH.nil
          go_simp
          refine hK.out _ _ ?_ (fun hHeld => ?_)
          · exact HMS.out _ (HB32.out.alloc HB32.out.size _)
          clear hK K
          try simp only [Act.put, List.setIfInBounds_toArray, List.set_cons_zero, List.set_cons_succ]
          refine wpAnyH_ready (rs := [11]) (by kernel_rfl) (by simp) ?_
          refine AllReadyH.cons (o := ⟨none, _, _, _, _, _⟩) rfl (fun K hK => ?_) AllReadyH.nil
          go_simp
          refine hK.out _ _ ?_ (fun hHeld => ?_)
          · exact HMS.out _ (HB32.out.alloc HB32.out.size _)
          clear hK K
          try simp only [Act.put, List.setIfInBounds_toArray, List.set_cons_zero, List.set_cons_succ]
          refine wpAnyH_take (i := 12) (oi := ⟨some 18, _, _, _, _, _⟩) (v := .bool zs) rfl (by kernel_rfl) (by kernel_rfl) (by kernel_rfl) (fun _ _ _ h => h) (Or.inl ⟨by rfl, ?_⟩) (by assumption) ?_
          · intro wS hSw
            (try dsimp only at hSw)
            go_simp
          simp only [Act.put, List.setIfInBounds_toArray, List.set_cons_zero, List.set_cons_succ]
          refine wpAnyH_done (by kernel_rfl) ?_ _
          have HB34 : Hid (Below w31.heap.size w31 (w32.alloc (.cells #[.string z.k, .string z.v, .bool z.g] 49))) := HB32.out.alloc HB32.out.size _
          go_wp2_with fail
          refine (HRO.out _ HB34.out).mono ?_
          rintro e w34 ⟨v34, rfl, hv34, hb34⟩
          have HB35 : Hid (Below w31.heap.size w31 w34) := HB34.out.trans (hb34.mono HB34.out.size)
          have x34 := HML.out _ HB35.out
          have HSM : Hid (Calls Tryz.prog 21 #[v34, vr] w34 fun e w' => e = .returned (.bool true) ∧ ∃ n, w' = w34.drewN n) := by
            refine (same_any w3.heap.size v34 vr _ _ w34 hv34 (HVR.out _ HB35.out)).mono ?_
            rintro e w' ⟨rfl, n, rfl⟩
            exact ⟨by simp, n, rfl⟩
          obtain ⟨A34, k34, rfl, _, _, _⟩ := hv34.form
          clear hv34 hb34 HB34 HRO x0 y1 x2 y2
          go_wp2_with fail
          refine HSM.out.mono ?_
          rintro e w36 ⟨rfl, n, rfl⟩
          have HNX : Hid (StS w3.heap.size (w34.drewN n) q p (k + 1) (weakN (l.take (k + 1))) c8 s8 F8 ∧ RS w3.heap.size (w34.drewN n) m s8.rows ∧ Below w3.heap.size w3 (w34.drewN n)) := by
            rw [Hid, hwt]
            exact ⟨(HS31.out.below HB35.out).drawN n, (HR31.out.below HB35.out).drewN n, below_drewN' (HB31.out.trans (HB35.out.mono HB31.out.size)) n⟩
          clear HSM HS31 HR31 HB31 HB35 x34 HVR HML
          go_wp2_with fail
          go_roundw
          case rel => exact ⟨k + 1, q, c8, s8, F8, rfl, by go_num, by omega, HNX.out⟩
          case measure => simp [intOf] <;> omega
        · refine AllReadyH.cons (o := ⟨some 17, _, _, _, _, _⟩) rfl (fun K hK => ?_) AllReadyH.nil
          go_simp
          have HBA : Hid (Below w31.heap.size w31 (w31.drew.alloc (.cells #[.string ByteArray.empty, .string ByteArray.empty, .bool false] 49))) := (Below.refl _ _).drew.alloc (Nat.le_refl _) _
          have HKA : Hid (Blk (w31.drew.alloc (.cells #[.string ByteArray.empty, .string ByteArray.empty, .bool false] 49)) w31.heap.size 49 #[.string ByteArray.empty, .string ByteArray.empty, .bool false]) := Blk.new w31.drew _ _
          refine hK.out _ _ ?_ (fun hHeld => ?_)
          · exact HMS.out _ HBA.out
          clear hK K
          try simp only [Act.put, List.setIfInBounds_toArray, List.set_cons_zero, List.set_cons_succ]
          refine wpAnyH_ready (rs := [6]) (by kernel_rfl) (by simp) ?_
          refine AllReadyH.cons (o := ⟨some 134, _, _, _, _, _⟩) rfl (fun K hK => ?_) AllReadyH.nil
          go_simp
          refine (HRG.out _ HBA.out).mono ?_
          rintro e w32 ⟨rfl, hb32⟩
          have HB32 : Hid (Below w31.heap.size w31 w32) := HBA.out.trans (hb32.mono HBA.out.size)
          have HK32 := Lib.hid (HKA.out.below hb32 HKA.out.lt)
          obtain ⟨x2, y2⟩ := HMS.out _ HB32.out
          clear hb32 HBA HKA
          refine hK.out _ _ ?_ (fun hHeld => ?_)
          · exact ⟨x2, y2⟩
          clear hK K
          try simp only [Act.put, List.setIfInBounds_toArray, List.set_cons_zero, List.set_cons_succ]
          refine wpAnyH_take (i := 7) (oi := ⟨some 127, _, _, _, _, _⟩) (v := .tuple #[.agg #[.string z.k, .string z.v, .bool z.g], .bool zs]) rfl (by kernel_rfl) (by kernel_rfl) (by kernel_rfl) (fun _ _ _ h => h) (Or.inl ⟨by rfl, ?_⟩) (by assumption) ?_
          · intro wS hSw
            (try dsimp only at hSw)
            go_simp
          simp only [Act.put, List.setIfInBounds_toArray, List.set_cons_zero, List.set_cons_succ]
          refine wpAnyH_take (i := 8) (oi := ⟨some 135, _, _, _, _, _⟩) (v := .agg #[.string z.k, .string z.v, .bool z.g]) rfl (by kernel_rfl) (by kernel_rfl) (by kernel_rfl) (fun _ _ _ h => h) (Or.inl ⟨by rfl, ?_⟩) (by assumption) ?_
          · intro wS hSw
            (try dsimp only at hSw)
            go_simp
          simp only [Act.put, List.setIfInBounds_toArray, List.set_cons_zero, List.set_cons_succ]
          refine wpAnyH_take (i := 9) (oi := ⟨some 136, _, _, _, _, _⟩) (v := .bool zs) rfl (by kernel_rfl) (by kernel_rfl) (by kernel_rfl) (fun _ _ _ h => h) (Or.inl ⟨by rfl, ?_⟩) (by assumption) ?_
          · intro wS hSw
            (try dsimp only at hSw)
            go_simp
          simp only [Act.put, List.setIfInBounds_toArray, List.set_cons_zero, List.set_cons_succ]
          have z0 := HK32.out.cell 0
          have z1 := HK32.out.cell 1
          have z2 := HK32.out.cell 2
          have z3 := HK32.out.frozen 0
          have z4 := HK32.out.frozen 1
          have z5 := HK32.out.frozen 2
          simp at z0 z1 z2
          have HB33 : Hid (Below w31.heap.size w31 (((w32.setCell ⟨w31.heap.size, 0, none⟩ (.string z.k)).setCell ⟨w31.heap.size, 1, none⟩ (.string z.v)).setCell ⟨w31.heap.size, 2, none⟩ (.bool z.g))) := ((HB32.out.setCell (p := ⟨w31.heap.size, 0, none⟩) (Nat.le_refl _) _).setCell (p := ⟨w31.heap.size, 1, none⟩) (Nat.le_refl _) _).setCell (p := ⟨w31.heap.size, 2, none⟩) (Nat.le_refl _) _
          have HK33 : Hid (Blk (((w32.setCell ⟨w31.heap.size, 0, none⟩ (.string z.k)).setCell ⟨w31.heap.size, 1, none⟩ (.string z.v)).setCell ⟨w31.heap.size, 2, none⟩ (.bool z.g)) w31.heap.size 49 #[.string z.k, .string z.v, .bool z.g]) := by have := ((HK32.out.set_ 0 (.string z.k)).set_ 1 (.string z.v)).set_ 2 (.bool z.g); exact Lib.hid (by simpa using this)
          refine wpAnyH_ready (rs := [11]) (by kernel_rfl) (by simp) ?_
          refine AllReadyH.cons (o := ⟨none, _, _, _, _, _⟩) rfl (fun K hK => ?_) AllReadyH.nil
          go_simp
          refine hK.out _ _ ?_ (fun hHeld => ?_)
          · exact HMS.out _ HB33.out
          clear hK K
          try simp only [Act.put, List.setIfInBounds_toArray, List.set_cons_zero, List.set_cons_succ]
          refine wpAnyH_take (i := 12) (oi := ⟨some 18, _, _, _, _, _⟩) (v := .bool zs) rfl (by kernel_rfl) (by kernel_rfl) (by kernel_rfl) (fun _ _ _ h => h) (Or.inl ⟨by rfl, ?_⟩) (by assumption) ?_
          · intro wS hSw
            (try dsimp only at hSw)
            go_simp
          simp only [Act.put, List.setIfInBounds_toArray, List.set_cons_zero, List.set_cons_succ]
          refine wpAnyH_done (by kernel_rfl) ?_ _
          generalize (((w32.setCell ⟨w31.heap.size, 0, none⟩ (.string z.k)).setCell ⟨w31.heap.size, 1, none⟩ (.string z.v)).setCell ⟨w31.heap.size, 2, none⟩ (.bool z.g)) = w33 at *
          have y33 := HK33.out.cell 1
          simp at y33
          have HB34 := Lib.hid HB33.out
          clear z0 z1 z2 z3 z4 z5 HB33 HK33 HK32 HB32
          go_wp2_with fail
          refine (HRO.out _ HB34.out).mono ?_
          rintro e w34 ⟨v34, rfl, hv34, hb34⟩
          have HB35 : Hid (Below w31.heap.size w31 w34) := HB34.out.trans (hb34.mono HB34.out.size)
          have x34 := HML.out _ HB35.out
          have HSM : Hid (Calls Tryz.prog 21 #[v34, vr] w34 fun e w' => e = .returned (.bool true) ∧ ∃ n, w' = w34.drewN n) := by
            refine (same_any w3.heap.size v34 vr _ _ w34 hv34 (HVR.out _ HB35.out)).mono ?_
            rintro e w' ⟨rfl, n, rfl⟩
            exact ⟨by simp, n, rfl⟩
          obtain ⟨A34, k34, rfl, _, _, _⟩ := hv34.form
          clear hv34 hb34 HB34 HRO x0 y1 x2 y2
          go_wp2_with fail
          refine HSM.out.mono ?_
          rintro e w36 ⟨rfl, n, rfl⟩
          have HNX : Hid (StS w3.heap.size (w34.drewN n) q p (k + 1) (weakN (l.take (k + 1))) c8 s8 F8 ∧ RS w3.heap.size (w34.drewN n) m s8.rows ∧ Below w3.heap.size w3 (w34.drewN n)) := by
            rw [Hid, hwt]
            exact ⟨(HS31.out.below HB35.out).drawN n, (HR31.out.below HB35.out).drewN n, below_drewN' (HB31.out.trans (HB35.out.mono HB31.out.size)) n⟩
          clear HSM HS31 HR31 HB31 HB35 x34 HVR HML
          go_wp2_with fail
          go_roundw
          case rel => exact ⟨k + 1, q, c8, s8, F8, rfl, by go_num, by omega, HNX.out⟩
          case measure => simp [intOf] <;> omega
      have t1 := kind_ne k1
      by_cases k2 : kd.toList = kFlush
      · have t2 := kind_eq k2
        unfold kWrite at t1
        unfold kFlush at t2
        have hwa : weakA ⟨kd, sx, xa, xb, .slice A' lx.length cp', lx⟩ = 0 := if_neg (by rw [show (⟨kd, sx, xa, xb, .slice A' lx.length cp', lx⟩ : Act).kind.toList = kFlush from k2]; decide)
        rw [hwa, Nat.add_zero] at hwt
        clear k1 k2 hwa
        have HW := Lib.hid (flush_st HS20.out (by omega))
        go_wp2_with fail
        generalize hW20 : (wr.alloc (.cells #[.string kd, .string sx, .int .i64 xa, .int .i64 xb, .slice A' lx.length cp'] 41)) = w20 at *
        generalize hga : wr.heap.size = ga at *
        clear hW20 hga d0 d1 d2 d3 d4
        refine HW.out.mono ?_
        rintro e w8 ⟨c8, s8, F8, rfl, hs8, hr8, hF8, hf8, _⟩
        have k8 := K20.out.fr hf8 (.inr (.inr (by decide)))
        have HS8 := Lib.hid hs8
        have HR8 : Hid (RS w3.heap.size w8 m s8.rows) := by rw [hr8]; exact HR20.out.sto HS20.out hf8
        have HB8 := Lib.hid (HB20.out.trans (hf8.below HB20.out.size))
        clear hs8 hr8 hF8 hf8 HW HS20 HR20 HB20 HE20 K20
        have HGT := Lib.hid (get_st HS8.out sx hsx)
        have y0 := k8.cell 1
        simp at y0
        go_wp2_with fail
        refine HGT.out.mono ?_
        rintro e w31 ⟨rfl, hs31, hb31⟩
        have HS31 := Lib.hid hs31
        have HR31 := Lib.hid (HR8.out.below hb31)
        have HB31 := Lib.hid (HB8.out.trans (hb31.mono HB8.out.size))
        have K31 := Lib.hid (k8.below hb31 k8.lt)
        obtain ⟨⟨vr, hmb, hvr⟩, hBm⟩ := HR8.out.below hb31
        have x0 := hmb.cell 0
        simp at x0
        have y1 := K31.out.cell 1
        simp at y1
        have hrg := fun W (hW : Below w31.heap.size w31 W) => rget_any w3.heap.size vr s8.rows sx W (hvr.below hW)
        unfold Ent.val at hrg
        have HRG := Lib.hid hrg
        have HRO := Lib.hid (fun W (hW : Below w31.heap.size w31 W) => srows_any w3.heap.size q p _ s8 _ W (hs31.st.below hW) (hs31.ch.below hW) hs31.ok.inv)
        have HVR := Lib.hid (fun W (hW : Below w31.heap.size w31 W) => hvr.below hW)
        have HML := Lib.hid (fun W (hW : Below w31.heap.size w31 W) => (hW.cell (p := ⟨m, 0, none⟩) (cell_lt x0)).trans x0)
        have HMS := Lib.hid (fun W (hW : Below w31.heap.size w31 W) => And.intro ((hW.cell (p := ⟨m, 0, none⟩) (cell_lt x0)).trans x0) ((hW.cell (p := ⟨ga, 1, none⟩) (cell_lt y1)).trans y1))
        have h40 : s8.rows.length ≤ 40 := hs31.ok.inv.body.rows
        clear hs31 hb31 HGT hmb hvr hrg HS8 HR8 HB8 y0
        generalize (getE s8.rows sx).getD Ent.zero = z at *
        generalize (getE s8.rows sx).isSome = zs at *
        go_wp2_with fail
        refine wp_region_held_drew (S := fun w' => w'.cell? ⟨m, 0, none⟩ = some vr ∧ w'.cell? ⟨ga, 1, none⟩ = some (.string sx)) (by kernel_rfl) ⟨x0, y1⟩ (fun hHeld => ?_)
        refine wpAnyH_take (i := 0) (oi := ⟨some 128, _, _, _, _, _⟩) (v := .pointer (some ⟨m, 0, none⟩)) rfl (by kernel_rfl) (by kernel_rfl) (by kernel_rfl) (fun _ _ _ h => h) (Or.inl ⟨by rfl, ?_⟩) (by assumption) ?_
        · intro wS hSw
          (try dsimp only at hSw)
          go_simp
        simp only [Act.put, List.setIfInBounds_toArray, List.set_cons_zero, List.set_cons_succ]
        refine wpAnyH_take (i := 1) (oi := ⟨some 129, _, _, _, _, _⟩) (v := .pointer (some ⟨m, 0, none⟩)) rfl (by kernel_rfl) (by kernel_rfl) (by kernel_rfl) (fun _ _ _ h => h) (Or.inl ⟨by rfl, ?_⟩) (by assumption) ?_
        · intro wS hSw
          (try dsimp only at hSw)
          go_simp
        simp only [Act.put, List.setIfInBounds_toArray, List.set_cons_zero, List.set_cons_succ]
        refine wpAnyH_take (i := 2) (oi := ⟨some 130, _, _, _, _, _⟩) (v := .pointer (some ⟨m, 0, none⟩)) rfl (by kernel_rfl) (by kernel_rfl) (by kernel_rfl) (fun _ _ _ h => h) (Or.inl ⟨by rfl, ?_⟩) (by assumption) ?_
        · intro wS hSw
          (try dsimp only at hSw)
          go_simp
        simp only [Act.put, List.setIfInBounds_toArray, List.set_cons_zero, List.set_cons_succ]
        refine wpAnyH_take (i := 3) (oi := ⟨some 131, _, _, _, _, _⟩) (v := vr) rfl (by kernel_rfl) (by kernel_rfl) (by kernel_rfl) (fun _ _ _ h => h) (Or.inl ⟨by rfl, ?_⟩) (by assumption) ?_
        · intro wS hSw
          (try dsimp only at hSw)
          go_simp
        simp only [Act.put, List.setIfInBounds_toArray, List.set_cons_zero, List.set_cons_succ]
        refine wpAnyH_take (i := 4) (oi := ⟨some 132, _, _, _, _, _⟩) (v := .pointer (some ⟨ga, 1, none⟩)) rfl (by kernel_rfl) (by kernel_rfl) (by kernel_rfl) (fun _ _ _ h => h) (Or.inl ⟨by rfl, ?_⟩) (by assumption) ?_
        · intro wS hSw
          (try dsimp only at hSw)
          go_simp
        simp only [Act.put, List.setIfInBounds_toArray, List.set_cons_zero, List.set_cons_succ]
        refine wpAnyH_take (i := 5) (oi := ⟨some 133, _, _, _, _, _⟩) (v := .string sx) rfl (by kernel_rfl) (by kernel_rfl) (by kernel_rfl) (fun _ _ _ h => h) (Or.inl ⟨by rfl, ?_⟩) (by assumption) ?_
        · intro wS hSw
          (try dsimp only at hSw)
          go_simp
        simp only [Act.put, List.setIfInBounds_toArray, List.set_cons_zero, List.set_cons_succ]
        refine wpAnyH_ready (rs := [6, 10]) (by kernel_rfl) (by simp) ?_
        refine AllReadyH.cons (o := ⟨some 134, _, _, _, _, _⟩) rfl (fun K hK => ?_) ?_
        · go_simp
          refine (HRG.out _ (Below.refl _ _).drew).mono ?_
          rintro e w32 ⟨rfl, hb32⟩
          have HB32 : Hid (Below w31.heap.size w31 w32) := (Below.refl _ _).drew.trans hb32
          obtain ⟨x2, y2⟩ := HMS.out _ HB32.out
          clear hb32
          refine hK.out _ _ ?_ (fun hHeld => ?_)
          · exact ⟨x2, y2⟩
          clear hK K
          try simp only [Act.put, List.setIfInBounds_toArray, List.set_cons_zero, List.set_cons_succ]
          refine wpAnyH_take (i := 7) (oi := ⟨some 127, _, _, _, _, _⟩) (v := .tuple #[.agg #[.string z.k, .string z.v, .bool z.g], .bool zs]) rfl (by kernel_rfl) (by kernel_rfl) (by kernel_rfl) (fun _ _ _ h => h) (Or.inl ⟨by rfl, ?_⟩) (by assumption) ?_
          · intro wS hSw
            (try dsimp only at hSw)
            go_simp
          simp only [Act.put, List.setIfInBounds_toArray, List.set_cons_zero, List.set_cons_succ]
          refine wpAnyH_take (i := 8) (oi := ⟨some 135, _, _, _, _, _⟩) (v := .agg #[.string z.k, .string z.v, .bool z.g]) rfl (by kernel_rfl) (by kernel_rfl) (by kernel_rfl) (fun _ _ _ h => h) (Or.inl ⟨by rfl, ?_⟩) (by assumption) ?_
          · intro wS hSw
            (try dsimp only at hSw)
            go_simp
          simp only [Act.put, List.setIfInBounds_toArray, List.set_cons_zero, List.set_cons_succ]
          refine wpAnyH_take (i := 9) (oi := ⟨some 136, _, _, _, _, _⟩) (v := .bool zs) rfl (by kernel_rfl) (by kernel_rfl) (by kernel_rfl) (fun _ _ _ h => h) (Or.inl ⟨by rfl, ?_⟩) (by assumption) ?_
          · intro wS hSw
            (try dsimp only at hSw)
            go_simp
          simp only [Act.put, List.setIfInBounds_toArray, List.set_cons_zero, List.set_cons_succ]
          refine wpAnyH_ready (rs := [10]) (by kernel_rfl) (by simp) ?_
          refine AllReadyH.cons (o := ⟨some 17, _, _, _, _, _⟩) rfl (fun K hK => ?_) AllReadyH.nil
          go_simp
          refine hK.out _ _ ?_ (fun hHeld => ?_)
          · exact HMS.out _ (HB32.out.alloc HB32.out.size _)
          clear hK K
          try simp only [Act.put, List.setIfInBounds_toArray, List.set_cons_zero, List.set_cons_succ]
          refine wpAnyH_ready (rs := [11]) (by kernel_rfl) (by simp) ?_
          refine AllReadyH.cons (o := ⟨none, _, _, _, _, _⟩) rfl (fun K hK => ?_) AllReadyH.nil
          go_simp
          refine hK.out _ _ ?_ (fun hHeld => ?_)
          · exact HMS.out _ (HB32.out.alloc HB32.out.size _)
          clear hK K
          try simp only [Act.put, List.setIfInBounds_toArray, List.set_cons_zero, List.set_cons_succ]
          refine wpAnyH_take (i := 12) (oi := ⟨some 18, _, _, _, _, _⟩) (v := .bool zs) rfl (by kernel_rfl) (by kernel_rfl) (by kernel_rfl) (fun _ _ _ h => h) (Or.inl ⟨by rfl, ?_⟩) (by assumption) ?_
          · intro wS hSw
            (try dsimp only at hSw)
            go_simp
          simp only [Act.put, List.setIfInBounds_toArray, List.set_cons_zero, List.set_cons_succ]
          refine wpAnyH_done (by kernel_rfl) ?_ _
          have HB34 : Hid (Below w31.heap.size w31 (w32.alloc (.cells #[.string z.k, .string z.v, .bool z.g] 49))) := HB32.out.alloc HB32.out.size _
          go_wp2_with fail
          refine (HRO.out _ HB34.out).mono ?_
          rintro e w34 ⟨v34, rfl, hv34, hb34⟩
          have HB35 : Hid (Below w31.heap.size w31 w34) := HB34.out.trans (hb34.mono HB34.out.size)
          have x34 := HML.out _ HB35.out
          have HSM : Hid (Calls Tryz.prog 21 #[v34, vr] w34 fun e w' => e = .returned (.bool true) ∧ ∃ n, w' = w34.drewN n) := by
            refine (same_any w3.heap.size v34 vr _ _ w34 hv34 (HVR.out _ HB35.out)).mono ?_
            rintro e w' ⟨rfl, n, rfl⟩
            exact ⟨by simp, n, rfl⟩
          obtain ⟨A34, k34, rfl, _, _, _⟩ := hv34.form
          clear hv34 hb34 HB34 HRO x0 y1 x2 y2
          go_wp2_with fail
          refine HSM.out.mono ?_
          rintro e w36 ⟨rfl, n, rfl⟩
          have HNX : Hid (StS w3.heap.size (w34.drewN n) q p (k + 1) (weakN (l.take (k + 1))) c8 s8 F8 ∧ RS w3.heap.size (w34.drewN n) m s8.rows ∧ Below w3.heap.size w3 (w34.drewN n)) := by
            rw [Hid, hwt]
            exact ⟨(HS31.out.below HB35.out).drawN n, (HR31.out.below HB35.out).drewN n, below_drewN' (HB31.out.trans (HB35.out.mono HB31.out.size)) n⟩
          clear HSM HS31 HR31 HB31 HB35 x34 HVR HML
          go_wp2_with fail
          go_roundw
          case rel => exact ⟨k + 1, q, c8, s8, F8, rfl, by go_num, by omega, HNX.out⟩
          case measure => simp [intOf] <;> omega
        · refine AllReadyH.cons (o := ⟨some 17, _, _, _, _, _⟩) rfl (fun K hK => ?_) AllReadyH.nil
          go_simp
          have HBA : Hid (Below w31.heap.size w31 (w31.drew.alloc (.cells #[.string ByteArray.empty, .string ByteArray.empty, .bool false] 49))) := (Below.refl _ _).drew.alloc (Nat.le_refl _) _
          have HKA : Hid (Blk (w31.drew.alloc (.cells #[.string ByteArray.empty, .string ByteArray.empty, .bool false] 49)) w31.heap.size 49 #[.string ByteArray.empty, .string ByteArray.empty, .bool false]) := Blk.new w31.drew _ _
          refine hK.out _ _ ?_ (fun hHeld => ?_)
          · exact HMS.out _ HBA.out
          clear hK K
          try simp only [Act.put, List.setIfInBounds_toArray, List.set_cons_zero, List.set_cons_succ]
          refine wpAnyH_ready (rs := [6]) (by kernel_rfl) (by simp) ?_
          refine AllReadyH.cons (o := ⟨some 134, _, _, _, _, _⟩) rfl (fun K hK => ?_) AllReadyH.nil
          go_simp
          refine (HRG.out _ HBA.out).mono ?_
          rintro e w32 ⟨rfl, hb32⟩
          have HB32 : Hid (Below w31.heap.size w31 w32) := HBA.out.trans (hb32.mono HBA.out.size)
          have HK32 := Lib.hid (HKA.out.below hb32 HKA.out.lt)
          obtain ⟨x2, y2⟩ := HMS.out _ HB32.out
          clear hb32 HBA HKA
          refine hK.out _ _ ?_ (fun hHeld => ?_)
          · exact ⟨x2, y2⟩
          clear hK K
          try simp only [Act.put, List.setIfInBounds_toArray, List.set_cons_zero, List.set_cons_succ]
          refine wpAnyH_take (i := 7) (oi := ⟨some 127, _, _, _, _, _⟩) (v := .tuple #[.agg #[.string z.k, .string z.v, .bool z.g], .bool zs]) rfl (by kernel_rfl) (by kernel_rfl) (by kernel_rfl) (fun _ _ _ h => h) (Or.inl ⟨by rfl, ?_⟩) (by assumption) ?_
          · intro wS hSw
            (try dsimp only at hSw)
            go_simp
          simp only [Act.put, List.setIfInBounds_toArray, List.set_cons_zero, List.set_cons_succ]
          refine wpAnyH_take (i := 8) (oi := ⟨some 135, _, _, _, _, _⟩) (v := .agg #[.string z.k, .string z.v, .bool z.g]) rfl (by kernel_rfl) (by kernel_rfl) (by kernel_rfl) (fun _ _ _ h => h) (Or.inl ⟨by rfl, ?_⟩) (by assumption) ?_
          · intro wS hSw
            (try dsimp only at hSw)
            go_simp
          simp only [Act.put, List.setIfInBounds_toArray, List.set_cons_zero, List.set_cons_succ]
          refine wpAnyH_take (i := 9) (oi := ⟨some 136, _, _, _, _, _⟩) (v := .bool zs) rfl (by kernel_rfl) (by kernel_rfl) (by kernel_rfl) (fun _ _ _ h => h) (Or.inl ⟨by rfl, ?_⟩) (by assumption) ?_
          · intro wS hSw
            (try dsimp only at hSw)
            go_simp
          simp only [Act.put, List.setIfInBounds_toArray, List.set_cons_zero, List.set_cons_succ]
          have z0 := HK32.out.cell 0
          have z1 := HK32.out.cell 1
          have z2 := HK32.out.cell 2
          have z3 := HK32.out.frozen 0
          have z4 := HK32.out.frozen 1
          have z5 := HK32.out.frozen 2
          simp at z0 z1 z2
          have HB33 : Hid (Below w31.heap.size w31 (((w32.setCell ⟨w31.heap.size, 0, none⟩ (.string z.k)).setCell ⟨w31.heap.size, 1, none⟩ (.string z.v)).setCell ⟨w31.heap.size, 2, none⟩ (.bool z.g))) := ((HB32.out.setCell (p := ⟨w31.heap.size, 0, none⟩) (Nat.le_refl _) _).setCell (p := ⟨w31.heap.size, 1, none⟩) (Nat.le_refl _) _).setCell (p := ⟨w31.heap.size, 2, none⟩) (Nat.le_refl _) _
          have HK33 : Hid (Blk (((w32.setCell ⟨w31.heap.size, 0, none⟩ (.string z.k)).setCell ⟨w31.heap.size, 1, none⟩ (.string z.v)).setCell ⟨w31.heap.size, 2, none⟩ (.bool z.g)) w31.heap.size 49 #[.string z.k, .string z.v, .bool z.g]) := by have := ((HK32.out.set_ 0 (.string z.k)).set_ 1 (.string z.v)).set_ 2 (.bool z.g); exact Lib.hid (by simpa using this)
          refine wpAnyH_ready (rs := [11]) (by kernel_rfl) (by simp) ?_
          refine AllReadyH.cons (o := ⟨none, _, _, _, _, _⟩) rfl (fun K hK => ?_) AllReadyH.nil
          go_simp
          refine hK.out _ _ ?_ (fun hHeld => ?_)
          · exact HMS.out _ HB33.out
          clear hK K
          try simp only [Act.put, List.setIfInBounds_toArray, List.set_cons_zero, List.set_cons_succ]
          refine wpAnyH_take (i := 12) (oi := ⟨some 18, _, _, _, _, _⟩) (v := .bool zs) rfl (by kernel_rfl) (by kernel_rfl) (by kernel_rfl) (fun _ _ _ h => h) (Or.inl ⟨by rfl, ?_⟩) (by assumption) ?_
          · intro wS hSw
            (try dsimp only at hSw)
            go_simp
          simp only [Act.put, List.setIfInBounds_toArray, List.set_cons_zero, List.set_cons_succ]
          refine wpAnyH_done (by kernel_rfl) ?_ _
          generalize (((w32.setCell ⟨w31.heap.size, 0, none⟩ (.string z.k)).setCell ⟨w31.heap.size, 1, none⟩ (.string z.v)).setCell ⟨w31.heap.size, 2, none⟩ (.bool z.g)) = w33 at *
          have y33 := HK33.out.cell 1
          simp at y33
          have HB34 := Lib.hid HB33.out
          clear z0 z1 z2 z3 z4 z5 HB33 HK33 HK32 HB32
          go_wp2_with fail
          refine (HRO.out _ HB34.out).mono ?_
          rintro e w34 ⟨v34, rfl, hv34, hb34⟩
          have HB35 : Hid (Below w31.heap.size w31 w34) := HB34.out.trans (hb34.mono HB34.out.size)
          have x34 := HML.out _ HB35.out
          have HSM : Hid (Calls Tryz.prog 21 #[v34, vr] w34 fun e w' => e = .returned (.bool true) ∧ ∃ n, w' = w34.drewN n) := by
            refine (same_any w3.heap.size v34 vr _ _ w34 hv34 (HVR.out _ HB35.out)).mono ?_
            rintro e w' ⟨rfl, n, rfl⟩
            exact ⟨by simp, n, rfl⟩
          obtain ⟨A34, k34, rfl, _, _, _⟩ := hv34.form
          clear hv34 hb34 HB34 HRO x0 y1 x2 y2
          go_wp2_with fail
          refine HSM.out.mono ?_
          rintro e w36 ⟨rfl, n, rfl⟩
          have HNX : Hid (StS w3.heap.size (w34.drewN n) q p (k + 1) (weakN (l.take (k + 1))) c8 s8 F8 ∧ RS w3.heap.size (w34.drewN n) m s8.rows ∧ Below w3.heap.size w3 (w34.drewN n)) := by
            rw [Hid, hwt]
            exact ⟨(HS31.out.below HB35.out).drawN n, (HR31.out.below HB35.out).drewN n, below_drewN' (HB31.out.trans (HB35.out.mono HB31.out.size)) n⟩
          clear HSM HS31 HR31 HB31 HB35 x34 HVR HML
          go_wp2_with fail
          go_roundw
          case rel => exact ⟨k + 1, q, c8, s8, F8, rfl, by go_num, by omega, HNX.out⟩
          case measure => simp [intOf] <;> omega
      have t2 := kind_ne k2
      by_cases k3 : kd.toList = kCompact
      · have t3 := kind_eq k3
        unfold kWrite at t1
        unfold kFlush at t2
        unfold kCompact at t3
        have hwa : weakA ⟨kd, sx, xa, xb, .slice A' lx.length cp', lx⟩ = 0 := if_neg (by rw [show (⟨kd, sx, xa, xb, .slice A' lx.length cp', lx⟩ : Act).kind.toList = kCompact from k3]; decide)
        rw [hwa, Nat.add_zero] at hwt
        clear k1 k2 k3 hwa
        have HW := Lib.hid (comp_st HS20.out (by omega))
        go_wp2_with fail
        generalize hW20 : (wr.alloc (.cells #[.string kd, .string sx, .int .i64 xa, .int .i64 xb, .slice A' lx.length cp'] 41)) = w20 at *
        generalize hga : wr.heap.size = ga at *
        clear hW20 hga d0 d1 d2 d3 d4
        refine HW.out.mono ?_
        rintro e w8 ⟨c8, s8, F8, rfl, hs8, hr8, hF8, hf8, _⟩
        have k8 := K20.out.fr hf8 (.inr (.inr (by decide)))
        have HS8 := Lib.hid hs8
        have HR8 : Hid (RS w3.heap.size w8 m s8.rows) := by rw [hr8]; exact HR20.out.sto HS20.out hf8
        have HB8 := Lib.hid (HB20.out.trans (hf8.below HB20.out.size))
        clear hs8 hr8 hF8 hf8 HW HS20 HR20 HB20 HE20 K20
        have HGT := Lib.hid (get_st HS8.out sx hsx)
        have y0 := k8.cell 1
        simp at y0
        go_wp2_with fail
        refine HGT.out.mono ?_
        rintro e w31 ⟨rfl, hs31, hb31⟩
        have HS31 := Lib.hid hs31
        have HR31 := Lib.hid (HR8.out.below hb31)
        have HB31 := Lib.hid (HB8.out.trans (hb31.mono HB8.out.size))
        have K31 := Lib.hid (k8.below hb31 k8.lt)
        obtain ⟨⟨vr, hmb, hvr⟩, hBm⟩ := HR8.out.below hb31
        have x0 := hmb.cell 0
        simp at x0
        have y1 := K31.out.cell 1
        simp at y1
        have hrg := fun W (hW : Below w31.heap.size w31 W) => rget_any w3.heap.size vr s8.rows sx W (hvr.below hW)
        unfold Ent.val at hrg
        have HRG := Lib.hid hrg
        have HRO := Lib.hid (fun W (hW : Below w31.heap.size w31 W) => srows_any w3.heap.size q p _ s8 _ W (hs31.st.below hW) (hs31.ch.below hW) hs31.ok.inv)
        have HVR := Lib.hid (fun W (hW : Below w31.heap.size w31 W) => hvr.below hW)
        have HML := Lib.hid (fun W (hW : Below w31.heap.size w31 W) => (hW.cell (p := ⟨m, 0, none⟩) (cell_lt x0)).trans x0)
        have HMS := Lib.hid (fun W (hW : Below w31.heap.size w31 W) => And.intro ((hW.cell (p := ⟨m, 0, none⟩) (cell_lt x0)).trans x0) ((hW.cell (p := ⟨ga, 1, none⟩) (cell_lt y1)).trans y1))
        have h40 : s8.rows.length ≤ 40 := hs31.ok.inv.body.rows
        clear hs31 hb31 HGT hmb hvr hrg HS8 HR8 HB8 y0
        generalize (getE s8.rows sx).getD Ent.zero = z at *
        generalize (getE s8.rows sx).isSome = zs at *
        go_wp2_with fail
        refine wp_region_held_drew (S := fun w' => w'.cell? ⟨m, 0, none⟩ = some vr ∧ w'.cell? ⟨ga, 1, none⟩ = some (.string sx)) (by kernel_rfl) ⟨x0, y1⟩ (fun hHeld => ?_)
        refine wpAnyH_take (i := 0) (oi := ⟨some 128, _, _, _, _, _⟩) (v := .pointer (some ⟨m, 0, none⟩)) rfl (by kernel_rfl) (by kernel_rfl) (by kernel_rfl) (fun _ _ _ h => h) (Or.inl ⟨by rfl, ?_⟩) (by assumption) ?_
        · intro wS hSw
          (try dsimp only at hSw)
          go_simp
        simp only [Act.put, List.setIfInBounds_toArray, List.set_cons_zero, List.set_cons_succ]
        refine wpAnyH_take (i := 1) (oi := ⟨some 129, _, _, _, _, _⟩) (v := .pointer (some ⟨m, 0, none⟩)) rfl (by kernel_rfl) (by kernel_rfl) (by kernel_rfl) (fun _ _ _ h => h) (Or.inl ⟨by rfl, ?_⟩) (by assumption) ?_
        · intro wS hSw
          (try dsimp only at hSw)
          go_simp
        simp only [Act.put, List.setIfInBounds_toArray, List.set_cons_zero, List.set_cons_succ]
        refine wpAnyH_take (i := 2) (oi := ⟨some 130, _, _, _, _, _⟩) (v := .pointer (some ⟨m, 0, none⟩)) rfl (by kernel_rfl) (by kernel_rfl) (by kernel_rfl) (fun _ _ _ h => h) (Or.inl ⟨by rfl, ?_⟩) (by assumption) ?_
        · intro wS hSw
          (try dsimp only at hSw)
          go_simp
        simp only [Act.put, List.setIfInBounds_toArray, List.set_cons_zero, List.set_cons_succ]
        refine wpAnyH_take (i := 3) (oi := ⟨some 131, _, _, _, _, _⟩) (v := vr) rfl (by kernel_rfl) (by kernel_rfl) (by kernel_rfl) (fun _ _ _ h => h) (Or.inl ⟨by rfl, ?_⟩) (by assumption) ?_
        · intro wS hSw
          (try dsimp only at hSw)
          go_simp
        simp only [Act.put, List.setIfInBounds_toArray, List.set_cons_zero, List.set_cons_succ]
        refine wpAnyH_take (i := 4) (oi := ⟨some 132, _, _, _, _, _⟩) (v := .pointer (some ⟨ga, 1, none⟩)) rfl (by kernel_rfl) (by kernel_rfl) (by kernel_rfl) (fun _ _ _ h => h) (Or.inl ⟨by rfl, ?_⟩) (by assumption) ?_
        · intro wS hSw
          (try dsimp only at hSw)
          go_simp
        simp only [Act.put, List.setIfInBounds_toArray, List.set_cons_zero, List.set_cons_succ]
        refine wpAnyH_take (i := 5) (oi := ⟨some 133, _, _, _, _, _⟩) (v := .string sx) rfl (by kernel_rfl) (by kernel_rfl) (by kernel_rfl) (fun _ _ _ h => h) (Or.inl ⟨by rfl, ?_⟩) (by assumption) ?_
        · intro wS hSw
          (try dsimp only at hSw)
          go_simp
        simp only [Act.put, List.setIfInBounds_toArray, List.set_cons_zero, List.set_cons_succ]
        refine wpAnyH_ready (rs := [6, 10]) (by kernel_rfl) (by simp) ?_
        refine AllReadyH.cons (o := ⟨some 134, _, _, _, _, _⟩) rfl (fun K hK => ?_) ?_
        · go_simp
          refine (HRG.out _ (Below.refl _ _).drew).mono ?_
          rintro e w32 ⟨rfl, hb32⟩
          have HB32 : Hid (Below w31.heap.size w31 w32) := (Below.refl _ _).drew.trans hb32
          obtain ⟨x2, y2⟩ := HMS.out _ HB32.out
          clear hb32
          refine hK.out _ _ ?_ (fun hHeld => ?_)
          · exact ⟨x2, y2⟩
          clear hK K
          try simp only [Act.put, List.setIfInBounds_toArray, List.set_cons_zero, List.set_cons_succ]
          refine wpAnyH_take (i := 7) (oi := ⟨some 127, _, _, _, _, _⟩) (v := .tuple #[.agg #[.string z.k, .string z.v, .bool z.g], .bool zs]) rfl (by kernel_rfl) (by kernel_rfl) (by kernel_rfl) (fun _ _ _ h => h) (Or.inl ⟨by rfl, ?_⟩) (by assumption) ?_
          · intro wS hSw
            (try dsimp only at hSw)
            go_simp
          simp only [Act.put, List.setIfInBounds_toArray, List.set_cons_zero, List.set_cons_succ]
          refine wpAnyH_take (i := 8) (oi := ⟨some 135, _, _, _, _, _⟩) (v := .agg #[.string z.k, .string z.v, .bool z.g]) rfl (by kernel_rfl) (by kernel_rfl) (by kernel_rfl) (fun _ _ _ h => h) (Or.inl ⟨by rfl, ?_⟩) (by assumption) ?_
          · intro wS hSw
            (try dsimp only at hSw)
            go_simp
          simp only [Act.put, List.setIfInBounds_toArray, List.set_cons_zero, List.set_cons_succ]
          refine wpAnyH_take (i := 9) (oi := ⟨some 136, _, _, _, _, _⟩) (v := .bool zs) rfl (by kernel_rfl) (by kernel_rfl) (by kernel_rfl) (fun _ _ _ h => h) (Or.inl ⟨by rfl, ?_⟩) (by assumption) ?_
          · intro wS hSw
            (try dsimp only at hSw)
            go_simp
          simp only [Act.put, List.setIfInBounds_toArray, List.set_cons_zero, List.set_cons_succ]
          refine wpAnyH_ready (rs := [10]) (by kernel_rfl) (by simp) ?_
          refine AllReadyH.cons (o := ⟨some 17, _, _, _, _, _⟩) rfl (fun K hK => ?_) AllReadyH.nil
          go_simp
          refine hK.out _ _ ?_ (fun hHeld => ?_)
          · exact HMS.out _ (HB32.out.alloc HB32.out.size _)
          clear hK K
          try simp only [Act.put, List.setIfInBounds_toArray, List.set_cons_zero, List.set_cons_succ]
          refine wpAnyH_ready (rs := [11]) (by kernel_rfl) (by simp) ?_
          refine AllReadyH.cons (o := ⟨none, _, _, _, _, _⟩) rfl (fun K hK => ?_) AllReadyH.nil
          go_simp
          refine hK.out _ _ ?_ (fun hHeld => ?_)
          · exact HMS.out _ (HB32.out.alloc HB32.out.size _)
          clear hK K
          try simp only [Act.put, List.setIfInBounds_toArray, List.set_cons_zero, List.set_cons_succ]
          refine wpAnyH_take (i := 12) (oi := ⟨some 18, _, _, _, _, _⟩) (v := .bool zs) rfl (by kernel_rfl) (by kernel_rfl) (by kernel_rfl) (fun _ _ _ h => h) (Or.inl ⟨by rfl, ?_⟩) (by assumption) ?_
          · intro wS hSw
            (try dsimp only at hSw)
            go_simp
          simp only [Act.put, List.setIfInBounds_toArray, List.set_cons_zero, List.set_cons_succ]
          refine wpAnyH_done (by kernel_rfl) ?_ _
          have HB34 : Hid (Below w31.heap.size w31 (w32.alloc (.cells #[.string z.k, .string z.v, .bool z.g] 49))) := HB32.out.alloc HB32.out.size _
          go_wp2_with fail
          refine (HRO.out _ HB34.out).mono ?_
          rintro e w34 ⟨v34, rfl, hv34, hb34⟩
          have HB35 : Hid (Below w31.heap.size w31 w34) := HB34.out.trans (hb34.mono HB34.out.size)
          have x34 := HML.out _ HB35.out
          have HSM : Hid (Calls Tryz.prog 21 #[v34, vr] w34 fun e w' => e = .returned (.bool true) ∧ ∃ n, w' = w34.drewN n) := by
            refine (same_any w3.heap.size v34 vr _ _ w34 hv34 (HVR.out _ HB35.out)).mono ?_
            rintro e w' ⟨rfl, n, rfl⟩
            exact ⟨by simp, n, rfl⟩
          obtain ⟨A34, k34, rfl, _, _, _⟩ := hv34.form
          clear hv34 hb34 HB34 HRO x0 y1 x2 y2
          go_wp2_with fail
          refine HSM.out.mono ?_
          rintro e w36 ⟨rfl, n, rfl⟩
          have HNX : Hid (StS w3.heap.size (w34.drewN n) q p (k + 1) (weakN (l.take (k + 1))) c8 s8 F8 ∧ RS w3.heap.size (w34.drewN n) m s8.rows ∧ Below w3.heap.size w3 (w34.drewN n)) := by
            rw [Hid, hwt]
            exact ⟨(HS31.out.below HB35.out).drawN n, (HR31.out.below HB35.out).drewN n, below_drewN' (HB31.out.trans (HB35.out.mono HB31.out.size)) n⟩
          clear HSM HS31 HR31 HB31 HB35 x34 HVR HML
          go_wp2_with fail
          go_roundw
          case rel => exact ⟨k + 1, q, c8, s8, F8, rfl, by go_num, by omega, HNX.out⟩
          case measure => simp [intOf] <;> omega
        · refine AllReadyH.cons (o := ⟨some 17, _, _, _, _, _⟩) rfl (fun K hK => ?_) AllReadyH.nil
          go_simp
          have HBA : Hid (Below w31.heap.size w31 (w31.drew.alloc (.cells #[.string ByteArray.empty, .string ByteArray.empty, .bool false] 49))) := (Below.refl _ _).drew.alloc (Nat.le_refl _) _
          have HKA : Hid (Blk (w31.drew.alloc (.cells #[.string ByteArray.empty, .string ByteArray.empty, .bool false] 49)) w31.heap.size 49 #[.string ByteArray.empty, .string ByteArray.empty, .bool false]) := Blk.new w31.drew _ _
          refine hK.out _ _ ?_ (fun hHeld => ?_)
          · exact HMS.out _ HBA.out
          clear hK K
          try simp only [Act.put, List.setIfInBounds_toArray, List.set_cons_zero, List.set_cons_succ]
          refine wpAnyH_ready (rs := [6]) (by kernel_rfl) (by simp) ?_
          refine AllReadyH.cons (o := ⟨some 134, _, _, _, _, _⟩) rfl (fun K hK => ?_) AllReadyH.nil
          go_simp
          refine (HRG.out _ HBA.out).mono ?_
          rintro e w32 ⟨rfl, hb32⟩
          have HB32 : Hid (Below w31.heap.size w31 w32) := HBA.out.trans (hb32.mono HBA.out.size)
          have HK32 := Lib.hid (HKA.out.below hb32 HKA.out.lt)
          obtain ⟨x2, y2⟩ := HMS.out _ HB32.out
          clear hb32 HBA HKA
          refine hK.out _ _ ?_ (fun hHeld => ?_)
          · exact ⟨x2, y2⟩
          clear hK K
          try simp only [Act.put, List.setIfInBounds_toArray, List.set_cons_zero, List.set_cons_succ]
          refine wpAnyH_take (i := 7) (oi := ⟨some 127, _, _, _, _, _⟩) (v := .tuple #[.agg #[.string z.k, .string z.v, .bool z.g], .bool zs]) rfl (by kernel_rfl) (by kernel_rfl) (by kernel_rfl) (fun _ _ _ h => h) (Or.inl ⟨by rfl, ?_⟩) (by assumption) ?_
          · intro wS hSw
            (try dsimp only at hSw)
            go_simp
          simp only [Act.put, List.setIfInBounds_toArray, List.set_cons_zero, List.set_cons_succ]
          refine wpAnyH_take (i := 8) (oi := ⟨some 135, _, _, _, _, _⟩) (v := .agg #[.string z.k, .string z.v, .bool z.g]) rfl (by kernel_rfl) (by kernel_rfl) (by kernel_rfl) (fun _ _ _ h => h) (Or.inl ⟨by rfl, ?_⟩) (by assumption) ?_
          · intro wS hSw
            (try dsimp only at hSw)
            go_simp
          simp only [Act.put, List.setIfInBounds_toArray, List.set_cons_zero, List.set_cons_succ]
          refine wpAnyH_take (i := 9) (oi := ⟨some 136, _, _, _, _, _⟩) (v := .bool zs) rfl (by kernel_rfl) (by kernel_rfl) (by kernel_rfl) (fun _ _ _ h => h) (Or.inl ⟨by rfl, ?_⟩) (by assumption) ?_
          · intro wS hSw
            (try dsimp only at hSw)
            go_simp
          simp only [Act.put, List.setIfInBounds_toArray, List.set_cons_zero, List.set_cons_succ]
          have z0 := HK32.out.cell 0
          have z1 := HK32.out.cell 1
          have z2 := HK32.out.cell 2
          have z3 := HK32.out.frozen 0
          have z4 := HK32.out.frozen 1
          have z5 := HK32.out.frozen 2
          simp at z0 z1 z2
          have HB33 : Hid (Below w31.heap.size w31 (((w32.setCell ⟨w31.heap.size, 0, none⟩ (.string z.k)).setCell ⟨w31.heap.size, 1, none⟩ (.string z.v)).setCell ⟨w31.heap.size, 2, none⟩ (.bool z.g))) := ((HB32.out.setCell (p := ⟨w31.heap.size, 0, none⟩) (Nat.le_refl _) _).setCell (p := ⟨w31.heap.size, 1, none⟩) (Nat.le_refl _) _).setCell (p := ⟨w31.heap.size, 2, none⟩) (Nat.le_refl _) _
          have HK33 : Hid (Blk (((w32.setCell ⟨w31.heap.size, 0, none⟩ (.string z.k)).setCell ⟨w31.heap.size, 1, none⟩ (.string z.v)).setCell ⟨w31.heap.size, 2, none⟩ (.bool z.g)) w31.heap.size 49 #[.string z.k, .string z.v, .bool z.g]) := by have := ((HK32.out.set_ 0 (.string z.k)).set_ 1 (.string z.v)).set_ 2 (.bool z.g); exact Lib.hid (by simpa using this)
          refine wpAnyH_ready (rs := [11]) (by kernel_rfl) (by simp) ?_
          refine AllReadyH.cons (o := ⟨none, _, _, _, _, _⟩) rfl (fun K hK => ?_) AllReadyH.nil
          go_simp
          refine hK.out _ _ ?_ (fun hHeld => ?_)
          · exact HMS.out _ HB33.out
          clear hK K
          try simp only [Act.put, List.setIfInBounds_toArray, List.set_cons_zero, List.set_cons_succ]
          refine wpAnyH_take (i := 12) (oi := ⟨some 18, _, _, _, _, _⟩) (v := .bool zs) rfl (by kernel_rfl) (by kernel_rfl) (by kernel_rfl) (fun _ _ _ h => h) (Or.inl ⟨by rfl, ?_⟩) (by assumption) ?_
          · intro wS hSw
            (try dsimp only at hSw)
            go_simp
          simp only [Act.put, List.setIfInBounds_toArray, List.set_cons_zero, List.set_cons_succ]
          refine wpAnyH_done (by kernel_rfl) ?_ _
          generalize (((w32.setCell ⟨w31.heap.size, 0, none⟩ (.string z.k)).setCell ⟨w31.heap.size, 1, none⟩ (.string z.v)).setCell ⟨w31.heap.size, 2, none⟩ (.bool z.g)) = w33 at *
          have y33 := HK33.out.cell 1
          simp at y33
          have HB34 := Lib.hid HB33.out
          clear z0 z1 z2 z3 z4 z5 HB33 HK33 HK32 HB32
          go_wp2_with fail
          refine (HRO.out _ HB34.out).mono ?_
          rintro e w34 ⟨v34, rfl, hv34, hb34⟩
          have HB35 : Hid (Below w31.heap.size w31 w34) := HB34.out.trans (hb34.mono HB34.out.size)
          have x34 := HML.out _ HB35.out
          have HSM : Hid (Calls Tryz.prog 21 #[v34, vr] w34 fun e w' => e = .returned (.bool true) ∧ ∃ n, w' = w34.drewN n) := by
            refine (same_any w3.heap.size v34 vr _ _ w34 hv34 (HVR.out _ HB35.out)).mono ?_
            rintro e w' ⟨rfl, n, rfl⟩
            exact ⟨by simp, n, rfl⟩
          obtain ⟨A34, k34, rfl, _, _, _⟩ := hv34.form
          clear hv34 hb34 HB34 HRO x0 y1 x2 y2
          go_wp2_with fail
          refine HSM.out.mono ?_
          rintro e w36 ⟨rfl, n, rfl⟩
          have HNX : Hid (StS w3.heap.size (w34.drewN n) q p (k + 1) (weakN (l.take (k + 1))) c8 s8 F8 ∧ RS w3.heap.size (w34.drewN n) m s8.rows ∧ Below w3.heap.size w3 (w34.drewN n)) := by
            rw [Hid, hwt]
            exact ⟨(HS31.out.below HB35.out).drawN n, (HR31.out.below HB35.out).drewN n, below_drewN' (HB31.out.trans (HB35.out.mono HB31.out.size)) n⟩
          clear HSM HS31 HR31 HB31 HB35 x34 HVR HML
          go_wp2_with fail
          go_roundw
          case rel => exact ⟨k + 1, q, c8, s8, F8, rfl, by go_num, by omega, HNX.out⟩
          case measure => simp [intOf] <;> omega
      have t3 := kind_ne k3
      by_cases k4 : kd.toList = kWeaken
      · have t4 := kind_eq k4
        unfold kWrite at t1
        unfold kFlush at t2
        unfold kCompact at t3
        unfold kWeaken at t4
        have hwa : weakA ⟨kd, sx, xa, xb, .slice A' lx.length cp', lx⟩ = 1 := if_pos k4
        rw [hwa] at hwt
        clear k1 k2 k3 k4 hwa
        have HW := Lib.hid (weaken_st HS20.out (by omega) xa)
        go_wp2_with fail
        generalize hW20 : (wr.alloc (.cells #[.string kd, .string sx, .int .i64 xa, .int .i64 xb, .slice A' lx.length cp'] 41)) = w20 at *
        generalize hga : wr.heap.size = ga at *
        clear hW20 hga d0 d1 d2 d3 d4
        refine HW.out.mono ?_
        rintro e w8 ⟨rfl, hs8, hf8⟩
        obtain ⟨c8, hc8⟩ : ∃ c8, c8 = (c.weaken xa).1 := ⟨_, rfl⟩
        rw [← hc8] at hs8
        have k8 := K20.out.fr hf8 (.inr (.inr (by decide)))
        have HS8 := Lib.hid hs8
        have HR8 := Lib.hid (HR20.out.sto HS20.out hf8)
        have HB8 := Lib.hid (HB20.out.trans (hf8.below HB20.out.size))
        clear hs8 hf8 hc8 HW HS20 HR20 HB20 HE20 K20
        have HGT := Lib.hid (get_st HS8.out sx hsx)
        have y0 := k8.cell 1
        simp at y0
        go_wp2_with fail
        refine HGT.out.mono ?_
        rintro e w31 ⟨rfl, hs31, hb31⟩
        have HS31 := Lib.hid hs31
        have HR31 := Lib.hid (HR8.out.below hb31)
        have HB31 := Lib.hid (HB8.out.trans (hb31.mono HB8.out.size))
        have K31 := Lib.hid (k8.below hb31 k8.lt)
        obtain ⟨⟨vr, hmb, hvr⟩, hBm⟩ := HR8.out.below hb31
        have x0 := hmb.cell 0
        simp at x0
        have y1 := K31.out.cell 1
        simp at y1
        have hrg := fun W (hW : Below w31.heap.size w31 W) => rget_any w3.heap.size vr s.rows sx W (hvr.below hW)
        unfold Ent.val at hrg
        have HRG := Lib.hid hrg
        have HRO := Lib.hid (fun W (hW : Below w31.heap.size w31 W) => srows_any w3.heap.size q p _ s _ W (hs31.st.below hW) (hs31.ch.below hW) hs31.ok.inv)
        have HVR := Lib.hid (fun W (hW : Below w31.heap.size w31 W) => hvr.below hW)
        have HML := Lib.hid (fun W (hW : Below w31.heap.size w31 W) => (hW.cell (p := ⟨m, 0, none⟩) (cell_lt x0)).trans x0)
        have HMS := Lib.hid (fun W (hW : Below w31.heap.size w31 W) => And.intro ((hW.cell (p := ⟨m, 0, none⟩) (cell_lt x0)).trans x0) ((hW.cell (p := ⟨ga, 1, none⟩) (cell_lt y1)).trans y1))
        have h40 : s.rows.length ≤ 40 := hs31.ok.inv.body.rows
        clear hs31 hb31 HGT hmb hvr hrg HS8 HR8 HB8 y0
        generalize (getE s.rows sx).getD Ent.zero = z at *
        generalize (getE s.rows sx).isSome = zs at *
        go_wp2_with fail
        refine wp_region_held_drew (S := fun w' => w'.cell? ⟨m, 0, none⟩ = some vr ∧ w'.cell? ⟨ga, 1, none⟩ = some (.string sx)) (by kernel_rfl) ⟨x0, y1⟩ (fun hHeld => ?_)
        refine wpAnyH_take (i := 0) (oi := ⟨some 128, _, _, _, _, _⟩) (v := .pointer (some ⟨m, 0, none⟩)) rfl (by kernel_rfl) (by kernel_rfl) (by kernel_rfl) (fun _ _ _ h => h) (Or.inl ⟨by rfl, ?_⟩) (by assumption) ?_
        · intro wS hSw
          (try dsimp only at hSw)
          go_simp
        simp only [Act.put, List.setIfInBounds_toArray, List.set_cons_zero, List.set_cons_succ]
        refine wpAnyH_take (i := 1) (oi := ⟨some 129, _, _, _, _, _⟩) (v := .pointer (some ⟨m, 0, none⟩)) rfl (by kernel_rfl) (by kernel_rfl) (by kernel_rfl) (fun _ _ _ h => h) (Or.inl ⟨by rfl, ?_⟩) (by assumption) ?_
        · intro wS hSw
          (try dsimp only at hSw)
          go_simp
        simp only [Act.put, List.setIfInBounds_toArray, List.set_cons_zero, List.set_cons_succ]
        refine wpAnyH_take (i := 2) (oi := ⟨some 130, _, _, _, _, _⟩) (v := .pointer (some ⟨m, 0, none⟩)) rfl (by kernel_rfl) (by kernel_rfl) (by kernel_rfl) (fun _ _ _ h => h) (Or.inl ⟨by rfl, ?_⟩) (by assumption) ?_
        · intro wS hSw
          (try dsimp only at hSw)
          go_simp
        simp only [Act.put, List.setIfInBounds_toArray, List.set_cons_zero, List.set_cons_succ]
        refine wpAnyH_take (i := 3) (oi := ⟨some 131, _, _, _, _, _⟩) (v := vr) rfl (by kernel_rfl) (by kernel_rfl) (by kernel_rfl) (fun _ _ _ h => h) (Or.inl ⟨by rfl, ?_⟩) (by assumption) ?_
        · intro wS hSw
          (try dsimp only at hSw)
          go_simp
        simp only [Act.put, List.setIfInBounds_toArray, List.set_cons_zero, List.set_cons_succ]
        refine wpAnyH_take (i := 4) (oi := ⟨some 132, _, _, _, _, _⟩) (v := .pointer (some ⟨ga, 1, none⟩)) rfl (by kernel_rfl) (by kernel_rfl) (by kernel_rfl) (fun _ _ _ h => h) (Or.inl ⟨by rfl, ?_⟩) (by assumption) ?_
        · intro wS hSw
          (try dsimp only at hSw)
          go_simp
        simp only [Act.put, List.setIfInBounds_toArray, List.set_cons_zero, List.set_cons_succ]
        refine wpAnyH_take (i := 5) (oi := ⟨some 133, _, _, _, _, _⟩) (v := .string sx) rfl (by kernel_rfl) (by kernel_rfl) (by kernel_rfl) (fun _ _ _ h => h) (Or.inl ⟨by rfl, ?_⟩) (by assumption) ?_
        · intro wS hSw
          (try dsimp only at hSw)
          go_simp
        simp only [Act.put, List.setIfInBounds_toArray, List.set_cons_zero, List.set_cons_succ]
        refine wpAnyH_ready (rs := [6, 10]) (by kernel_rfl) (by simp) ?_
        refine AllReadyH.cons (o := ⟨some 134, _, _, _, _, _⟩) rfl (fun K hK => ?_) ?_
        · go_simp
          refine (HRG.out _ (Below.refl _ _).drew).mono ?_
          rintro e w32 ⟨rfl, hb32⟩
          have HB32 : Hid (Below w31.heap.size w31 w32) := (Below.refl _ _).drew.trans hb32
          obtain ⟨x2, y2⟩ := HMS.out _ HB32.out
          clear hb32
          refine hK.out _ _ ?_ (fun hHeld => ?_)
          · exact ⟨x2, y2⟩
          clear hK K
          try simp only [Act.put, List.setIfInBounds_toArray, List.set_cons_zero, List.set_cons_succ]
          refine wpAnyH_take (i := 7) (oi := ⟨some 127, _, _, _, _, _⟩) (v := .tuple #[.agg #[.string z.k, .string z.v, .bool z.g], .bool zs]) rfl (by kernel_rfl) (by kernel_rfl) (by kernel_rfl) (fun _ _ _ h => h) (Or.inl ⟨by rfl, ?_⟩) (by assumption) ?_
          · intro wS hSw
            (try dsimp only at hSw)
            go_simp
          simp only [Act.put, List.setIfInBounds_toArray, List.set_cons_zero, List.set_cons_succ]
          refine wpAnyH_take (i := 8) (oi := ⟨some 135, _, _, _, _, _⟩) (v := .agg #[.string z.k, .string z.v, .bool z.g]) rfl (by kernel_rfl) (by kernel_rfl) (by kernel_rfl) (fun _ _ _ h => h) (Or.inl ⟨by rfl, ?_⟩) (by assumption) ?_
          · intro wS hSw
            (try dsimp only at hSw)
            go_simp
          simp only [Act.put, List.setIfInBounds_toArray, List.set_cons_zero, List.set_cons_succ]
          refine wpAnyH_take (i := 9) (oi := ⟨some 136, _, _, _, _, _⟩) (v := .bool zs) rfl (by kernel_rfl) (by kernel_rfl) (by kernel_rfl) (fun _ _ _ h => h) (Or.inl ⟨by rfl, ?_⟩) (by assumption) ?_
          · intro wS hSw
            (try dsimp only at hSw)
            go_simp
          simp only [Act.put, List.setIfInBounds_toArray, List.set_cons_zero, List.set_cons_succ]
          refine wpAnyH_ready (rs := [10]) (by kernel_rfl) (by simp) ?_
          refine AllReadyH.cons (o := ⟨some 17, _, _, _, _, _⟩) rfl (fun K hK => ?_) AllReadyH.nil
          go_simp
          refine hK.out _ _ ?_ (fun hHeld => ?_)
          · exact HMS.out _ (HB32.out.alloc HB32.out.size _)
          clear hK K
          try simp only [Act.put, List.setIfInBounds_toArray, List.set_cons_zero, List.set_cons_succ]
          refine wpAnyH_ready (rs := [11]) (by kernel_rfl) (by simp) ?_
          refine AllReadyH.cons (o := ⟨none, _, _, _, _, _⟩) rfl (fun K hK => ?_) AllReadyH.nil
          go_simp
          refine hK.out _ _ ?_ (fun hHeld => ?_)
          · exact HMS.out _ (HB32.out.alloc HB32.out.size _)
          clear hK K
          try simp only [Act.put, List.setIfInBounds_toArray, List.set_cons_zero, List.set_cons_succ]
          refine wpAnyH_take (i := 12) (oi := ⟨some 18, _, _, _, _, _⟩) (v := .bool zs) rfl (by kernel_rfl) (by kernel_rfl) (by kernel_rfl) (fun _ _ _ h => h) (Or.inl ⟨by rfl, ?_⟩) (by assumption) ?_
          · intro wS hSw
            (try dsimp only at hSw)
            go_simp
          simp only [Act.put, List.setIfInBounds_toArray, List.set_cons_zero, List.set_cons_succ]
          refine wpAnyH_done (by kernel_rfl) ?_ _
          have HB34 : Hid (Below w31.heap.size w31 (w32.alloc (.cells #[.string z.k, .string z.v, .bool z.g] 49))) := HB32.out.alloc HB32.out.size _
          go_wp2_with fail
          refine (HRO.out _ HB34.out).mono ?_
          rintro e w34 ⟨v34, rfl, hv34, hb34⟩
          have HB35 : Hid (Below w31.heap.size w31 w34) := HB34.out.trans (hb34.mono HB34.out.size)
          have x34 := HML.out _ HB35.out
          have HSM : Hid (Calls Tryz.prog 21 #[v34, vr] w34 fun e w' => e = .returned (.bool true) ∧ ∃ n, w' = w34.drewN n) := by
            refine (same_any w3.heap.size v34 vr _ _ w34 hv34 (HVR.out _ HB35.out)).mono ?_
            rintro e w' ⟨rfl, n, rfl⟩
            exact ⟨by simp, n, rfl⟩
          obtain ⟨A34, k34, rfl, _, _, _⟩ := hv34.form
          clear hv34 hb34 HB34 HRO x0 y1 x2 y2
          go_wp2_with fail
          refine HSM.out.mono ?_
          rintro e w36 ⟨rfl, n, rfl⟩
          have HNX : Hid (StS w3.heap.size (w34.drewN n) q p (k + 1) (weakN (l.take (k + 1))) c8 s F ∧ RS w3.heap.size (w34.drewN n) m s.rows ∧ Below w3.heap.size w3 (w34.drewN n)) := by
            rw [Hid, hwt]
            exact ⟨(HS31.out.below HB35.out).drawN n, (HR31.out.below HB35.out).drewN n, below_drewN' (HB31.out.trans (HB35.out.mono HB31.out.size)) n⟩
          clear HSM HS31 HR31 HB31 HB35 x34 HVR HML
          go_wp2_with fail
          go_roundw
          case rel => exact ⟨k + 1, q, c8, s, F, rfl, by go_num, by omega, HNX.out⟩
          case measure => simp [intOf] <;> omega
        · refine AllReadyH.cons (o := ⟨some 17, _, _, _, _, _⟩) rfl (fun K hK => ?_) AllReadyH.nil
          go_simp
          have HBA : Hid (Below w31.heap.size w31 (w31.drew.alloc (.cells #[.string ByteArray.empty, .string ByteArray.empty, .bool false] 49))) := (Below.refl _ _).drew.alloc (Nat.le_refl _) _
          have HKA : Hid (Blk (w31.drew.alloc (.cells #[.string ByteArray.empty, .string ByteArray.empty, .bool false] 49)) w31.heap.size 49 #[.string ByteArray.empty, .string ByteArray.empty, .bool false]) := Blk.new w31.drew _ _
          refine hK.out _ _ ?_ (fun hHeld => ?_)
          · exact HMS.out _ HBA.out
          clear hK K
          try simp only [Act.put, List.setIfInBounds_toArray, List.set_cons_zero, List.set_cons_succ]
          refine wpAnyH_ready (rs := [6]) (by kernel_rfl) (by simp) ?_
          refine AllReadyH.cons (o := ⟨some 134, _, _, _, _, _⟩) rfl (fun K hK => ?_) AllReadyH.nil
          go_simp
          refine (HRG.out _ HBA.out).mono ?_
          rintro e w32 ⟨rfl, hb32⟩
          have HB32 : Hid (Below w31.heap.size w31 w32) := HBA.out.trans (hb32.mono HBA.out.size)
          have HK32 := Lib.hid (HKA.out.below hb32 HKA.out.lt)
          obtain ⟨x2, y2⟩ := HMS.out _ HB32.out
          clear hb32 HBA HKA
          refine hK.out _ _ ?_ (fun hHeld => ?_)
          · exact ⟨x2, y2⟩
          clear hK K
          try simp only [Act.put, List.setIfInBounds_toArray, List.set_cons_zero, List.set_cons_succ]
          refine wpAnyH_take (i := 7) (oi := ⟨some 127, _, _, _, _, _⟩) (v := .tuple #[.agg #[.string z.k, .string z.v, .bool z.g], .bool zs]) rfl (by kernel_rfl) (by kernel_rfl) (by kernel_rfl) (fun _ _ _ h => h) (Or.inl ⟨by rfl, ?_⟩) (by assumption) ?_
          · intro wS hSw
            (try dsimp only at hSw)
            go_simp
          simp only [Act.put, List.setIfInBounds_toArray, List.set_cons_zero, List.set_cons_succ]
          refine wpAnyH_take (i := 8) (oi := ⟨some 135, _, _, _, _, _⟩) (v := .agg #[.string z.k, .string z.v, .bool z.g]) rfl (by kernel_rfl) (by kernel_rfl) (by kernel_rfl) (fun _ _ _ h => h) (Or.inl ⟨by rfl, ?_⟩) (by assumption) ?_
          · intro wS hSw
            (try dsimp only at hSw)
            go_simp
          simp only [Act.put, List.setIfInBounds_toArray, List.set_cons_zero, List.set_cons_succ]
          refine wpAnyH_take (i := 9) (oi := ⟨some 136, _, _, _, _, _⟩) (v := .bool zs) rfl (by kernel_rfl) (by kernel_rfl) (by kernel_rfl) (fun _ _ _ h => h) (Or.inl ⟨by rfl, ?_⟩) (by assumption) ?_
          · intro wS hSw
            (try dsimp only at hSw)
            go_simp
          simp only [Act.put, List.setIfInBounds_toArray, List.set_cons_zero, List.set_cons_succ]
          have z0 := HK32.out.cell 0
          have z1 := HK32.out.cell 1
          have z2 := HK32.out.cell 2
          have z3 := HK32.out.frozen 0
          have z4 := HK32.out.frozen 1
          have z5 := HK32.out.frozen 2
          simp at z0 z1 z2
          have HB33 : Hid (Below w31.heap.size w31 (((w32.setCell ⟨w31.heap.size, 0, none⟩ (.string z.k)).setCell ⟨w31.heap.size, 1, none⟩ (.string z.v)).setCell ⟨w31.heap.size, 2, none⟩ (.bool z.g))) := ((HB32.out.setCell (p := ⟨w31.heap.size, 0, none⟩) (Nat.le_refl _) _).setCell (p := ⟨w31.heap.size, 1, none⟩) (Nat.le_refl _) _).setCell (p := ⟨w31.heap.size, 2, none⟩) (Nat.le_refl _) _
          have HK33 : Hid (Blk (((w32.setCell ⟨w31.heap.size, 0, none⟩ (.string z.k)).setCell ⟨w31.heap.size, 1, none⟩ (.string z.v)).setCell ⟨w31.heap.size, 2, none⟩ (.bool z.g)) w31.heap.size 49 #[.string z.k, .string z.v, .bool z.g]) := by have := ((HK32.out.set_ 0 (.string z.k)).set_ 1 (.string z.v)).set_ 2 (.bool z.g); exact Lib.hid (by simpa using this)
          refine wpAnyH_ready (rs := [11]) (by kernel_rfl) (by simp) ?_
          refine AllReadyH.cons (o := ⟨none, _, _, _, _, _⟩) rfl (fun K hK => ?_) AllReadyH.nil
          go_simp
          refine hK.out _ _ ?_ (fun hHeld => ?_)
          · exact HMS.out _ HB33.out
          clear hK K
          try simp only [Act.put, List.setIfInBounds_toArray, List.set_cons_zero, List.set_cons_succ]
          refine wpAnyH_take (i := 12) (oi := ⟨some 18, _, _, _, _, _⟩) (v := .bool zs) rfl (by kernel_rfl) (by kernel_rfl) (by kernel_rfl) (fun _ _ _ h => h) (Or.inl ⟨by rfl, ?_⟩) (by assumption) ?_
          · intro wS hSw
            (try dsimp only at hSw)
            go_simp
          simp only [Act.put, List.setIfInBounds_toArray, List.set_cons_zero, List.set_cons_succ]
          refine wpAnyH_done (by kernel_rfl) ?_ _
          generalize (((w32.setCell ⟨w31.heap.size, 0, none⟩ (.string z.k)).setCell ⟨w31.heap.size, 1, none⟩ (.string z.v)).setCell ⟨w31.heap.size, 2, none⟩ (.bool z.g)) = w33 at *
          have y33 := HK33.out.cell 1
          simp at y33
          have HB34 := Lib.hid HB33.out
          clear z0 z1 z2 z3 z4 z5 HB33 HK33 HK32 HB32
          go_wp2_with fail
          refine (HRO.out _ HB34.out).mono ?_
          rintro e w34 ⟨v34, rfl, hv34, hb34⟩
          have HB35 : Hid (Below w31.heap.size w31 w34) := HB34.out.trans (hb34.mono HB34.out.size)
          have x34 := HML.out _ HB35.out
          have HSM : Hid (Calls Tryz.prog 21 #[v34, vr] w34 fun e w' => e = .returned (.bool true) ∧ ∃ n, w' = w34.drewN n) := by
            refine (same_any w3.heap.size v34 vr _ _ w34 hv34 (HVR.out _ HB35.out)).mono ?_
            rintro e w' ⟨rfl, n, rfl⟩
            exact ⟨by simp, n, rfl⟩
          obtain ⟨A34, k34, rfl, _, _, _⟩ := hv34.form
          clear hv34 hb34 HB34 HRO x0 y1 x2 y2
          go_wp2_with fail
          refine HSM.out.mono ?_
          rintro e w36 ⟨rfl, n, rfl⟩
          have HNX : Hid (StS w3.heap.size (w34.drewN n) q p (k + 1) (weakN (l.take (k + 1))) c8 s F ∧ RS w3.heap.size (w34.drewN n) m s.rows ∧ Below w3.heap.size w3 (w34.drewN n)) := by
            rw [Hid, hwt]
            exact ⟨(HS31.out.below HB35.out).drawN n, (HR31.out.below HB35.out).drewN n, below_drewN' (HB31.out.trans (HB35.out.mono HB31.out.size)) n⟩
          clear HSM HS31 HR31 HB31 HB35 x34 HVR HML
          go_wp2_with fail
          go_roundw
          case rel => exact ⟨k + 1, q, c8, s, F, rfl, by go_num, by omega, HNX.out⟩
          case measure => simp [intOf] <;> omega
      have t4 := kind_ne k4
      by_cases k5 : kd.toList = kOpenL
      · have t5 := kind_eq k5
        unfold kWrite at t1
        unfold kFlush at t2
        unfold kCompact at t3
        unfold kWeaken at t4
        unfold kOpenL at t5
        have hwa : weakA ⟨kd, sx, xa, xb, .slice A' lx.length cp', lx⟩ = 0 := if_neg (by rw [show (⟨kd, sx, xa, xb, .slice A' lx.length cp', lx⟩ : Act).kind.toList = kOpenL from k5]; decide)
        rw [hwa, Nat.add_zero] at hwt
        clear k1 k2 k3 k4 k5 hwa
        have HW := Lib.hid (open_st HS20.out)
        go_wp2_with fail
        generalize hW20 : (wr.alloc (.cells #[.string kd, .string sx, .int .i64 xa, .int .i64 xb, .slice A' lx.length cp'] 41)) = w20 at *
        generalize hga : wr.heap.size = ga at *
        clear hW20 hga d0 d1 d2 d3 d4
        refine HW.out.mono ?_
        rintro e w8 ⟨q8, F8, rfl, hs8, hb8, _, _⟩
        have k8 := K20.out.below hb8 K20.out.lt
        have HS8 := Lib.hid (hs8.mono (Nat.le_succ k) (Nat.le_refl _))
        have HR8 := Lib.hid (HR20.out.below hb8)
        have HB8 := Lib.hid (HB20.out.trans (hb8.mono HB20.out.size))
        clear hs8 hb8 HW HS20 HR20 HB20 HE20 K20
        have HGT := Lib.hid (get_st HS8.out sx hsx)
        have y0 := k8.cell 1
        simp at y0
        go_wp2_with fail
        refine HGT.out.mono ?_
        rintro e w31 ⟨rfl, hs31, hb31⟩
        have HS31 := Lib.hid hs31
        have HR31 := Lib.hid (HR8.out.below hb31)
        have HB31 := Lib.hid (HB8.out.trans (hb31.mono HB8.out.size))
        have K31 := Lib.hid (k8.below hb31 k8.lt)
        obtain ⟨⟨vr, hmb, hvr⟩, hBm⟩ := HR8.out.below hb31
        have x0 := hmb.cell 0
        simp at x0
        have y1 := K31.out.cell 1
        simp at y1
        have hrg := fun W (hW : Below w31.heap.size w31 W) => rget_any w3.heap.size vr s.rows sx W (hvr.below hW)
        unfold Ent.val at hrg
        have HRG := Lib.hid hrg
        have HRO := Lib.hid (fun W (hW : Below w31.heap.size w31 W) => srows_any w3.heap.size q8 p _ s _ W (hs31.st.below hW) (hs31.ch.below hW) hs31.ok.inv)
        have HVR := Lib.hid (fun W (hW : Below w31.heap.size w31 W) => hvr.below hW)
        have HML := Lib.hid (fun W (hW : Below w31.heap.size w31 W) => (hW.cell (p := ⟨m, 0, none⟩) (cell_lt x0)).trans x0)
        have HMS := Lib.hid (fun W (hW : Below w31.heap.size w31 W) => And.intro ((hW.cell (p := ⟨m, 0, none⟩) (cell_lt x0)).trans x0) ((hW.cell (p := ⟨ga, 1, none⟩) (cell_lt y1)).trans y1))
        have h40 : s.rows.length ≤ 40 := hs31.ok.inv.body.rows
        clear hs31 hb31 HGT hmb hvr hrg HS8 HR8 HB8 y0
        generalize (getE s.rows sx).getD Ent.zero = z at *
        generalize (getE s.rows sx).isSome = zs at *
        go_wp2_with fail
        refine wp_region_held_drew (S := fun w' => w'.cell? ⟨m, 0, none⟩ = some vr ∧ w'.cell? ⟨ga, 1, none⟩ = some (.string sx)) (by kernel_rfl) ⟨x0, y1⟩ (fun hHeld => ?_)
        refine wpAnyH_take (i := 0) (oi := ⟨some 128, _, _, _, _, _⟩) (v := .pointer (some ⟨m, 0, none⟩)) rfl (by kernel_rfl) (by kernel_rfl) (by kernel_rfl) (fun _ _ _ h => h) (Or.inl ⟨by rfl, ?_⟩) (by assumption) ?_
        · intro wS hSw
          (try dsimp only at hSw)
          go_simp
        simp only [Act.put, List.setIfInBounds_toArray, List.set_cons_zero, List.set_cons_succ]
        refine wpAnyH_take (i := 1) (oi := ⟨some 129, _, _, _, _, _⟩) (v := .pointer (some ⟨m, 0, none⟩)) rfl (by kernel_rfl) (by kernel_rfl) (by kernel_rfl) (fun _ _ _ h => h) (Or.inl ⟨by rfl, ?_⟩) (by assumption) ?_
        · intro wS hSw
          (try dsimp only at hSw)
          go_simp
        simp only [Act.put, List.setIfInBounds_toArray, List.set_cons_zero, List.set_cons_succ]
        refine wpAnyH_take (i := 2) (oi := ⟨some 130, _, _, _, _, _⟩) (v := .pointer (some ⟨m, 0, none⟩)) rfl (by kernel_rfl) (by kernel_rfl) (by kernel_rfl) (fun _ _ _ h => h) (Or.inl ⟨by rfl, ?_⟩) (by assumption) ?_
        · intro wS hSw
          (try dsimp only at hSw)
          go_simp
        simp only [Act.put, List.setIfInBounds_toArray, List.set_cons_zero, List.set_cons_succ]
        refine wpAnyH_take (i := 3) (oi := ⟨some 131, _, _, _, _, _⟩) (v := vr) rfl (by kernel_rfl) (by kernel_rfl) (by kernel_rfl) (fun _ _ _ h => h) (Or.inl ⟨by rfl, ?_⟩) (by assumption) ?_
        · intro wS hSw
          (try dsimp only at hSw)
          go_simp
        simp only [Act.put, List.setIfInBounds_toArray, List.set_cons_zero, List.set_cons_succ]
        refine wpAnyH_take (i := 4) (oi := ⟨some 132, _, _, _, _, _⟩) (v := .pointer (some ⟨ga, 1, none⟩)) rfl (by kernel_rfl) (by kernel_rfl) (by kernel_rfl) (fun _ _ _ h => h) (Or.inl ⟨by rfl, ?_⟩) (by assumption) ?_
        · intro wS hSw
          (try dsimp only at hSw)
          go_simp
        simp only [Act.put, List.setIfInBounds_toArray, List.set_cons_zero, List.set_cons_succ]
        refine wpAnyH_take (i := 5) (oi := ⟨some 133, _, _, _, _, _⟩) (v := .string sx) rfl (by kernel_rfl) (by kernel_rfl) (by kernel_rfl) (fun _ _ _ h => h) (Or.inl ⟨by rfl, ?_⟩) (by assumption) ?_
        · intro wS hSw
          (try dsimp only at hSw)
          go_simp
        simp only [Act.put, List.setIfInBounds_toArray, List.set_cons_zero, List.set_cons_succ]
        refine wpAnyH_ready (rs := [6, 10]) (by kernel_rfl) (by simp) ?_
        refine AllReadyH.cons (o := ⟨some 134, _, _, _, _, _⟩) rfl (fun K hK => ?_) ?_
        · go_simp
          refine (HRG.out _ (Below.refl _ _).drew).mono ?_
          rintro e w32 ⟨rfl, hb32⟩
          have HB32 : Hid (Below w31.heap.size w31 w32) := (Below.refl _ _).drew.trans hb32
          obtain ⟨x2, y2⟩ := HMS.out _ HB32.out
          clear hb32
          refine hK.out _ _ ?_ (fun hHeld => ?_)
          · exact ⟨x2, y2⟩
          clear hK K
          try simp only [Act.put, List.setIfInBounds_toArray, List.set_cons_zero, List.set_cons_succ]
          refine wpAnyH_take (i := 7) (oi := ⟨some 127, _, _, _, _, _⟩) (v := .tuple #[.agg #[.string z.k, .string z.v, .bool z.g], .bool zs]) rfl (by kernel_rfl) (by kernel_rfl) (by kernel_rfl) (fun _ _ _ h => h) (Or.inl ⟨by rfl, ?_⟩) (by assumption) ?_
          · intro wS hSw
            (try dsimp only at hSw)
            go_simp
          simp only [Act.put, List.setIfInBounds_toArray, List.set_cons_zero, List.set_cons_succ]
          refine wpAnyH_take (i := 8) (oi := ⟨some 135, _, _, _, _, _⟩) (v := .agg #[.string z.k, .string z.v, .bool z.g]) rfl (by kernel_rfl) (by kernel_rfl) (by kernel_rfl) (fun _ _ _ h => h) (Or.inl ⟨by rfl, ?_⟩) (by assumption) ?_
          · intro wS hSw
            (try dsimp only at hSw)
            go_simp
          simp only [Act.put, List.setIfInBounds_toArray, List.set_cons_zero, List.set_cons_succ]
          refine wpAnyH_take (i := 9) (oi := ⟨some 136, _, _, _, _, _⟩) (v := .bool zs) rfl (by kernel_rfl) (by kernel_rfl) (by kernel_rfl) (fun _ _ _ h => h) (Or.inl ⟨by rfl, ?_⟩) (by assumption) ?_
          · intro wS hSw
            (try dsimp only at hSw)
            go_simp
          simp only [Act.put, List.setIfInBounds_toArray, List.set_cons_zero, List.set_cons_succ]
          refine wpAnyH_ready (rs := [10]) (by kernel_rfl) (by simp) ?_
          refine AllReadyH.cons (o := ⟨some 17, _, _, _, _, _⟩) rfl (fun K hK => ?_) AllReadyH.nil
          go_simp
          refine hK.out _ _ ?_ (fun hHeld => ?_)
          · exact HMS.out _ (HB32.out.alloc HB32.out.size _)
          clear hK K
          try simp only [Act.put, List.setIfInBounds_toArray, List.set_cons_zero, List.set_cons_succ]
          refine wpAnyH_ready (rs := [11]) (by kernel_rfl) (by simp) ?_
          refine AllReadyH.cons (o := ⟨none, _, _, _, _, _⟩) rfl (fun K hK => ?_) AllReadyH.nil
          go_simp
          refine hK.out _ _ ?_ (fun hHeld => ?_)
          · exact HMS.out _ (HB32.out.alloc HB32.out.size _)
          clear hK K
          try simp only [Act.put, List.setIfInBounds_toArray, List.set_cons_zero, List.set_cons_succ]
          refine wpAnyH_take (i := 12) (oi := ⟨some 18, _, _, _, _, _⟩) (v := .bool zs) rfl (by kernel_rfl) (by kernel_rfl) (by kernel_rfl) (fun _ _ _ h => h) (Or.inl ⟨by rfl, ?_⟩) (by assumption) ?_
          · intro wS hSw
            (try dsimp only at hSw)
            go_simp
          simp only [Act.put, List.setIfInBounds_toArray, List.set_cons_zero, List.set_cons_succ]
          refine wpAnyH_done (by kernel_rfl) ?_ _
          have HB34 : Hid (Below w31.heap.size w31 (w32.alloc (.cells #[.string z.k, .string z.v, .bool z.g] 49))) := HB32.out.alloc HB32.out.size _
          go_wp2_with fail
          refine (HRO.out _ HB34.out).mono ?_
          rintro e w34 ⟨v34, rfl, hv34, hb34⟩
          have HB35 : Hid (Below w31.heap.size w31 w34) := HB34.out.trans (hb34.mono HB34.out.size)
          have x34 := HML.out _ HB35.out
          have HSM : Hid (Calls Tryz.prog 21 #[v34, vr] w34 fun e w' => e = .returned (.bool true) ∧ ∃ n, w' = w34.drewN n) := by
            refine (same_any w3.heap.size v34 vr _ _ w34 hv34 (HVR.out _ HB35.out)).mono ?_
            rintro e w' ⟨rfl, n, rfl⟩
            exact ⟨by simp, n, rfl⟩
          obtain ⟨A34, k34, rfl, _, _, _⟩ := hv34.form
          clear hv34 hb34 HB34 HRO x0 y1 x2 y2
          go_wp2_with fail
          refine HSM.out.mono ?_
          rintro e w36 ⟨rfl, n, rfl⟩
          have HNX : Hid (StS w3.heap.size (w34.drewN n) q8 p (k + 1) (weakN (l.take (k + 1))) c s F8 ∧ RS w3.heap.size (w34.drewN n) m s.rows ∧ Below w3.heap.size w3 (w34.drewN n)) := by
            rw [Hid, hwt]
            exact ⟨(HS31.out.below HB35.out).drawN n, (HR31.out.below HB35.out).drewN n, below_drewN' (HB31.out.trans (HB35.out.mono HB31.out.size)) n⟩
          clear HSM HS31 HR31 HB31 HB35 x34 HVR HML
          go_wp2_with fail
          go_roundw
          case rel => exact ⟨k + 1, q8, c, s, F8, rfl, by go_num, by omega, HNX.out⟩
          case measure => simp [intOf] <;> omega
        · refine AllReadyH.cons (o := ⟨some 17, _, _, _, _, _⟩) rfl (fun K hK => ?_) AllReadyH.nil
          go_simp
          have HBA : Hid (Below w31.heap.size w31 (w31.drew.alloc (.cells #[.string ByteArray.empty, .string ByteArray.empty, .bool false] 49))) := (Below.refl _ _).drew.alloc (Nat.le_refl _) _
          have HKA : Hid (Blk (w31.drew.alloc (.cells #[.string ByteArray.empty, .string ByteArray.empty, .bool false] 49)) w31.heap.size 49 #[.string ByteArray.empty, .string ByteArray.empty, .bool false]) := Blk.new w31.drew _ _
          refine hK.out _ _ ?_ (fun hHeld => ?_)
          · exact HMS.out _ HBA.out
          clear hK K
          try simp only [Act.put, List.setIfInBounds_toArray, List.set_cons_zero, List.set_cons_succ]
          refine wpAnyH_ready (rs := [6]) (by kernel_rfl) (by simp) ?_
          refine AllReadyH.cons (o := ⟨some 134, _, _, _, _, _⟩) rfl (fun K hK => ?_) AllReadyH.nil
          go_simp
          refine (HRG.out _ HBA.out).mono ?_
          rintro e w32 ⟨rfl, hb32⟩
          have HB32 : Hid (Below w31.heap.size w31 w32) := HBA.out.trans (hb32.mono HBA.out.size)
          have HK32 := Lib.hid (HKA.out.below hb32 HKA.out.lt)
          obtain ⟨x2, y2⟩ := HMS.out _ HB32.out
          clear hb32 HBA HKA
          refine hK.out _ _ ?_ (fun hHeld => ?_)
          · exact ⟨x2, y2⟩
          clear hK K
          try simp only [Act.put, List.setIfInBounds_toArray, List.set_cons_zero, List.set_cons_succ]
          refine wpAnyH_take (i := 7) (oi := ⟨some 127, _, _, _, _, _⟩) (v := .tuple #[.agg #[.string z.k, .string z.v, .bool z.g], .bool zs]) rfl (by kernel_rfl) (by kernel_rfl) (by kernel_rfl) (fun _ _ _ h => h) (Or.inl ⟨by rfl, ?_⟩) (by assumption) ?_
          · intro wS hSw
            (try dsimp only at hSw)
            go_simp
          simp only [Act.put, List.setIfInBounds_toArray, List.set_cons_zero, List.set_cons_succ]
          refine wpAnyH_take (i := 8) (oi := ⟨some 135, _, _, _, _, _⟩) (v := .agg #[.string z.k, .string z.v, .bool z.g]) rfl (by kernel_rfl) (by kernel_rfl) (by kernel_rfl) (fun _ _ _ h => h) (Or.inl ⟨by rfl, ?_⟩) (by assumption) ?_
          · intro wS hSw
            (try dsimp only at hSw)
            go_simp
          simp only [Act.put, List.setIfInBounds_toArray, List.set_cons_zero, List.set_cons_succ]
          refine wpAnyH_take (i := 9) (oi := ⟨some 136, _, _, _, _, _⟩) (v := .bool zs) rfl (by kernel_rfl) (by kernel_rfl) (by kernel_rfl) (fun _ _ _ h => h) (Or.inl ⟨by rfl, ?_⟩) (by assumption) ?_
          · intro wS hSw
            (try dsimp only at hSw)
            go_simp
          simp only [Act.put, List.setIfInBounds_toArray, List.set_cons_zero, List.set_cons_succ]
          have z0 := HK32.out.cell 0
          have z1 := HK32.out.cell 1
          have z2 := HK32.out.cell 2
          have z3 := HK32.out.frozen 0
          have z4 := HK32.out.frozen 1
          have z5 := HK32.out.frozen 2
          simp at z0 z1 z2
          have HB33 : Hid (Below w31.heap.size w31 (((w32.setCell ⟨w31.heap.size, 0, none⟩ (.string z.k)).setCell ⟨w31.heap.size, 1, none⟩ (.string z.v)).setCell ⟨w31.heap.size, 2, none⟩ (.bool z.g))) := ((HB32.out.setCell (p := ⟨w31.heap.size, 0, none⟩) (Nat.le_refl _) _).setCell (p := ⟨w31.heap.size, 1, none⟩) (Nat.le_refl _) _).setCell (p := ⟨w31.heap.size, 2, none⟩) (Nat.le_refl _) _
          have HK33 : Hid (Blk (((w32.setCell ⟨w31.heap.size, 0, none⟩ (.string z.k)).setCell ⟨w31.heap.size, 1, none⟩ (.string z.v)).setCell ⟨w31.heap.size, 2, none⟩ (.bool z.g)) w31.heap.size 49 #[.string z.k, .string z.v, .bool z.g]) := by have := ((HK32.out.set_ 0 (.string z.k)).set_ 1 (.string z.v)).set_ 2 (.bool z.g); exact Lib.hid (by simpa using this)
          refine wpAnyH_ready (rs := [11]) (by kernel_rfl) (by simp) ?_
          refine AllReadyH.cons (o := ⟨none, _, _, _, _, _⟩) rfl (fun K hK => ?_) AllReadyH.nil
          go_simp
          refine hK.out _ _ ?_ (fun hHeld => ?_)
          · exact HMS.out _ HB33.out
          clear hK K
          try simp only [Act.put, List.setIfInBounds_toArray, List.set_cons_zero, List.set_cons_succ]
          refine wpAnyH_take (i := 12) (oi := ⟨some 18, _, _, _, _, _⟩) (v := .bool zs) rfl (by kernel_rfl) (by kernel_rfl) (by kernel_rfl) (fun _ _ _ h => h) (Or.inl ⟨by rfl, ?_⟩) (by assumption) ?_
          · intro wS hSw
            (try dsimp only at hSw)
            go_simp
          simp only [Act.put, List.setIfInBounds_toArray, List.set_cons_zero, List.set_cons_succ]
          refine wpAnyH_done (by kernel_rfl) ?_ _
          generalize (((w32.setCell ⟨w31.heap.size, 0, none⟩ (.string z.k)).setCell ⟨w31.heap.size, 1, none⟩ (.string z.v)).setCell ⟨w31.heap.size, 2, none⟩ (.bool z.g)) = w33 at *
          have y33 := HK33.out.cell 1
          simp at y33
          have HB34 := Lib.hid HB33.out
          clear z0 z1 z2 z3 z4 z5 HB33 HK33 HK32 HB32
          go_wp2_with fail
          refine (HRO.out _ HB34.out).mono ?_
          rintro e w34 ⟨v34, rfl, hv34, hb34⟩
          have HB35 : Hid (Below w31.heap.size w31 w34) := HB34.out.trans (hb34.mono HB34.out.size)
          have x34 := HML.out _ HB35.out
          have HSM : Hid (Calls Tryz.prog 21 #[v34, vr] w34 fun e w' => e = .returned (.bool true) ∧ ∃ n, w' = w34.drewN n) := by
            refine (same_any w3.heap.size v34 vr _ _ w34 hv34 (HVR.out _ HB35.out)).mono ?_
            rintro e w' ⟨rfl, n, rfl⟩
            exact ⟨by simp, n, rfl⟩
          obtain ⟨A34, k34, rfl, _, _, _⟩ := hv34.form
          clear hv34 hb34 HB34 HRO x0 y1 x2 y2
          go_wp2_with fail
          refine HSM.out.mono ?_
          rintro e w36 ⟨rfl, n, rfl⟩
          have HNX : Hid (StS w3.heap.size (w34.drewN n) q8 p (k + 1) (weakN (l.take (k + 1))) c s F8 ∧ RS w3.heap.size (w34.drewN n) m s.rows ∧ Below w3.heap.size w3 (w34.drewN n)) := by
            rw [Hid, hwt]
            exact ⟨(HS31.out.below HB35.out).drawN n, (HR31.out.below HB35.out).drewN n, below_drewN' (HB31.out.trans (HB35.out.mono HB31.out.size)) n⟩
          clear HSM HS31 HR31 HB31 HB35 x34 HVR HML
          go_wp2_with fail
          go_roundw
          case rel => exact ⟨k + 1, q8, c, s, F8, rfl, by go_num, by omega, HNX.out⟩
          case measure => simp [intOf] <;> omega
      have t5 := kind_ne k5
      have hwa : weakA ⟨kd, sx, xa, xb, .slice A' lx.length cp', lx⟩ = 0 := if_neg k4
      rw [hwa, Nat.add_zero] at hwt
      unfold kWrite at t1
      unfold kFlush at t2
      unfold kCompact at t3
      unfold kWeaken at t4
      unfold kOpenL at t5
      clear k1 k2 k3 k4 k5 hwa
      go_wp2_with fail
      generalize hW20 : (wr.alloc (.cells #[.string kd, .string sx, .int .i64 xa, .int .i64 xb, .slice A' lx.length cp'] 41)) = w20 at *
      generalize hga : wr.heap.size = ga at *
      clear hW20 hga d0 d1 d2 d3 d4
      have HS8 := Lib.hid (HS20.out.mono (Nat.le_succ k) (Nat.le_refl _))
      have k8 := K20.out
      have HR8 := Lib.hid HR20.out
      have HB8 := Lib.hid HB20.out
      clear HS20 HR20 HB20 HE20 K20
      have HGT := Lib.hid (get_st HS8.out sx hsx)
      have y0 := k8.cell 1
      simp at y0
      refine HGT.out.mono ?_
      rintro e w31 ⟨rfl, hs31, hb31⟩
      have HS31 := Lib.hid hs31
      have HR31 := Lib.hid (HR8.out.below hb31)
      have HB31 := Lib.hid (HB8.out.trans (hb31.mono HB8.out.size))
      have K31 := Lib.hid (k8.below hb31 k8.lt)
      obtain ⟨⟨vr, hmb, hvr⟩, hBm⟩ := HR8.out.below hb31
      have x0 := hmb.cell 0
      simp at x0
      have y1 := K31.out.cell 1
      simp at y1
      have hrg := fun W (hW : Below w31.heap.size w31 W) => rget_any w3.heap.size vr s.rows sx W (hvr.below hW)
      unfold Ent.val at hrg
      have HRG := Lib.hid hrg
      have HRO := Lib.hid (fun W (hW : Below w31.heap.size w31 W) => srows_any w3.heap.size q p _ s _ W (hs31.st.below hW) (hs31.ch.below hW) hs31.ok.inv)
      have HVR := Lib.hid (fun W (hW : Below w31.heap.size w31 W) => hvr.below hW)
      have HML := Lib.hid (fun W (hW : Below w31.heap.size w31 W) => (hW.cell (p := ⟨m, 0, none⟩) (cell_lt x0)).trans x0)
      have HMS := Lib.hid (fun W (hW : Below w31.heap.size w31 W) => And.intro ((hW.cell (p := ⟨m, 0, none⟩) (cell_lt x0)).trans x0) ((hW.cell (p := ⟨ga, 1, none⟩) (cell_lt y1)).trans y1))
      have h40 : s.rows.length ≤ 40 := hs31.ok.inv.body.rows
      clear hs31 hb31 HGT hmb hvr hrg HS8 HR8 HB8 y0
      generalize (getE s.rows sx).getD Ent.zero = z at *
      generalize (getE s.rows sx).isSome = zs at *
      go_wp2_with fail
      refine wp_region_held_drew (S := fun w' => w'.cell? ⟨m, 0, none⟩ = some vr ∧ w'.cell? ⟨ga, 1, none⟩ = some (.string sx)) (by kernel_rfl) ⟨x0, y1⟩ (fun hHeld => ?_)
      refine wpAnyH_take (i := 0) (oi := ⟨some 128, _, _, _, _, _⟩) (v := .pointer (some ⟨m, 0, none⟩)) rfl (by kernel_rfl) (by kernel_rfl) (by kernel_rfl) (fun _ _ _ h => h) (Or.inl ⟨by rfl, ?_⟩) (by assumption) ?_
      · intro wS hSw
        (try dsimp only at hSw)
        go_simp
      simp only [Act.put, List.setIfInBounds_toArray, List.set_cons_zero, List.set_cons_succ]
      refine wpAnyH_take (i := 1) (oi := ⟨some 129, _, _, _, _, _⟩) (v := .pointer (some ⟨m, 0, none⟩)) rfl (by kernel_rfl) (by kernel_rfl) (by kernel_rfl) (fun _ _ _ h => h) (Or.inl ⟨by rfl, ?_⟩) (by assumption) ?_
      · intro wS hSw
        (try dsimp only at hSw)
        go_simp
      simp only [Act.put, List.setIfInBounds_toArray, List.set_cons_zero, List.set_cons_succ]
      refine wpAnyH_take (i := 2) (oi := ⟨some 130, _, _, _, _, _⟩) (v := .pointer (some ⟨m, 0, none⟩)) rfl (by kernel_rfl) (by kernel_rfl) (by kernel_rfl) (fun _ _ _ h => h) (Or.inl ⟨by rfl, ?_⟩) (by assumption) ?_
      · intro wS hSw
        (try dsimp only at hSw)
        go_simp
      simp only [Act.put, List.setIfInBounds_toArray, List.set_cons_zero, List.set_cons_succ]
      refine wpAnyH_take (i := 3) (oi := ⟨some 131, _, _, _, _, _⟩) (v := vr) rfl (by kernel_rfl) (by kernel_rfl) (by kernel_rfl) (fun _ _ _ h => h) (Or.inl ⟨by rfl, ?_⟩) (by assumption) ?_
      · intro wS hSw
        (try dsimp only at hSw)
        go_simp
      simp only [Act.put, List.setIfInBounds_toArray, List.set_cons_zero, List.set_cons_succ]
      refine wpAnyH_take (i := 4) (oi := ⟨some 132, _, _, _, _, _⟩) (v := .pointer (some ⟨ga, 1, none⟩)) rfl (by kernel_rfl) (by kernel_rfl) (by kernel_rfl) (fun _ _ _ h => h) (Or.inl ⟨by rfl, ?_⟩) (by assumption) ?_
      · intro wS hSw
        (try dsimp only at hSw)
        go_simp
      simp only [Act.put, List.setIfInBounds_toArray, List.set_cons_zero, List.set_cons_succ]
      refine wpAnyH_take (i := 5) (oi := ⟨some 133, _, _, _, _, _⟩) (v := .string sx) rfl (by kernel_rfl) (by kernel_rfl) (by kernel_rfl) (fun _ _ _ h => h) (Or.inl ⟨by rfl, ?_⟩) (by assumption) ?_
      · intro wS hSw
        (try dsimp only at hSw)
        go_simp
      simp only [Act.put, List.setIfInBounds_toArray, List.set_cons_zero, List.set_cons_succ]
      refine wpAnyH_ready (rs := [6, 10]) (by kernel_rfl) (by simp) ?_
      refine AllReadyH.cons (o := ⟨some 134, _, _, _, _, _⟩) rfl (fun K hK => ?_) ?_
      · go_simp
        refine (HRG.out _ (Below.refl _ _).drew).mono ?_
        rintro e w32 ⟨rfl, hb32⟩
        have HB32 : Hid (Below w31.heap.size w31 w32) := (Below.refl _ _).drew.trans hb32
        obtain ⟨x2, y2⟩ := HMS.out _ HB32.out
        clear hb32
        refine hK.out _ _ ?_ (fun hHeld => ?_)
        · exact ⟨x2, y2⟩
        clear hK K
        try simp only [Act.put, List.setIfInBounds_toArray, List.set_cons_zero, List.set_cons_succ]
        refine wpAnyH_take (i := 7) (oi := ⟨some 127, _, _, _, _, _⟩) (v := .tuple #[.agg #[.string z.k, .string z.v, .bool z.g], .bool zs]) rfl (by kernel_rfl) (by kernel_rfl) (by kernel_rfl) (fun _ _ _ h => h) (Or.inl ⟨by rfl, ?_⟩) (by assumption) ?_
        · intro wS hSw
          (try dsimp only at hSw)
          go_simp
        simp only [Act.put, List.setIfInBounds_toArray, List.set_cons_zero, List.set_cons_succ]
        refine wpAnyH_take (i := 8) (oi := ⟨some 135, _, _, _, _, _⟩) (v := .agg #[.string z.k, .string z.v, .bool z.g]) rfl (by kernel_rfl) (by kernel_rfl) (by kernel_rfl) (fun _ _ _ h => h) (Or.inl ⟨by rfl, ?_⟩) (by assumption) ?_
        · intro wS hSw
          (try dsimp only at hSw)
          go_simp
        simp only [Act.put, List.setIfInBounds_toArray, List.set_cons_zero, List.set_cons_succ]
        refine wpAnyH_take (i := 9) (oi := ⟨some 136, _, _, _, _, _⟩) (v := .bool zs) rfl (by kernel_rfl) (by kernel_rfl) (by kernel_rfl) (fun _ _ _ h => h) (Or.inl ⟨by rfl, ?_⟩) (by assumption) ?_
        · intro wS hSw
          (try dsimp only at hSw)
          go_simp
        simp only [Act.put, List.setIfInBounds_toArray, List.set_cons_zero, List.set_cons_succ]
        refine wpAnyH_ready (rs := [10]) (by kernel_rfl) (by simp) ?_
        refine AllReadyH.cons (o := ⟨some 17, _, _, _, _, _⟩) rfl (fun K hK => ?_) AllReadyH.nil
        go_simp
        refine hK.out _ _ ?_ (fun hHeld => ?_)
        · exact HMS.out _ (HB32.out.alloc HB32.out.size _)
        clear hK K
        try simp only [Act.put, List.setIfInBounds_toArray, List.set_cons_zero, List.set_cons_succ]
        refine wpAnyH_ready (rs := [11]) (by kernel_rfl) (by simp) ?_
        refine AllReadyH.cons (o := ⟨none, _, _, _, _, _⟩) rfl (fun K hK => ?_) AllReadyH.nil
        go_simp
        refine hK.out _ _ ?_ (fun hHeld => ?_)
        · exact HMS.out _ (HB32.out.alloc HB32.out.size _)
        clear hK K
        try simp only [Act.put, List.setIfInBounds_toArray, List.set_cons_zero, List.set_cons_succ]
        refine wpAnyH_take (i := 12) (oi := ⟨some 18, _, _, _, _, _⟩) (v := .bool zs) rfl (by kernel_rfl) (by kernel_rfl) (by kernel_rfl) (fun _ _ _ h => h) (Or.inl ⟨by rfl, ?_⟩) (by assumption) ?_
        · intro wS hSw
          (try dsimp only at hSw)
          go_simp
        simp only [Act.put, List.setIfInBounds_toArray, List.set_cons_zero, List.set_cons_succ]
        refine wpAnyH_done (by kernel_rfl) ?_ _
        have HB34 : Hid (Below w31.heap.size w31 (w32.alloc (.cells #[.string z.k, .string z.v, .bool z.g] 49))) := HB32.out.alloc HB32.out.size _
        go_wp2_with fail
        refine (HRO.out _ HB34.out).mono ?_
        rintro e w34 ⟨v34, rfl, hv34, hb34⟩
        have HB35 : Hid (Below w31.heap.size w31 w34) := HB34.out.trans (hb34.mono HB34.out.size)
        have x34 := HML.out _ HB35.out
        have HSM : Hid (Calls Tryz.prog 21 #[v34, vr] w34 fun e w' => e = .returned (.bool true) ∧ ∃ n, w' = w34.drewN n) := by
          refine (same_any w3.heap.size v34 vr _ _ w34 hv34 (HVR.out _ HB35.out)).mono ?_
          rintro e w' ⟨rfl, n, rfl⟩
          exact ⟨by simp, n, rfl⟩
        obtain ⟨A34, k34, rfl, _, _, _⟩ := hv34.form
        clear hv34 hb34 HB34 HRO x0 y1 x2 y2
        go_wp2_with fail
        refine HSM.out.mono ?_
        rintro e w36 ⟨rfl, n, rfl⟩
        have HNX : Hid (StS w3.heap.size (w34.drewN n) q p (k + 1) (weakN (l.take (k + 1))) c s F ∧ RS w3.heap.size (w34.drewN n) m s.rows ∧ Below w3.heap.size w3 (w34.drewN n)) := by
          rw [Hid, hwt]
          exact ⟨(HS31.out.below HB35.out).drawN n, (HR31.out.below HB35.out).drewN n, below_drewN' (HB31.out.trans (HB35.out.mono HB31.out.size)) n⟩
        clear HSM HS31 HR31 HB31 HB35 x34 HVR HML
        go_wp2_with fail
        go_roundw
        case rel => exact ⟨k + 1, q, c, s, F, rfl, by go_num, by omega, HNX.out⟩
        case measure => simp [intOf] <;> omega
      · refine AllReadyH.cons (o := ⟨some 17, _, _, _, _, _⟩) rfl (fun K hK => ?_) AllReadyH.nil
        go_simp
        have HBA : Hid (Below w31.heap.size w31 (w31.drew.alloc (.cells #[.string ByteArray.empty, .string ByteArray.empty, .bool false] 49))) := (Below.refl _ _).drew.alloc (Nat.le_refl _) _
        have HKA : Hid (Blk (w31.drew.alloc (.cells #[.string ByteArray.empty, .string ByteArray.empty, .bool false] 49)) w31.heap.size 49 #[.string ByteArray.empty, .string ByteArray.empty, .bool false]) := Blk.new w31.drew _ _
        refine hK.out _ _ ?_ (fun hHeld => ?_)
        · exact HMS.out _ HBA.out
        clear hK K
        try simp only [Act.put, List.setIfInBounds_toArray, List.set_cons_zero, List.set_cons_succ]
        refine wpAnyH_ready (rs := [6]) (by kernel_rfl) (by simp) ?_
        refine AllReadyH.cons (o := ⟨some 134, _, _, _, _, _⟩) rfl (fun K hK => ?_) AllReadyH.nil
        go_simp
        refine (HRG.out _ HBA.out).mono ?_
        rintro e w32 ⟨rfl, hb32⟩
        have HB32 : Hid (Below w31.heap.size w31 w32) := HBA.out.trans (hb32.mono HBA.out.size)
        have HK32 := Lib.hid (HKA.out.below hb32 HKA.out.lt)
        obtain ⟨x2, y2⟩ := HMS.out _ HB32.out
        clear hb32 HBA HKA
        refine hK.out _ _ ?_ (fun hHeld => ?_)
        · exact ⟨x2, y2⟩
        clear hK K
        try simp only [Act.put, List.setIfInBounds_toArray, List.set_cons_zero, List.set_cons_succ]
        refine wpAnyH_take (i := 7) (oi := ⟨some 127, _, _, _, _, _⟩) (v := .tuple #[.agg #[.string z.k, .string z.v, .bool z.g], .bool zs]) rfl (by kernel_rfl) (by kernel_rfl) (by kernel_rfl) (fun _ _ _ h => h) (Or.inl ⟨by rfl, ?_⟩) (by assumption) ?_
        · intro wS hSw
          (try dsimp only at hSw)
          go_simp
        simp only [Act.put, List.setIfInBounds_toArray, List.set_cons_zero, List.set_cons_succ]
        refine wpAnyH_take (i := 8) (oi := ⟨some 135, _, _, _, _, _⟩) (v := .agg #[.string z.k, .string z.v, .bool z.g]) rfl (by kernel_rfl) (by kernel_rfl) (by kernel_rfl) (fun _ _ _ h => h) (Or.inl ⟨by rfl, ?_⟩) (by assumption) ?_
        · intro wS hSw
          (try dsimp only at hSw)
          go_simp
        simp only [Act.put, List.setIfInBounds_toArray, List.set_cons_zero, List.set_cons_succ]
        refine wpAnyH_take (i := 9) (oi := ⟨some 136, _, _, _, _, _⟩) (v := .bool zs) rfl (by kernel_rfl) (by kernel_rfl) (by kernel_rfl) (fun _ _ _ h => h) (Or.inl ⟨by rfl, ?_⟩) (by assumption) ?_
        · intro wS hSw
          (try dsimp only at hSw)
          go_simp
        simp only [Act.put, List.setIfInBounds_toArray, List.set_cons_zero, List.set_cons_succ]
        have z0 := HK32.out.cell 0
        have z1 := HK32.out.cell 1
        have z2 := HK32.out.cell 2
        have z3 := HK32.out.frozen 0
        have z4 := HK32.out.frozen 1
        have z5 := HK32.out.frozen 2
        simp at z0 z1 z2
        have HB33 : Hid (Below w31.heap.size w31 (((w32.setCell ⟨w31.heap.size, 0, none⟩ (.string z.k)).setCell ⟨w31.heap.size, 1, none⟩ (.string z.v)).setCell ⟨w31.heap.size, 2, none⟩ (.bool z.g))) := ((HB32.out.setCell (p := ⟨w31.heap.size, 0, none⟩) (Nat.le_refl _) _).setCell (p := ⟨w31.heap.size, 1, none⟩) (Nat.le_refl _) _).setCell (p := ⟨w31.heap.size, 2, none⟩) (Nat.le_refl _) _
        have HK33 : Hid (Blk (((w32.setCell ⟨w31.heap.size, 0, none⟩ (.string z.k)).setCell ⟨w31.heap.size, 1, none⟩ (.string z.v)).setCell ⟨w31.heap.size, 2, none⟩ (.bool z.g)) w31.heap.size 49 #[.string z.k, .string z.v, .bool z.g]) := by have := ((HK32.out.set_ 0 (.string z.k)).set_ 1 (.string z.v)).set_ 2 (.bool z.g); exact Lib.hid (by simpa using this)
        refine wpAnyH_ready (rs := [11]) (by kernel_rfl) (by simp) ?_
        refine AllReadyH.cons (o := ⟨none, _, _, _, _, _⟩) rfl (fun K hK => ?_) AllReadyH.nil
        go_simp
        refine hK.out _ _ ?_ (fun hHeld => ?_)
        · exact HMS.out _ HB33.out
        clear hK K
        try simp only [Act.put, List.setIfInBounds_toArray, List.set_cons_zero, List.set_cons_succ]
        refine wpAnyH_take (i := 12) (oi := ⟨some 18, _, _, _, _, _⟩) (v := .bool zs) rfl (by kernel_rfl) (by kernel_rfl) (by kernel_rfl) (fun _ _ _ h => h) (Or.inl ⟨by rfl, ?_⟩) (by assumption) ?_
        · intro wS hSw
          (try dsimp only at hSw)
          go_simp
        simp only [Act.put, List.setIfInBounds_toArray, List.set_cons_zero, List.set_cons_succ]
        refine wpAnyH_done (by kernel_rfl) ?_ _
        generalize (((w32.setCell ⟨w31.heap.size, 0, none⟩ (.string z.k)).setCell ⟨w31.heap.size, 1, none⟩ (.string z.v)).setCell ⟨w31.heap.size, 2, none⟩ (.bool z.g)) = w33 at *
        have y33 := HK33.out.cell 1
        simp at y33
        have HB34 := Lib.hid HB33.out
        clear z0 z1 z2 z3 z4 z5 HB33 HK33 HK32 HB32
        go_wp2_with fail
        refine (HRO.out _ HB34.out).mono ?_
        rintro e w34 ⟨v34, rfl, hv34, hb34⟩
        have HB35 : Hid (Below w31.heap.size w31 w34) := HB34.out.trans (hb34.mono HB34.out.size)
        have x34 := HML.out _ HB35.out
        have HSM : Hid (Calls Tryz.prog 21 #[v34, vr] w34 fun e w' => e = .returned (.bool true) ∧ ∃ n, w' = w34.drewN n) := by
          refine (same_any w3.heap.size v34 vr _ _ w34 hv34 (HVR.out _ HB35.out)).mono ?_
          rintro e w' ⟨rfl, n, rfl⟩
          exact ⟨by simp, n, rfl⟩
        obtain ⟨A34, k34, rfl, _, _, _⟩ := hv34.form
        clear hv34 hb34 HB34 HRO x0 y1 x2 y2
        go_wp2_with fail
        refine HSM.out.mono ?_
        rintro e w36 ⟨rfl, n, rfl⟩
        have HNX : Hid (StS w3.heap.size (w34.drewN n) q p (k + 1) (weakN (l.take (k + 1))) c s F ∧ RS w3.heap.size (w34.drewN n) m s.rows ∧ Below w3.heap.size w3 (w34.drewN n)) := by
          rw [Hid, hwt]
          exact ⟨(HS31.out.below HB35.out).drawN n, (HR31.out.below HB35.out).drewN n, below_drewN' (HB31.out.trans (HB35.out.mono HB31.out.size)) n⟩
        clear HSM HS31 HR31 HB31 HB35 x34 HVR HML
        go_wp2_with fail
        go_roundw
        case rel => exact ⟨k + 1, q, c, s, F, rfl, by go_num, by omega, HNX.out⟩
        case measure => simp [intOf] <;> omega
    · obtain rfl : k = l.length := by omega
      have g2 : decide ((l.length : Int) < (l.length : Int)) = false := by simp
      have HBF := Lib.hid (HB3.out.trans (hbl.out.mono HB3.out.size))
      clear hst hrs hbl
      go_wp2_with fail
      go_ret
      exact ⟨rfl, HBF.out⟩

-- CLOSING

set_option maxRecDepth 100000 in
theorem storeSays_holds : Rows.StoreSaysSaid :=
  OpenClaim.holds_of_wide 3 Tryz.f3 rfl rfl rfl rfl rfl rfl rfl ⟨rfl, rfl, rfl, rfl, rfl⟩ rfl rfl rfl rfl rfl (by kernel_rfl) Tryz.func3 (by kernel_rfl)
    (of_decide_eq_true (by kernel_rfl)) (by unfold Func.isWrapper; first | (rw [if_pos (by decide +kernel)]; kernel_rfl) | (rw [if_neg (by decide +kernel)]; exact ⟨rfl, rfl⟩))
    (fun os started H enc _ => close_lifted Rows.storeSaysSpec 3 Tryz.f3 os started H enc (by kernel_rfl) Tryz.func3 (by kernel_rfl) rfl
      (fun ds hd => by
        rw [Tryz.params3] at hd
        match ds, hd with
        | [d1], _ => rfl)
      (by kernel_rfl)
      (ChangeSpec.witness6 (enc := enc) (C := Tryz.checked) false ⟨#[], #[.slice none 0 0], []⟩ 8 (by kernel_rfl) (by kernel_rfl) (by kernel_rfl) (by kernel_rfl))
      (fun W base args ds p hval hA => by
        rw [Tryz.params3] at hA hval
        obtain ⟨v0, d0, hargs, rfl, h0⟩ := trodAll_one hA
        obtain rfl : args = #[v0] := by cases args; simp_all
        obtain ⟨l0, hl0⟩ := acts_of (hval 0 _ v0 rfl rfl) h0
        exact storeSays_walk v0 l0 W hl0))
#print axioms storeSays_holds
end Go.Proofs.YtaepdbkfaoiimabGreat
