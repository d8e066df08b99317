/- TopFalls returns true at every input, and leaves it as it was. Conditions: none. -/
import Derived.Test.YtaepdbkfaoiimacGreatFall
import Derived.Test.YtaepdbkfaoiimacGreatRefSto
import Derived.Test.YtaepdbkfaoiimacGreatStoU
set_option linter.unusedVariables false
set_option linter.unusedSimpArgs false
namespace Go.Proofs.YtaepdbkfaoiimacGreat
open Go.ChangeShapes Go.WideShapes Go.ChangeAt Go.RowKit Go.WideMaps Go.WideElems
open Go.ChangeMaps (open_string shut_string)
attribute [local go_sem ↓] eql_err eql_nilerr neq_err neq_nilerr guard_err guard_nilerr guardn_err guardn_nilerr
abbrev eZZ : Ent := ⟨⟨#[122, 122]⟩, ⟨#[122]⟩, false⟩
theorem zz_bytes : bytesF [eZZ] = 0 := by decide +kernel
theorem zz_check (s : SM) (h40 : s.rows.length ≤ 40) : checkM s [eZZ] = 0 ∨ (checkM s [eZZ] = 8 ∧ s.rows.length = 40) := by
  rw [checkM_eq]
  unfold checkR
  rw [if_neg (by simp), if_neg (by rw [zz_bytes]; simp)]
  by_cases h : 40 < (liveE ([eZZ].foldl putE s.rows)).length
  · rw [if_pos h]
    refine .inr ⟨rfl, ?_⟩
    have h1 := foldl_put_len [eZZ] s.rows
    have h2 : (liveE ([eZZ].foldl putE s.rows)).length ≤ ([eZZ].foldl putE s.rows).length := List.length_filter_le _ _
    simp only [List.length_singleton] at h1
    omega
  · rw [if_neg h]; exact .inl rfl
theorem zz_ents (B : Nat) (w : World) : Ents B (w.alloc (.cells #[.string ⟨#[122, 122]⟩, .string ⟨#[122]⟩, .bool false] 49)) (.slice (some ⟨w.heap.size, 0, none⟩) 1 1) [eZZ] :=
  ⟨rd_lit3 _ w _ rfl ⟨#[122, 122]⟩ ⟨#[122]⟩ false, by intro e he; simp at he; subst he; exact ⟨by decide, by decide⟩⟩
theorem weak_take {l : List Act} {n : Nat} {x : Act} (h : l.take (n + 1) = l.take n ++ [x]) : weakN (l.take (n + 1)) = weakN (l.take n) + weakA x := by
  rw [h]; simp [weakN]
theorem weak_le {l : List Act} (n : Nat) : weakN (l.take n) ≤ weakN l := by
  conv => rhs; rw [← List.take_append_drop n l]
  unfold weakN; rw [List.map_append, List.sum_append]; omega
/-- A store that has been opened behind so many acts. -/
structure FaS (B : Nat) (W : World) (q p k : Nat) (j : Nat) (c : Chip) (s : SM) (F : List Nat) : Prop where
  st : StoreR B W q p s F
  ch : ChipR B W p c
  inv : Inv c s
  calm : c.fuse < 0
  ep : s.m.ep ≤ 1 + 9 * (k : Int)
  weak : weaks c ≤ j
theorem RS.apartI {B q p m : Nat} {w : World} {c : Chip} {s : SM} {F : List Nat} {r : List Ent} (h : RS B w m r) (hs : StoreR B w q p s F) (hc : ChipR B w p c) : ∀ b ∈ q :: p :: F, b ≠ m := by
  obtain ⟨⟨v, hb, _⟩, _⟩ := h
  intro b hm e
  subst e
  rcases List.mem_cons.1 hm with rfl | hm
  · obtain ⟨A1, c1, A2, c2, t, n, h1, _⟩ := hs
    exact blk_ne hb h1 (by decide)
  rcases List.mem_cons.1 hm with rfl | hm
  · obtain ⟨V, u, hv, _⟩ := hc
    exact blk_ne hb hv.blk (by decide)
  · obtain ⟨A1, c1, A2, c2, t, n, _, _, _, h4, _⟩ := hs
    exact h4.type hb (by decide) (by decide) hm
set_option maxRecDepth 20000 in
set_option maxHeartbeats 8000000 in
theorem topFalls_walk (va : Value) (l : List Act) (w : World) (ha : ActsR w.heap.size w va l) :
    Calls Tryz.prog 4 #[va] w fun e w' => e = .returned (.bool true) ∧ Below w.heap.size w w' := by
  have HWO := Lib.hid (works_any w)
  have HLA := Lib.hid (fun W (hW : Below w.heap.size w W) => lightActs_any w.heap.size va l 60 W (acts_below ha hW))
  have HWK := Lib.hid (fun W (hW : Below w.heap.size w W) => weak_any w.heap.size va l W (acts_below ha hW))
  obtain ⟨A, cp, rfl, hc1, hc2, hcell⟩ := ha.form
  have HC := Lib.hid hcell
  have HEN := Lib.hid (fun x hx => (ha.2 x hx))
  clear hcell ha
  cases hla : lightA 60 l
  · rw [hla] at HLA
    clear hla
    go_enter Tryz.func4, Tryz.ntmps4
    go_wp2_with (first
      | (go_at_call 7; refine HWO.out.mono ?_; rintro e w1 ⟨rfl, hb1⟩)
      | (go_at_call 9; refine (HLA.out w1 hb1).mono ?_; rintro e w7 ⟨rfl, rfl⟩))
    go_ret
    exact ⟨rfl, hb1⟩
  rw [hla] at HLA
  have hl60 : l.length ≤ 60 := by
    simp [lightA] at hla
    omega
  clear hla
  by_cases hw : weakN l ≤ 6
  case neg =>
    have t52 : decide ((6 : Int) < (weakN l : Int)) = true := decide_eq_true (by omega)
    have t53 : 6 < weakN l := by omega
    clear hw
    go_enter Tryz.func4, Tryz.ntmps4
    go_wp2_with (first
      | (go_at_call 7; refine HWO.out.mono ?_; rintro e w1 ⟨rfl, hb1⟩)
      | (go_at_call 9; refine (HLA.out w1 hb1).mono ?_; rintro e w7 ⟨rfl, rfl⟩)
      | (go_at_call 17; refine (HWK.out w1 hb1).mono ?_; rintro e w7 ⟨rfl, rfl⟩))
    go_ret
    exact ⟨rfl, hb1⟩
  have t52 : decide ((6 : Int) < (weakN l : Int)) = false := decide_eq_false (by omega)
  have t53 : ¬ 6 < weakN l := by omega
  go_enter Tryz.func4, Tryz.ntmps4
  go_wp2_with (first
    | (go_at_call 7; refine HWO.out.mono ?_; rintro e w1 ⟨rfl, hb1⟩)
    | (go_at_call 9; refine (HLA.out w1 hb1).mono ?_; rintro e w7 ⟨rfl, rfl⟩)
    | (go_at_call 17; refine (HWK.out w1 hb1).mono ?_; rintro e w7 ⟨rfl, rfl⟩)
    | (go_at_call 18; refine (stored_any w1).mono ?_; rintro e w3 ⟨p, q, c, s, F, rfl, hst, hrw, hpw, hFw, hb3⟩))
  have HB3 : Hid (Below w.heap.size w w3) := hb1.trans (hb3.mono hb1.size)
  have HBL : Hid (w.heap.size ≤ w1.heap.size) := hb1.size
  have HF3 : Hid (FaS w1.heap.size w3 q p 0 0 c s F) := ⟨hst.st, hst.ch, hst.ok.inv, hst.ok.calm, by have := hst.ok.ep; omega, hst.ok.weak⟩
  clear hst hrw hFw hpw hb1 hb3 HWO HLA HWK t52 t53
  go_loopw [5, 6] (fun qv i wr => ∃ (k : Nat) (q : Nat) (c : Chip) (s : SM) (F : List Nat), qv = .pointer (some ⟨q, 0, none⟩) ∧ i = .int .i64 (k : Int) ∧ k ≤ l.length ∧ Hid (FaS w1.heap.size wr q p k (weakN (l.take k)) c s F) ∧ Hid (Below w.heap.size w wr)) (fun _ i _ => l.length - (intOf i).toNat)
  case atStart => exact ⟨0, q, c, s, F, rfl, rfl, Nat.zero_le _, HF3.out, HB3.out⟩
  case round =>
    clear HF3 HB3
    obtain ⟨k, q, c, s, F, rfl, rfl, hk, hfa, hbl⟩ := hrel
    have HRO := Lib.hid (rowsI_any w1.heap.size q p c s F wr hfa.out.st hfa.out.ch hfa.out.inv)
    have hr40 := hfa.out.inv.body.rows
    by_cases hlt : k < l.length
    · obtain ⟨x, hx, htk, _⟩ := getElem?_of_lt hlt
      obtain ⟨b, o, rfl, hb, e0, e1, e2, e3, e4⟩ := HC.out k x hx
      have hwt := weak_take htk
      have hwl := weak_le (l := l) (k + 1)
      obtain ⟨hen, hok⟩ := HEN.out x (List.mem_of_getElem? hx)
      obtain ⟨kd, sx, xa, xb, vx, lx⟩ := x
      simp only at e0 e1 e2 e3 e4 hen
      obtain ⟨A', cp', rfl, _, _, _⟩ := hen.form
      have HCE : Hid (∀ W, Below w.heap.size w W → W.cell? ⟨b, o + k * 5, none⟩ = some (.string kd) ∧ W.cell? ⟨b, o + k * 5 + 1, none⟩ = some (.string sx) ∧ W.cell? ⟨b, o + k * 5 + 2, none⟩ = some (.int .i64 xa) ∧ W.cell? ⟨b, o + k * 5 + 3, none⟩ = some (.int .i64 xb) ∧ W.cell? ⟨b, o + k * 5 + 4, none⟩ = some (.slice A' lx.length cp')) := fun W hW =>
        ⟨(hW.cell (p := ⟨b, o + k * 5, none⟩) hb).trans e0, (hW.cell (p := ⟨b, o + k * 5 + 1, none⟩) hb).trans e1, (hW.cell (p := ⟨b, o + k * 5 + 2, none⟩) hb).trans e2, (hW.cell (p := ⟨b, o + k * 5 + 3, none⟩) hb).trans e3, (hW.cell (p := ⟨b, o + k * 5 + 4, none⟩) hb).trans e4⟩
      have g1 : (0 : Int) ≤ (k : Int) := by omega
      have g2 : (k : Int) < (l.length : Int) := by omega
      have a1 := and1 xb
      have a31 := and31 xb
      have a3 := and3 xb
      have HX : Hid (∀ W, Below w.heap.size w W → Ents w1.heap.size W (.slice A' lx.length cp') lx) := fun W hW => ents_up (hen.below hW) HBL.out
      have HWT := Lib.hid (And.intro hwt (Nat.le_trans hwl hw))
      clear hx htk e0 e1 e2 e3 e4 hen hok hwt hwl
      go_wp2_with fail
      refine HRO.out.mono ?_
      rintro e w4 ⟨v4, rfl, hv4, hb4⟩
      obtain ⟨A4, c4, rfl, _, _, kX⟩ := hv4.form
      have hb5 : Below w4.heap.size w4 (w4.alloc (.cells #[.slice A4 s.rows.length c4] 35)) := (Below.refl _ _).alloc (Nat.le_refl _) _
      have hb45 := hb4.trans (hb5.mono hb4.size)
      have hB4 : w1.heap.size ≤ w4.heap.size := Nat.le_trans (Nat.le_of_lt (Nat.lt_of_le_of_lt hfa.out.st.base hfa.out.st.lt)) hb4.size
      have HR5 : Hid (RS w1.heap.size (w4.alloc (.cells #[.slice A4 s.rows.length c4] 35)) w4.heap.size s.rows) := RS.new hv4 hB4
      have HS5 := Lib.hid (hfa.out.st.below hb45)
      have HC5 := Lib.hid (hfa.out.ch.below hb45)
      have HV5 := Lib.hid (hv4.below hb5)
      have HB5 : Hid (Below w.heap.size w (w4.alloc (.cells #[.slice A4 s.rows.length c4] 35))) := hbl.out.trans (hb45.mono hbl.out.size)
      have HI := Lib.hid (And.intro hfa.out.inv (And.intro hfa.out.ep hfa.out.weak))
      clear hfa hbl hv4 hb4 hb5 hb45 hB4 kX HRO
      obtain ⟨d0, d1, d2, d3, d4⟩ := HCE.out _ HB5.out
      by_cases k1 : kd.toList = kWrite
      · have t1 := kind_eq k1
        unfold kWrite at t1
        have HRA : Hid (rowsA s.rows ⟨kd, sx, xa, xb, .slice A' lx.length cp', lx⟩ = rowsW s.rows lx) := if_pos k1
        have HRW := Lib.hid (rwrite_any w1.heap.size w4.heap.size _ s.rows lx _ HR5.out (HX.out _ HB5.out) (by omega))
        clear k1
        go_wp2_with fail
        refine HRW.out.mono ?_
        rintro e w6 ⟨rfl, hr6, hf6⟩
        have HR6 := Lib.hid hr6
        have HAP5 := HR5.out.apartI HS5.out HC5.out
        have HS6 := Lib.hid (HS5.out.fr hf6 (fun b hb e => HAP5 b (by rcases List.mem_cons.1 hb with h1 | h1 <;> simp [h1]) e))
        have HC6 := Lib.hid (HC5.out.keep hf6 (fun e => HAP5 p (by simp) e))
        have HV6 := Lib.hid (HV5.out.fr hf6)
        have HB6 : Hid (Below w.heap.size w w6) := HB5.out.trans ((hf6.below (Nat.le_trans HR5.out.ge (Nat.le_of_lt HR5.out.lt))).mono HBL.out)
        generalize hm : w4.heap.size = m at *
        clear hr6 hf6 HAP5 HRW HR5 HS5 HC5 HV5 HB5 hm d0 d1 d2 d3 d4
        obtain ⟨d0, d1, d2, d3, d4⟩ := HCE.out _ HB6.out
        by_cases hb1 : xb % 2 = 0
        · have u1 : ((xb % 2) == 0) = true := beq_iff_eq.2 hb1
          have HAR := Lib.hid (arm_any w1.heap.size p c (xb % 32) w6 HC6.out (by omega))
          have HIN : Hid (Inv (c.arm (xb % 32)) s) := HI.out.1.arm (by omega)
          have HWC : Hid (weaks (c.arm (xb % 32)) = weaks c) := rfl
          clear hb1
          go_wp2_with fail
          refine HAR.out.mono ?_
          rintro e w7 ⟨rfl, hc7, hf7⟩
          generalize c.arm (xb % 32) = cA at *
          have HS7 := Lib.hid (HS6.out.chip HC6.out hf7)
          have HC7 := Lib.hid hc7
          have HR7 := Lib.hid (HR6.out.fr hf7 (fun e => HR6.out.apartI HS6.out HC6.out p (by simp) e.symm))
          have HV7 := Lib.hid (HV6.out.fr hf7)
          have HB7 : Hid (Below w.heap.size w w7) := HB6.out.trans ((hf7.below (Nat.le_trans HR6.out.ge (Nat.le_of_lt HR6.out.lt))).mono HBL.out)
          clear hc7 hf7 HAR HS6 HC6 HR6 HV6 HB6 u1 d0 d1 d2 d3 d4
          obtain ⟨d0, d1, d2, d3, d4⟩ := HCE.out _ HB7.out
          have hep : s.m.ep + 9 ≤ 100000 := by have := HI.out.2.1; omega
          have HBK := Lib.hid (do_back HIN.out hep ⟨kd, sx, xa, xb, .slice A' lx.length cp', lx⟩ (by rw [HWC.out]; have := HI.out.2.2; have := HWT.out; omega) (xb % 4))
          have HD7 := Lib.hid (dof_any w1.heap.size q p cA s F kd sx xa xb (.slice A' lx.length cp') lx w7 HS7.out HC7.out HIN.out (HX.out w7 HB7.out) hep)
          rw [HRA.out, HWC.out] at HBK
          have HAP : Hid (∀ b ∈ q :: p :: F, b ≠ m) := HR7.out.apartI HS7.out HC7.out
          clear hep HS7 HC7 HIN HWC
          generalize doM cA s ⟨kd, sx, xa, xb, .slice A' lx.length cp', lx⟩ = D at *
          obtain ⟨c8, s8, n8⟩ := D
          go_wp2_with fail
          refine HD7.out.mono ?_
          rintro e w8 ⟨rfl, hc8, _, hf8⟩
          have HRS := Lib.hid (restart_any w1.heap.size p c8 (xb % 4) w8 hc8)
          have HR8 := Lib.hid (HR7.out.fr hf8 (fun hm => HAP.out m hm rfl))
          have HV8 := Lib.hid (HV7.out.fr hf8)
          have HB8 : Hid (Below w.heap.size w w8) := HB7.out.trans ((hf8.below (Nat.le_trans HR7.out.ge (Nat.le_of_lt HR7.out.lt))).mono HBL.out)
          clear hc8 hf8 HD7 HR7 HV7 HB7 d0 d1 d2 d3 d4
          obtain ⟨d0, d1, d2, d3, d4⟩ := HCE.out _ HB8.out
          go_wp2_with fail
          refine HRS.out.mono ?_
          rintro e w9 ⟨rfl, hc9, hf9⟩
          obtain ⟨s9, hi9, hr9, ho9, he9, hw9⟩ := HBK.out
          have HC9 := Lib.hid hc9
          have HI9 := Lib.hid hi9
          have HO9 := Lib.hid (And.intro hr9 (And.intro ho9 (And.intro he9 hw9)))
          have HCA : Hid ((c8.restart (xb % 4)).fuse < 0) := show (-1 : Int) < 0 by decide
          have HOP := Lib.hid (open_any w1.heap.size p _ s9 w9 hc9 hi9)
          have HR9 := Lib.hid (HR8.out.fr hf9 (fun e => HAP.out p (by simp) e.symm))
          have HV9 := Lib.hid (HV8.out.fr hf9)
          have HB9 : Hid (Below w.heap.size w w9) := HB8.out.trans ((hf9.below (Nat.le_trans HR8.out.ge (Nat.le_of_lt HR8.out.lt))).mono HBL.out)
          clear hc9 hf9 hi9 hr9 ho9 he9 hw9 HRS HR8 HV8 HB8 HBK d0 d1 d2 d3 d4
          go_wp2_with fail
          refine HOP.out.mono ?_
          rintro e w10 ⟨q2, F2, rfl, hs10, hb10, _, _⟩
          have HRO := Lib.hid (rowsI_any w1.heap.size q2 p _ s9 F2 w10 hs10 (HC9.out.below hb10) HI9.out)
          have HR10 := Lib.hid (HR9.out.below hb10)
          have HV10 := Lib.hid (HV9.out.below hb10)
          have HS10 := Lib.hid hs10
          have HC10 := Lib.hid (HC9.out.below hb10)
          have HB10 := Lib.hid (HB9.out.trans (hb10.mono HB9.out.size))
          clear hs10 hb10 HOP HR9 HV9 HB9 HC9
          go_wp2_with fail
          refine HRO.out.mono ?_
          rintro e w11 ⟨v11, rfl, hv11, hb11⟩
          obtain ⟨⟨vr, hmb, hvr⟩, hBm⟩ := HR10.out.below hb11
          have HDR : Hid (∀ n, (w11.drewN n).cell? ⟨m, 0, none⟩ = some vr) := fun n => hmb.cell 0
          have z0 : w11.cell? ⟨m, 0, none⟩ = some vr := hmb.cell 0
          have HEV := Lib.hid (And.intro hv11 (And.intro hvr (HV10.out.below hb11)))
          have HNX : Hid (∀ n, FaS w1.heap.size (w11.drewN n) q2 p (k + 1) (weakN (l.take (k + 1))) (c8.restart (xb % 4)) s9 F2 ∧ Below w.heap.size w (w11.drewN n)) := fun n =>
            ⟨⟨(HS10.out.below hb11).drewN n, (HC10.out.below hb11).drewN n, HI9.out, HCA.out, by have := HO9.out.2.2.1; have := HI.out.2.1; omega, by have := HO9.out.2.2.2; have := HI.out.2.2; have := HWT.out.1; omega⟩, below_drewN' (HB10.out.trans (hb11.mono HB10.out.size)) n⟩
          have HM1 : Hid (∀ n, Calls Tryz.prog 16 #[v11, vr] (w11.drewN n) fun e w' => e = .returned (.bool (decide (s9.rows = rowsW s.rows lx))) ∧ ∃ j, w' = (w11.drewN n).drewN j) := fun n => by
            refine (same_any w1.heap.size v11 vr _ _ _ (HEV.out.1.drewN n) (HEV.out.2.1.drewN n)).mono ?_
            rintro e w' ⟨rfl, j, rfl⟩
            exact ⟨rfl, j, rfl⟩
          have HM2 : Hid (∀ n, Calls Tryz.prog 16 #[v11, .slice A4 s.rows.length c4] (w11.drewN n) fun e w' => e = .returned (.bool (decide (s9.rows = s.rows))) ∧ ∃ j, w' = (w11.drewN n).drewN j) := fun n => by
            refine (same_any w1.heap.size v11 _ _ _ _ (HEV.out.1.drewN n) (HEV.out.2.2.drewN n)).mono ?_
            rintro e w' ⟨rfl, j, rfl⟩
            exact ⟨rfl, j, rfl⟩
          clear hmb hvr hv11 hb11 HRO HR10 HV10 HB10 HS10 HC10 HI9 HCA HEV HCE HX HAP
          by_cases hq : s9.rows = s.rows
          · have HQ : Hid (n8 = 0 → s9.rows = rowsW s.rows lx) := HO9.out.1
            have hd : decide (s9.rows = s.rows) = true := decide_eq_true hq
            rw [hd] at HM2
            have HM20 := Lib.hid (HM2.out 0)
            by_cases hn : n8 = 0
            · have he : errV n8 = .nilIface := by rw [hn]; rfl
              rw [he]
              have hd1 : decide (s9.rows = rowsW s.rows lx) = true := decide_eq_true (HQ.out hn)
              rw [hd1] at HM1
              have HM10 := Lib.hid (HM1.out 0)
              clear hq hd hn he hd1 HQ
              go_wp2_with fail
              refine HM10.out.mono ?_
              rintro e w12 ⟨rfl, n, rfl⟩
              have HM3 := Lib.hid (HM2.out n)
              have z1 := HDR.out n
              clear HM10 HM20
              simp only [World.drewN_zero] at *
              go_wp2_with fail
              refine HM3.out.mono ?_
              rintro e w13 ⟨rfl, n', rfl⟩
              have HN2 := Lib.hid (HNX.out (n + n'))
              clear z0 z1 HM3 HM1 HM2
              go_wp2_with fail
              go_roundw
              case rel => exact ⟨k + 1, q2, _, s9, F2, rfl, by go_num, by omega, HN2.out.1, HN2.out.2⟩
              case measure => simp [intOf] <;> omega
            · have he : errV n8 = .iface 80 (.int .i64 n8) := if_neg hn
              rw [he]
              clear hq hd hn he HQ
              go_wp2_with fail
              refine HM20.out.mono ?_
              rintro e w13 ⟨rfl, n', rfl⟩
              have HN2 := Lib.hid (HNX.out n')
              clear z0 HM20 HM1 HM2
              go_wp2_with fail
              go_roundw
              case rel => exact ⟨k + 1, q2, _, s9, F2, rfl, by go_num, by omega, HN2.out.1, HN2.out.2⟩
              case measure => simp [intOf] <;> omega
          · have hd : decide (s9.rows = s.rows) = false := decide_eq_false hq
            have hd1 : decide (s9.rows = rowsW s.rows lx) = true := decide_eq_true (HO9.out.2.1.resolve_left hq)
            rw [hd] at HM2
            rw [hd1] at HM1
            have HM20 := Lib.hid (HM2.out 0)
            have HM10 := Lib.hid (HM1.out 0)
            clear hq hd hd1
            by_cases hn : n8 = 0
            · have he : errV n8 = .nilIface := by rw [hn]; rfl
              rw [he]
              clear hn he
              go_wp2_with fail
              refine HM10.out.mono ?_
              rintro e w12 ⟨rfl, n, rfl⟩
              have HM3 := Lib.hid (HM2.out n)
              have z1 := HDR.out n
              clear HM10 HM20
              go_wp2_with fail
              refine HM3.out.mono ?_
              rintro e w13 ⟨rfl, n', rfl⟩
              have HM4 := Lib.hid (HM1.out (n + n'))
              have z2 := HDR.out (n + n')
              clear HM3
              go_wp2_with fail
              refine HM4.out.mono ?_
              rintro e w14 ⟨rfl, n'', rfl⟩
              have HN2 := Lib.hid (HNX.out (n + n' + n''))
              clear z0 z1 z2 HM4 HM1 HM2
              go_wp2_with fail
              go_roundw
              case rel => exact ⟨k + 1, q2, _, s9, F2, rfl, by go_num, by omega, HN2.out.1, HN2.out.2⟩
              case measure => simp [intOf] <;> omega
            · have he : errV n8 = .iface 80 (.int .i64 n8) := if_neg hn
              rw [he]
              clear hn he
              go_wp2_with fail
              refine HM20.out.mono ?_
              rintro e w13 ⟨rfl, n', rfl⟩
              have HM4 := Lib.hid (HM1.out n')
              have z2 := HDR.out n'
              clear HM10 HM20
              go_wp2_with fail
              refine HM4.out.mono ?_
              rintro e w14 ⟨rfl, n'', rfl⟩
              have HN2 := Lib.hid (HNX.out (n' + n''))
              clear z0 z2 HM4 HM1 HM2
              go_wp2_with fail
              go_roundw
              case rel => exact ⟨k + 1, q2, _, s9, F2, rfl, by go_num, by omega, HN2.out.1, HN2.out.2⟩
              case measure => simp [intOf] <;> omega
        · have u1 : ((xb % 2) == 0) = false := beq_eq_false_iff_ne.2 hb1
          clear hb1
          go_wp2_with fail
          have HIN : Hid (Inv c s) := HI.out.1
          have HS7 := HS6
          have HC7 := HC6
          have HR7 := HR6
          have HV7 := HV6
          have HB7 := HB6
          clear HS6 HC6 HR6 HV6 HB6
          have hep : s.m.ep + 9 ≤ 100000 := by have := HI.out.2.1; omega
          have HBK := Lib.hid (do_back HIN.out hep ⟨kd, sx, xa, xb, .slice A' lx.length cp', lx⟩ (by have := HI.out.2.2; have := HWT.out; omega) (xb % 4))
          have HD7 := Lib.hid (dof_any w1.heap.size q p c s F kd sx xa xb (.slice A' lx.length cp') lx w6 HS7.out HC7.out HIN.out (HX.out w6 HB7.out) hep)
          rw [HRA.out] at HBK
          have HAP : Hid (∀ b ∈ q :: p :: F, b ≠ m) := HR7.out.apartI HS7.out HC7.out
          clear hep HS7 HC7 HIN
          generalize doM c s ⟨kd, sx, xa, xb, .slice A' lx.length cp', lx⟩ = D at *
          obtain ⟨c8, s8, n8⟩ := D
          refine HD7.out.mono ?_
          rintro e w8 ⟨rfl, hc8, _, hf8⟩
          have HRS := Lib.hid (restart_any w1.heap.size p c8 (xb % 4) w8 hc8)
          have HR8 := Lib.hid (HR7.out.fr hf8 (fun hm => HAP.out m hm rfl))
          have HV8 := Lib.hid (HV7.out.fr hf8)
          have HB8 : Hid (Below w.heap.size w w8) := HB7.out.trans ((hf8.below (Nat.le_trans HR7.out.ge (Nat.le_of_lt HR7.out.lt))).mono HBL.out)
          clear hc8 hf8 HD7 HR7 HV7 HB7 d0 d1 d2 d3 d4
          obtain ⟨d0, d1, d2, d3, d4⟩ := HCE.out _ HB8.out
          go_wp2_with fail
          refine HRS.out.mono ?_
          rintro e w9 ⟨rfl, hc9, hf9⟩
          obtain ⟨s9, hi9, hr9, ho9, he9, hw9⟩ := HBK.out
          have HC9 := Lib.hid hc9
          have HI9 := Lib.hid hi9
          have HO9 := Lib.hid (And.intro hr9 (And.intro ho9 (And.intro he9 hw9)))
          have HCA : Hid ((c8.restart (xb % 4)).fuse < 0) := show (-1 : Int) < 0 by decide
          have HOP := Lib.hid (open_any w1.heap.size p _ s9 w9 hc9 hi9)
          have HR9 := Lib.hid (HR8.out.fr hf9 (fun e => HAP.out p (by simp) e.symm))
          have HV9 := Lib.hid (HV8.out.fr hf9)
          have HB9 : Hid (Below w.heap.size w w9) := HB8.out.trans ((hf9.below (Nat.le_trans HR8.out.ge (Nat.le_of_lt HR8.out.lt))).mono HBL.out)
          clear hc9 hf9 hi9 hr9 ho9 he9 hw9 HRS HR8 HV8 HB8 HBK d0 d1 d2 d3 d4
          go_wp2_with fail
          refine HOP.out.mono ?_
          rintro e w10 ⟨q2, F2, rfl, hs10, hb10, _, _⟩
          have HRO := Lib.hid (rowsI_any w1.heap.size q2 p _ s9 F2 w10 hs10 (HC9.out.below hb10) HI9.out)
          have HR10 := Lib.hid (HR9.out.below hb10)
          have HV10 := Lib.hid (HV9.out.below hb10)
          have HS10 := Lib.hid hs10
          have HC10 := Lib.hid (HC9.out.below hb10)
          have HB10 := Lib.hid (HB9.out.trans (hb10.mono HB9.out.size))
          clear hs10 hb10 HOP HR9 HV9 HB9 HC9
          go_wp2_with fail
          refine HRO.out.mono ?_
          rintro e w11 ⟨v11, rfl, hv11, hb11⟩
          obtain ⟨⟨vr, hmb, hvr⟩, hBm⟩ := HR10.out.below hb11
          have HDR : Hid (∀ n, (w11.drewN n).cell? ⟨m, 0, none⟩ = some vr) := fun n => hmb.cell 0
          have z0 : w11.cell? ⟨m, 0, none⟩ = some vr := hmb.cell 0
          have HEV := Lib.hid (And.intro hv11 (And.intro hvr (HV10.out.below hb11)))
          have HNX : Hid (∀ n, FaS w1.heap.size (w11.drewN n) q2 p (k + 1) (weakN (l.take (k + 1))) (c8.restart (xb % 4)) s9 F2 ∧ Below w.heap.size w (w11.drewN n)) := fun n =>
            ⟨⟨(HS10.out.below hb11).drewN n, (HC10.out.below hb11).drewN n, HI9.out, HCA.out, by have := HO9.out.2.2.1; have := HI.out.2.1; omega, by have := HO9.out.2.2.2; have := HI.out.2.2; have := HWT.out.1; omega⟩, below_drewN' (HB10.out.trans (hb11.mono HB10.out.size)) n⟩
          have HM1 : Hid (∀ n, Calls Tryz.prog 16 #[v11, vr] (w11.drewN n) fun e w' => e = .returned (.bool (decide (s9.rows = rowsW s.rows lx))) ∧ ∃ j, w' = (w11.drewN n).drewN j) := fun n => by
            refine (same_any w1.heap.size v11 vr _ _ _ (HEV.out.1.drewN n) (HEV.out.2.1.drewN n)).mono ?_
            rintro e w' ⟨rfl, j, rfl⟩
            exact ⟨rfl, j, rfl⟩
          have HM2 : Hid (∀ n, Calls Tryz.prog 16 #[v11, .slice A4 s.rows.length c4] (w11.drewN n) fun e w' => e = .returned (.bool (decide (s9.rows = s.rows))) ∧ ∃ j, w' = (w11.drewN n).drewN j) := fun n => by
            refine (same_any w1.heap.size v11 _ _ _ _ (HEV.out.1.drewN n) (HEV.out.2.2.drewN n)).mono ?_
            rintro e w' ⟨rfl, j, rfl⟩
            exact ⟨rfl, j, rfl⟩
          clear hmb hvr hv11 hb11 HRO HR10 HV10 HB10 HS10 HC10 HI9 HCA HEV HCE HX HAP
          by_cases hq : s9.rows = s.rows
          · have HQ : Hid (n8 = 0 → s9.rows = rowsW s.rows lx) := HO9.out.1
            have hd : decide (s9.rows = s.rows) = true := decide_eq_true hq
            rw [hd] at HM2
            have HM20 := Lib.hid (HM2.out 0)
            by_cases hn : n8 = 0
            · have he : errV n8 = .nilIface := by rw [hn]; rfl
              rw [he]
              have hd1 : decide (s9.rows = rowsW s.rows lx) = true := decide_eq_true (HQ.out hn)
              rw [hd1] at HM1
              have HM10 := Lib.hid (HM1.out 0)
              clear hq hd hn he hd1 HQ
              go_wp2_with fail
              refine HM10.out.mono ?_
              rintro e w12 ⟨rfl, n, rfl⟩
              have HM3 := Lib.hid (HM2.out n)
              have z1 := HDR.out n
              clear HM10 HM20
              simp only [World.drewN_zero] at *
              go_wp2_with fail
              refine HM3.out.mono ?_
              rintro e w13 ⟨rfl, n', rfl⟩
              have HN2 := Lib.hid (HNX.out (n + n'))
              clear z0 z1 HM3 HM1 HM2
              go_wp2_with fail
              go_roundw
              case rel => exact ⟨k + 1, q2, _, s9, F2, rfl, by go_num, by omega, HN2.out.1, HN2.out.2⟩
              case measure => simp [intOf] <;> omega
            · have he : errV n8 = .iface 80 (.int .i64 n8) := if_neg hn
              rw [he]
              clear hq hd hn he HQ
              go_wp2_with fail
              refine HM20.out.mono ?_
              rintro e w13 ⟨rfl, n', rfl⟩
              have HN2 := Lib.hid (HNX.out n')
              clear z0 HM20 HM1 HM2
              go_wp2_with fail
              go_roundw
              case rel => exact ⟨k + 1, q2, _, s9, F2, rfl, by go_num, by omega, HN2.out.1, HN2.out.2⟩
              case measure => simp [intOf] <;> omega
          · have hd : decide (s9.rows = s.rows) = false := decide_eq_false hq
            have hd1 : decide (s9.rows = rowsW s.rows lx) = true := decide_eq_true (HO9.out.2.1.resolve_left hq)
            rw [hd] at HM2
            rw [hd1] at HM1
            have HM20 := Lib.hid (HM2.out 0)
            have HM10 := Lib.hid (HM1.out 0)
            clear hq hd hd1
            by_cases hn : n8 = 0
            · have he : errV n8 = .nilIface := by rw [hn]; rfl
              rw [he]
              clear hn he
              go_wp2_with fail
              refine HM10.out.mono ?_
              rintro e w12 ⟨rfl, n, rfl⟩
              have HM3 := Lib.hid (HM2.out n)
              have z1 := HDR.out n
              clear HM10 HM20
              go_wp2_with fail
              refine HM3.out.mono ?_
              rintro e w13 ⟨rfl, n', rfl⟩
              have HM4 := Lib.hid (HM1.out (n + n'))
              have z2 := HDR.out (n + n')
              clear HM3
              go_wp2_with fail
              refine HM4.out.mono ?_
              rintro e w14 ⟨rfl, n'', rfl⟩
              have HN2 := Lib.hid (HNX.out (n + n' + n''))
              clear z0 z1 z2 HM4 HM1 HM2
              go_wp2_with fail
              go_roundw
              case rel => exact ⟨k + 1, q2, _, s9, F2, rfl, by go_num, by omega, HN2.out.1, HN2.out.2⟩
              case measure => simp [intOf] <;> omega
            · have he : errV n8 = .iface 80 (.int .i64 n8) := if_neg hn
              rw [he]
              clear hn he
              go_wp2_with fail
              refine HM20.out.mono ?_
              rintro e w13 ⟨rfl, n', rfl⟩
              have HM4 := Lib.hid (HM1.out n')
              have z2 := HDR.out n'
              clear HM10 HM20
              go_wp2_with fail
              refine HM4.out.mono ?_
              rintro e w14 ⟨rfl, n'', rfl⟩
              have HN2 := Lib.hid (HNX.out (n' + n''))
              clear z0 z2 HM4 HM1 HM2
              go_wp2_with fail
              go_roundw
              case rel => exact ⟨k + 1, q2, _, s9, F2, rfl, by go_num, by omega, HN2.out.1, HN2.out.2⟩
              case measure => simp [intOf] <;> omega
      · have t1 := kind_ne k1
        have HRA : Hid (rowsA s.rows ⟨kd, sx, xa, xb, .slice A' lx.length cp', lx⟩ = s.rows) := if_neg k1
        unfold kWrite at t1
        have HR6 := HR5
        have HS6 := HS5
        have HC6 := HC5
        have HV6 := HV5
        have HB6 := HB5
        clear k1 HR5 HS5 HC5 HV5 HB5
        by_cases hb1 : xb % 2 = 0
        · have u1 : ((xb % 2) == 0) = true := beq_iff_eq.2 hb1
          have HAR := Lib.hid (arm_any w1.heap.size p c (xb % 32) (w4.alloc (.cells #[.slice A4 s.rows.length c4] 35)) HC6.out (by omega))
          have HIN : Hid (Inv (c.arm (xb % 32)) s) := HI.out.1.arm (by omega)
          have HWC : Hid (weaks (c.arm (xb % 32)) = weaks c) := rfl
          clear hb1
          go_wp2_with fail
          generalize (w4.alloc (.cells #[.slice A4 s.rows.length c4] 35)) = w6 at *
          generalize hm : w4.heap.size = m at *
          clear hm
          refine HAR.out.mono ?_
          rintro e w7 ⟨rfl, hc7, hf7⟩
          generalize c.arm (xb % 32) = cA at *
          have HS7 := Lib.hid (HS6.out.chip HC6.out hf7)
          have HC7 := Lib.hid hc7
          have HR7 := Lib.hid (HR6.out.fr hf7 (fun e => HR6.out.apartI HS6.out HC6.out p (by simp) e.symm))
          have HV7 := Lib.hid (HV6.out.fr hf7)
          have HB7 : Hid (Below w.heap.size w w7) := HB6.out.trans ((hf7.below (Nat.le_trans HR6.out.ge (Nat.le_of_lt HR6.out.lt))).mono HBL.out)
          clear hc7 hf7 HAR HS6 HC6 HR6 HV6 HB6 u1 d0 d1 d2 d3 d4
          obtain ⟨d0, d1, d2, d3, d4⟩ := HCE.out _ HB7.out
          have hep : s.m.ep + 9 ≤ 100000 := by have := HI.out.2.1; omega
          have HBK := Lib.hid (do_back HIN.out hep ⟨kd, sx, xa, xb, .slice A' lx.length cp', lx⟩ (by rw [HWC.out]; have := HI.out.2.2; have := HWT.out; omega) (xb % 4))
          have HD7 := Lib.hid (dof_any w1.heap.size q p cA s F kd sx xa xb (.slice A' lx.length cp') lx w7 HS7.out HC7.out HIN.out (HX.out w7 HB7.out) hep)
          rw [HRA.out, HWC.out] at HBK
          have HAP : Hid (∀ b ∈ q :: p :: F, b ≠ m) := HR7.out.apartI HS7.out HC7.out
          clear hep HS7 HC7 HIN HWC
          generalize doM cA s ⟨kd, sx, xa, xb, .slice A' lx.length cp', lx⟩ = D at *
          obtain ⟨c8, s8, n8⟩ := D
          go_wp2_with fail
          refine HD7.out.mono ?_
          rintro e w8 ⟨rfl, hc8, _, hf8⟩
          have HRS := Lib.hid (restart_any w1.heap.size p c8 (xb % 4) w8 hc8)
          have HR8 := Lib.hid (HR7.out.fr hf8 (fun hm => HAP.out m hm rfl))
          have HV8 := Lib.hid (HV7.out.fr hf8)
          have HB8 : Hid (Below w.heap.size w w8) := HB7.out.trans ((hf8.below (Nat.le_trans HR7.out.ge (Nat.le_of_lt HR7.out.lt))).mono HBL.out)
          clear hc8 hf8 HD7 HR7 HV7 HB7 d0 d1 d2 d3 d4
          obtain ⟨d0, d1, d2, d3, d4⟩ := HCE.out _ HB8.out
          go_wp2_with fail
          refine HRS.out.mono ?_
          rintro e w9 ⟨rfl, hc9, hf9⟩
          obtain ⟨s9, hi9, hr9, ho9, he9, hw9⟩ := HBK.out
          have HC9 := Lib.hid hc9
          have HI9 := Lib.hid hi9
          have HO9 := Lib.hid (And.intro hr9 (And.intro ho9 (And.intro he9 hw9)))
          have HCA : Hid ((c8.restart (xb % 4)).fuse < 0) := show (-1 : Int) < 0 by decide
          have HOP := Lib.hid (open_any w1.heap.size p _ s9 w9 hc9 hi9)
          have HR9 := Lib.hid (HR8.out.fr hf9 (fun e => HAP.out p (by simp) e.symm))
          have HV9 := Lib.hid (HV8.out.fr hf9)
          have HB9 : Hid (Below w.heap.size w w9) := HB8.out.trans ((hf9.below (Nat.le_trans HR8.out.ge (Nat.le_of_lt HR8.out.lt))).mono HBL.out)
          clear hc9 hf9 hi9 hr9 ho9 he9 hw9 HRS HR8 HV8 HB8 HBK d0 d1 d2 d3 d4
          go_wp2_with fail
          refine HOP.out.mono ?_
          rintro e w10 ⟨q2, F2, rfl, hs10, hb10, _, _⟩
          have HRO := Lib.hid (rowsI_any w1.heap.size q2 p _ s9 F2 w10 hs10 (HC9.out.below hb10) HI9.out)
          have HR10 := Lib.hid (HR9.out.below hb10)
          have HV10 := Lib.hid (HV9.out.below hb10)
          have HS10 := Lib.hid hs10
          have HC10 := Lib.hid (HC9.out.below hb10)
          have HB10 := Lib.hid (HB9.out.trans (hb10.mono HB9.out.size))
          clear hs10 hb10 HOP HR9 HV9 HB9 HC9
          go_wp2_with fail
          refine HRO.out.mono ?_
          rintro e w11 ⟨v11, rfl, hv11, hb11⟩
          obtain ⟨⟨vr, hmb, hvr⟩, hBm⟩ := HR10.out.below hb11
          have HDR : Hid (∀ n, (w11.drewN n).cell? ⟨m, 0, none⟩ = some vr) := fun n => hmb.cell 0
          have z0 : w11.cell? ⟨m, 0, none⟩ = some vr := hmb.cell 0
          have HEV := Lib.hid (And.intro hv11 (And.intro hvr (HV10.out.below hb11)))
          have HNX : Hid (∀ n, FaS w1.heap.size (w11.drewN n) q2 p (k + 1) (weakN (l.take (k + 1))) (c8.restart (xb % 4)) s9 F2 ∧ Below w.heap.size w (w11.drewN n)) := fun n =>
            ⟨⟨(HS10.out.below hb11).drewN n, (HC10.out.below hb11).drewN n, HI9.out, HCA.out, by have := HO9.out.2.2.1; have := HI.out.2.1; omega, by have := HO9.out.2.2.2; have := HI.out.2.2; have := HWT.out.1; omega⟩, below_drewN' (HB10.out.trans (hb11.mono HB10.out.size)) n⟩
          have HM1 : Hid (∀ n, Calls Tryz.prog 16 #[v11, vr] (w11.drewN n) fun e w' => e = .returned (.bool (decide (s9.rows = s.rows))) ∧ ∃ j, w' = (w11.drewN n).drewN j) := fun n => by
            refine (same_any w1.heap.size v11 vr _ _ _ (HEV.out.1.drewN n) (HEV.out.2.1.drewN n)).mono ?_
            rintro e w' ⟨rfl, j, rfl⟩
            exact ⟨rfl, j, rfl⟩
          have HM2 : Hid (∀ n, Calls Tryz.prog 16 #[v11, .slice A4 s.rows.length c4] (w11.drewN n) fun e w' => e = .returned (.bool (decide (s9.rows = s.rows))) ∧ ∃ j, w' = (w11.drewN n).drewN j) := fun n => by
            refine (same_any w1.heap.size v11 _ _ _ _ (HEV.out.1.drewN n) (HEV.out.2.2.drewN n)).mono ?_
            rintro e w' ⟨rfl, j, rfl⟩
            exact ⟨rfl, j, rfl⟩
          clear hmb hvr hv11 hb11 HRO HR10 HV10 HB10 HS10 HC10 HI9 HCA HEV HCE HX HAP
          by_cases hq : s9.rows = s.rows
          · have HQ : Hid (n8 = 0 → s9.rows = s.rows) := HO9.out.1
            have hd : decide (s9.rows = s.rows) = true := decide_eq_true hq
            rw [hd] at HM2
            have HM20 := Lib.hid (HM2.out 0)
            by_cases hn : n8 = 0
            · have he : errV n8 = .nilIface := by rw [hn]; rfl
              rw [he]
              have hd1 : decide (s9.rows = s.rows) = true := decide_eq_true (HQ.out hn)
              rw [hd1] at HM1
              have HM10 := Lib.hid (HM1.out 0)
              clear hq hd hn he hd1 HQ
              go_wp2_with fail
              refine HM10.out.mono ?_
              rintro e w12 ⟨rfl, n, rfl⟩
              have HM3 := Lib.hid (HM2.out n)
              have z1 := HDR.out n
              clear HM10 HM20
              simp only [World.drewN_zero] at *
              go_wp2_with fail
              refine HM3.out.mono ?_
              rintro e w13 ⟨rfl, n', rfl⟩
              have HN2 := Lib.hid (HNX.out (n + n'))
              clear z0 z1 HM3 HM1 HM2
              go_wp2_with fail
              go_roundw
              case rel => exact ⟨k + 1, q2, _, s9, F2, rfl, by go_num, by omega, HN2.out.1, HN2.out.2⟩
              case measure => simp [intOf] <;> omega
            · have he : errV n8 = .iface 80 (.int .i64 n8) := if_neg hn
              rw [he]
              clear hq hd hn he HQ
              go_wp2_with fail
              refine HM20.out.mono ?_
              rintro e w13 ⟨rfl, n', rfl⟩
              have HN2 := Lib.hid (HNX.out n')
              clear z0 HM20 HM1 HM2
              go_wp2_with fail
              go_roundw
              case rel => exact ⟨k + 1, q2, _, s9, F2, rfl, by go_num, by omega, HN2.out.1, HN2.out.2⟩
              case measure => simp [intOf] <;> omega
          · have hd : decide (s9.rows = s.rows) = false := decide_eq_false hq
            have hd1 : decide (s9.rows = s.rows) = true := decide_eq_true (HO9.out.2.1.resolve_left hq)
            rw [hd] at HM2
            rw [hd1] at HM1
            have HM20 := Lib.hid (HM2.out 0)
            have HM10 := Lib.hid (HM1.out 0)
            clear hq hd hd1
            by_cases hn : n8 = 0
            · have he : errV n8 = .nilIface := by rw [hn]; rfl
              rw [he]
              clear hn he
              go_wp2_with fail
              refine HM10.out.mono ?_
              rintro e w12 ⟨rfl, n, rfl⟩
              have HM3 := Lib.hid (HM2.out n)
              have z1 := HDR.out n
              clear HM10 HM20
              go_wp2_with fail
              refine HM3.out.mono ?_
              rintro e w13 ⟨rfl, n', rfl⟩
              have HM4 := Lib.hid (HM1.out (n + n'))
              have z2 := HDR.out (n + n')
              clear HM3
              go_wp2_with fail
              refine HM4.out.mono ?_
              rintro e w14 ⟨rfl, n'', rfl⟩
              have HN2 := Lib.hid (HNX.out (n + n' + n''))
              clear z0 z1 z2 HM4 HM1 HM2
              go_wp2_with fail
              go_roundw
              case rel => exact ⟨k + 1, q2, _, s9, F2, rfl, by go_num, by omega, HN2.out.1, HN2.out.2⟩
              case measure => simp [intOf] <;> omega
            · have he : errV n8 = .iface 80 (.int .i64 n8) := if_neg hn
              rw [he]
              clear hn he
              go_wp2_with fail
              refine HM20.out.mono ?_
              rintro e w13 ⟨rfl, n', rfl⟩
              have HM4 := Lib.hid (HM1.out n')
              have z2 := HDR.out n'
              clear HM10 HM20
              go_wp2_with fail
              refine HM4.out.mono ?_
              rintro e w14 ⟨rfl, n'', rfl⟩
              have HN2 := Lib.hid (HNX.out (n' + n''))
              clear z0 z2 HM4 HM1 HM2
              go_wp2_with fail
              go_roundw
              case rel => exact ⟨k + 1, q2, _, s9, F2, rfl, by go_num, by omega, HN2.out.1, HN2.out.2⟩
              case measure => simp [intOf] <;> omega
        · have u1 : ((xb % 2) == 0) = false := beq_eq_false_iff_ne.2 hb1
          clear hb1
          go_wp2_with fail
          generalize (w4.alloc (.cells #[.slice A4 s.rows.length c4] 35)) = w6 at *
          generalize hm : w4.heap.size = m at *
          clear hm
          have HIN : Hid (Inv c s) := HI.out.1
          have HS7 := HS6
          have HC7 := HC6
          have HR7 := HR6
          have HV7 := HV6
          have HB7 := HB6
          clear HS6 HC6 HR6 HV6 HB6
          have hep : s.m.ep + 9 ≤ 100000 := by have := HI.out.2.1; omega
          have HBK := Lib.hid (do_back HIN.out hep ⟨kd, sx, xa, xb, .slice A' lx.length cp', lx⟩ (by have := HI.out.2.2; have := HWT.out; omega) (xb % 4))
          have HD7 := Lib.hid (dof_any w1.heap.size q p c s F kd sx xa xb (.slice A' lx.length cp') lx w6 HS7.out HC7.out HIN.out (HX.out w6 HB7.out) hep)
          rw [HRA.out] at HBK
          have HAP : Hid (∀ b ∈ q :: p :: F, b ≠ m) := HR7.out.apartI HS7.out HC7.out
          clear hep HS7 HC7 HIN
          generalize doM c s ⟨kd, sx, xa, xb, .slice A' lx.length cp', lx⟩ = D at *
          obtain ⟨c8, s8, n8⟩ := D
          refine HD7.out.mono ?_
          rintro e w8 ⟨rfl, hc8, _, hf8⟩
          have HRS := Lib.hid (restart_any w1.heap.size p c8 (xb % 4) w8 hc8)
          have HR8 := Lib.hid (HR7.out.fr hf8 (fun hm => HAP.out m hm rfl))
          have HV8 := Lib.hid (HV7.out.fr hf8)
          have HB8 : Hid (Below w.heap.size w w8) := HB7.out.trans ((hf8.below (Nat.le_trans HR7.out.ge (Nat.le_of_lt HR7.out.lt))).mono HBL.out)
          clear hc8 hf8 HD7 HR7 HV7 HB7 d0 d1 d2 d3 d4
          obtain ⟨d0, d1, d2, d3, d4⟩ := HCE.out _ HB8.out
          go_wp2_with fail
          refine HRS.out.mono ?_
          rintro e w9 ⟨rfl, hc9, hf9⟩
          obtain ⟨s9, hi9, hr9, ho9, he9, hw9⟩ := HBK.out
          have HC9 := Lib.hid hc9
          have HI9 := Lib.hid hi9
          have HO9 := Lib.hid (And.intro hr9 (And.intro ho9 (And.intro he9 hw9)))
          have HCA : Hid ((c8.restart (xb % 4)).fuse < 0) := show (-1 : Int) < 0 by decide
          have HOP := Lib.hid (open_any w1.heap.size p _ s9 w9 hc9 hi9)
          have HR9 := Lib.hid (HR8.out.fr hf9 (fun e => HAP.out p (by simp) e.symm))
          have HV9 := Lib.hid (HV8.out.fr hf9)
          have HB9 : Hid (Below w.heap.size w w9) := HB8.out.trans ((hf9.below (Nat.le_trans HR8.out.ge (Nat.le_of_lt HR8.out.lt))).mono HBL.out)
          clear hc9 hf9 hi9 hr9 ho9 he9 hw9 HRS HR8 HV8 HB8 HBK d0 d1 d2 d3 d4
          go_wp2_with fail
          refine HOP.out.mono ?_
          rintro e w10 ⟨q2, F2, rfl, hs10, hb10, _, _⟩
          have HRO := Lib.hid (rowsI_any w1.heap.size q2 p _ s9 F2 w10 hs10 (HC9.out.below hb10) HI9.out)
          have HR10 := Lib.hid (HR9.out.below hb10)
          have HV10 := Lib.hid (HV9.out.below hb10)
          have HS10 := Lib.hid hs10
          have HC10 := Lib.hid (HC9.out.below hb10)
          have HB10 := Lib.hid (HB9.out.trans (hb10.mono HB9.out.size))
          clear hs10 hb10 HOP HR9 HV9 HB9 HC9
          go_wp2_with fail
          refine HRO.out.mono ?_
          rintro e w11 ⟨v11, rfl, hv11, hb11⟩
          obtain ⟨⟨vr, hmb, hvr⟩, hBm⟩ := HR10.out.below hb11
          have HDR : Hid (∀ n, (w11.drewN n).cell? ⟨m, 0, none⟩ = some vr) := fun n => hmb.cell 0
          have z0 : w11.cell? ⟨m, 0, none⟩ = some vr := hmb.cell 0
          have HEV := Lib.hid (And.intro hv11 (And.intro hvr (HV10.out.below hb11)))
          have HNX : Hid (∀ n, FaS w1.heap.size (w11.drewN n) q2 p (k + 1) (weakN (l.take (k + 1))) (c8.restart (xb % 4)) s9 F2 ∧ Below w.heap.size w (w11.drewN n)) := fun n =>
            ⟨⟨(HS10.out.below hb11).drewN n, (HC10.out.below hb11).drewN n, HI9.out, HCA.out, by have := HO9.out.2.2.1; have := HI.out.2.1; omega, by have := HO9.out.2.2.2; have := HI.out.2.2; have := HWT.out.1; omega⟩, below_drewN' (HB10.out.trans (hb11.mono HB10.out.size)) n⟩
          have HM1 : Hid (∀ n, Calls Tryz.prog 16 #[v11, vr] (w11.drewN n) fun e w' => e = .returned (.bool (decide (s9.rows = s.rows))) ∧ ∃ j, w' = (w11.drewN n).drewN j) := fun n => by
            refine (same_any w1.heap.size v11 vr _ _ _ (HEV.out.1.drewN n) (HEV.out.2.1.drewN n)).mono ?_
            rintro e w' ⟨rfl, j, rfl⟩
            exact ⟨rfl, j, rfl⟩
          have HM2 : Hid (∀ n, Calls Tryz.prog 16 #[v11, .slice A4 s.rows.length c4] (w11.drewN n) fun e w' => e = .returned (.bool (decide (s9.rows = s.rows))) ∧ ∃ j, w' = (w11.drewN n).drewN j) := fun n => by
            refine (same_any w1.heap.size v11 _ _ _ _ (HEV.out.1.drewN n) (HEV.out.2.2.drewN n)).mono ?_
            rintro e w' ⟨rfl, j, rfl⟩
            exact ⟨rfl, j, rfl⟩
          clear hmb hvr hv11 hb11 HRO HR10 HV10 HB10 HS10 HC10 HI9 HCA HEV HCE HX HAP
          by_cases hq : s9.rows = s.rows
          · have HQ : Hid (n8 = 0 → s9.rows = s.rows) := HO9.out.1
            have hd : decide (s9.rows = s.rows) = true := decide_eq_true hq
            rw [hd] at HM2
            have HM20 := Lib.hid (HM2.out 0)
            by_cases hn : n8 = 0
            · have he : errV n8 = .nilIface := by rw [hn]; rfl
              rw [he]
              have hd1 : decide (s9.rows = s.rows) = true := decide_eq_true (HQ.out hn)
              rw [hd1] at HM1
              have HM10 := Lib.hid (HM1.out 0)
              clear hq hd hn he hd1 HQ
              go_wp2_with fail
              refine HM10.out.mono ?_
              rintro e w12 ⟨rfl, n, rfl⟩
              have HM3 := Lib.hid (HM2.out n)
              have z1 := HDR.out n
              clear HM10 HM20
              simp only [World.drewN_zero] at *
              go_wp2_with fail
              refine HM3.out.mono ?_
              rintro e w13 ⟨rfl, n', rfl⟩
              have HN2 := Lib.hid (HNX.out (n + n'))
              clear z0 z1 HM3 HM1 HM2
              go_wp2_with fail
              go_roundw
              case rel => exact ⟨k + 1, q2, _, s9, F2, rfl, by go_num, by omega, HN2.out.1, HN2.out.2⟩
              case measure => simp [intOf] <;> omega
            · have he : errV n8 = .iface 80 (.int .i64 n8) := if_neg hn
              rw [he]
              clear hq hd hn he HQ
              go_wp2_with fail
              refine HM20.out.mono ?_
              rintro e w13 ⟨rfl, n', rfl⟩
              have HN2 := Lib.hid (HNX.out n')
              clear z0 HM20 HM1 HM2
              go_wp2_with fail
              go_roundw
              case rel => exact ⟨k + 1, q2, _, s9, F2, rfl, by go_num, by omega, HN2.out.1, HN2.out.2⟩
              case measure => simp [intOf] <;> omega
          · have hd : decide (s9.rows = s.rows) = false := decide_eq_false hq
            have hd1 : decide (s9.rows = s.rows) = true := decide_eq_true (HO9.out.2.1.resolve_left hq)
            rw [hd] at HM2
            rw [hd1] at HM1
            have HM20 := Lib.hid (HM2.out 0)
            have HM10 := Lib.hid (HM1.out 0)
            clear hq hd hd1
            by_cases hn : n8 = 0
            · have he : errV n8 = .nilIface := by rw [hn]; rfl
              rw [he]
              clear hn he
              go_wp2_with fail
              refine HM10.out.mono ?_
              rintro e w12 ⟨rfl, n, rfl⟩
              have HM3 := Lib.hid (HM2.out n)
              have z1 := HDR.out n
              clear HM10 HM20
              go_wp2_with fail
              refine HM3.out.mono ?_
              rintro e w13 ⟨rfl, n', rfl⟩
              have HM4 := Lib.hid (HM1.out (n + n'))
              have z2 := HDR.out (n + n')
              clear HM3
              go_wp2_with fail
              refine HM4.out.mono ?_
              rintro e w14 ⟨rfl, n'', rfl⟩
              have HN2 := Lib.hid (HNX.out (n + n' + n''))
              clear z0 z1 z2 HM4 HM1 HM2
              go_wp2_with fail
              go_roundw
              case rel => exact ⟨k + 1, q2, _, s9, F2, rfl, by go_num, by omega, HN2.out.1, HN2.out.2⟩
              case measure => simp [intOf] <;> omega
            · have he : errV n8 = .iface 80 (.int .i64 n8) := if_neg hn
              rw [he]
              clear hn he
              go_wp2_with fail
              refine HM20.out.mono ?_
              rintro e w13 ⟨rfl, n', rfl⟩
              have HM4 := Lib.hid (HM1.out n')
              have z2 := HDR.out n'
              clear HM10 HM20
              go_wp2_with fail
              refine HM4.out.mono ?_
              rintro e w14 ⟨rfl, n'', rfl⟩
              have HN2 := Lib.hid (HNX.out (n' + n''))
              clear z0 z2 HM4 HM1 HM2
              go_wp2_with fail
              go_roundw
              case rel => exact ⟨k + 1, q2, _, s9, F2, rfl, by go_num, by omega, HN2.out.1, HN2.out.2⟩
              case measure => simp [intOf] <;> omega
    · obtain rfl : k = l.length := by omega
      have t34 : decide ((l.length : Int) < (l.length : Int)) = false := by simp
      have hb4 : Below wr.heap.size wr (wr.alloc (.cells #[.string ⟨#[122, 122]⟩, .string ⟨#[122]⟩, .bool false] 49)) := (Below.refl _ _).alloc (Nat.le_refl _) _
      have hw4 := write_any w1.heap.size q p c s F _ [eZZ] _ (hfa.out.st.below hb4) (hfa.out.ch.below hb4) hfa.out.inv (zz_ents w1.heap.size wr) (by have := hfa.out.ep; omega)
      have HB4 := Lib.hid (hbl.out.trans (hb4.mono hbl.out.size))
      have hsz : w1.heap.size ≤ (wr.alloc (.cells #[.string ⟨#[122, 122]⟩, .string ⟨#[122]⟩, .bool false] 49)).heap.size := Nat.le_trans (Nat.le_of_lt (Nat.lt_of_le_of_lt hfa.out.st.base hfa.out.st.lt)) hb4.size
      have HSZ := Lib.hid hsz
      rcases zz_check s hr40 with hz | ⟨hz, h40⟩
      · obtain ⟨c', s', n, e, f, _⟩ := write_store hfa.out.inv (by have := hfa.out.ep; omega) hz
        obtain ⟨rfl, _⟩ := f hfa.out.calm
        rw [e] at hw4
        have HW4 := Lib.hid hw4
        clear hw4 e f hz hfa hbl hb4 hsz HRO
        go_wp2_with fail
        refine HW4.out.mono ?_
        rintro e w5 ⟨rfl, _, _, hf5⟩
        have HB5 : Hid (Below w.heap.size w w5) := HB4.out.trans ((hf5.below HSZ.out).mono HBL.out)
        simp only
        rw [show errV 0 = Value.nilIface from rfl]
        clear hf5 HW4
        go_wp2_with fail
        go_ret
        exact ⟨rfl, HB5.out⟩
      · have e : writeM c s [eZZ] = (c, s, 8) := by unfold writeM; rw [if_pos (by rw [hz]; simp), hz]
        rw [e] at hw4
        have HW4 := Lib.hid hw4
        have HIN := Lib.hid hfa.out.inv
        have H40 := Lib.hid h40
        clear hw4 e hz h40 hfa hbl hb4 hsz HRO
        go_wp2_with fail
        refine HW4.out.mono ?_
        rintro e w5 ⟨rfl, hc5, ⟨F', hs5, _⟩, hf5⟩
        have HB5 : Hid (Below w.heap.size w w5) := HB4.out.trans ((hf5.below HSZ.out).mono HBL.out)
        have HR6 := Lib.hid (rowsI_any w1.heap.size q p c s F' w5 hs5 hc5 HIN.out)
        have he : errV 8 = .iface 80 (.int .i64 8) := rfl
        simp only
        rw [he]
        clear hf5 HW4 hs5 hc5 he
        go_wp2_with fail
        refine HR6.out.mono ?_
        rintro e w6 ⟨v6, rfl, hv6, hb6⟩
        obtain ⟨A6, c6, rfl, _, _, kX⟩ := hv6.form
        have HB6 := Lib.hid (HB5.out.trans (hb6.mono HB5.out.size))
        rw [H40.out]
        clear hv6 hb6 kX HR6
        go_wp2_with fail
        go_ret
        exact ⟨rfl, HB6.out⟩

-- CLOSING

set_option maxRecDepth 100000 in
theorem topFalls_holds : Rows.TopFallsSaid :=
  OpenClaim.holds_of_wide 4 Tryz.f4 rfl rfl rfl rfl rfl rfl rfl ⟨rfl, rfl, rfl, rfl, rfl⟩ rfl rfl rfl rfl rfl (by kernel_rfl) Tryz.func4 (by kernel_rfl)
    (of_decide_eq_true (by kernel_rfl)) (by unfold Func.isWrapper; first | (rw [if_pos (by decide +kernel)]; kernel_rfl) | (rw [if_neg (by decide +kernel)]; exact ⟨rfl, rfl⟩))
    (fun os started H enc _ => close_lifted Rows.topFallsSpec 4 Tryz.f4 os started H enc (by kernel_rfl) Tryz.func4 (by kernel_rfl) rfl
      (fun ds hd => by
        rw [Tryz.params4] at hd
        match ds, hd with
        | [d1], _ => rfl)
      (by kernel_rfl)
      (ChangeSpec.witness6 (enc := enc) (C := Tryz.checked) false ⟨#[], #[.slice none 0 0], []⟩ 8 (by kernel_rfl) (by kernel_rfl) (by kernel_rfl) (by kernel_rfl))
      (fun W base args ds p hval hA => by
        rw [Tryz.params4] at hA hval
        obtain ⟨v0, d0, hargs, rfl, h0⟩ := trodAll_one hA
        obtain rfl : args = #[v0] := by cases args; simp_all
        obtain ⟨l0, hl0⟩ := acts_of (hval 0 _ v0 rfl rfl) h0
        exact topFalls_walk v0 l0 W hl0))
#print axioms topFalls_holds
end Go.Proofs.YtaepdbkfaoiimacGreat
