/- TopFall returns true at every input, and leaves it as it was. Conditions: none. -/
import Derived.Test.YtaepdbkfaoiimacGreatFall
import Derived.Test.YtaepdbkfaoiimacGreatRefSto
import Derived.Test.YtaepdbkfaoiimacGreatStoU
set_option linter.unusedVariables false
set_option linter.unusedSimpArgs false
namespace Go.Proofs.YtaepdbkfaoiimacGreat
open Go.ChangeShapes Go.WideShapes Go.ChangeAt Go.RowKit Go.WideMaps Go.WideElems
open Go.ChangeMaps (open_string shut_string)
attribute [local go_sem ↓] eql_err eql_nilerr neq_err neq_nilerr guard_err guard_nilerr guardn_err guardn_nilerr
/-- The store that is opened behind the act. -/
def BackP (B p : Nat) (c' : Chip) (how : Int) (n : Nat) (r rA : List Ent) : Prop := ∃ s'', Inv (c'.restart how) s'' ∧ (n = 0 → s''.rows = rA) ∧ (s''.rows = r ∨ s''.rows = rA)
set_option maxRecDepth 20000 in
set_option maxHeartbeats 8000000 in
theorem topFall_walk (va : Value) (l : List Act) (kd sx : ByteArray) (xa xb : Int) (vx : Value) (lx : List Ent) (fuse how : Int) (w : World) (ha : ActsR w.heap.size w va l) (hx : Ents w.heap.size w vx lx) (hok : ActOk ⟨kd, sx, xa, xb, vx, lx⟩) :
    Calls Tryz.prog 3 #[va, .agg #[.string kd, .string sx, .int .i64 xa, .int .i64 xb, vx], .int .i64 fuse, .int .i64 how] w fun e w' => e = .returned (.bool true) ∧ Below w.heap.size w w' := by
  obtain ⟨A, cp, rfl, _, _, kX⟩ := hx.form
  have hb0 : Below w.heap.size w (w.alloc (.cells #[.string kd, .string sx, .int .i64 xa, .int .i64 xb, .slice A lx.length cp] 25)) := (Below.refl _ _).alloc (Nat.le_refl _) _
  have HWO := Lib.hid (works_any (w.alloc (.cells #[.string kd, .string sx, .int .i64 xa, .int .i64 xb, .slice A lx.length cp] 25)))
  have HFI := Lib.hid (fun W (hW : Below w.heap.size w W) => filled_any w.heap.size va l W (acts_below ha hW) hW.size)
  have HEN := Lib.hid (fun W (hW : Below w.heap.size w W) => hx.below hW)
  have HOK := Lib.hid hok
  have HB0 := Lib.hid hb0
  have HG0 : Hid (Blk (w.alloc (.cells #[.string kd, .string sx, .int .i64 xa, .int .i64 xb, .slice A lx.length cp] 25)) w.heap.size 25 #[.string kd, .string sx, .int .i64 xa, .int .i64 xb, .slice A lx.length cp]) := Blk.new _ _ _
  have HSZ0 : Hid ((w.alloc (.cells #[.string kd, .string sx, .int .i64 xa, .int .i64 xb, .slice A lx.length cp] 25)).heap.size = w.heap.size + 1) := by simp [Hid]
  clear ha hx hok hb0 kX
  cases hg : filG l
  · have HF0 := Lib.hid (fun W hW => fil_no hg (HFI.out W hW))
    clear hg HFI
    go_enter Tryz.func3, Tryz.ntmps3
    go_wp2_with (first
      | (go_at_call 7; refine HWO.out.mono ?_; rintro e w1 ⟨rfl, hb1⟩; have hb01 := HB0.out.trans (hb1.mono HB0.out.size))
      | (go_at_call 8; refine (HF0.out w1 hb01).mono ?_; rintro e w2 ⟨rfl, rfl⟩))
    go_ret
    exact ⟨rfl, hb01⟩
  have HF1 := Lib.hid (fun W hW => fil_yes hg (HFI.out W hW))
  have hl80 := filG_len hg
  clear hg HFI
  have HLA : Hid (∀ W, Below w.heap.size w W → Calls Tryz.prog 9 #[.slice (some ⟨W.heap.size, 0, none⟩) 1 1, .int .i64 1] (W.alloc (.cells #[.string kd, .string sx, .int .i64 xa, .int .i64 xb, .slice A lx.length cp] 25)) fun e w' => e = .returned (.bool (lightA 1 [⟨kd, sx, xa, xb, .slice A lx.length cp, lx⟩])) ∧ (W.alloc (.cells #[.string kd, .string sx, .int .i64 xa, .int .i64 xb, .slice A lx.length cp] 25)) = w') := fun W hW =>
    lightActs_any w.heap.size _ _ 1 _ (act_lit w.heap.size W ⟨kd, sx, xa, xb, .slice A lx.length cp, lx⟩ (HEN.out W hW) HOK.out)
  cases hla : lightA 1 [⟨kd, sx, xa, xb, .slice A lx.length cp, lx⟩]
  · rw [hla] at HLA
    clear hla
    go_enter Tryz.func3, Tryz.ntmps3
    go_wp2_with (first
      | (go_at_call 7; refine HWO.out.mono ?_; rintro e w1 ⟨rfl, hb1⟩; have hb01 := HB0.out.trans (hb1.mono HB0.out.size); have hg1 := HG0.out.below hb1 HG0.out.lt)
      | (go_at_call 8; refine (HF1.out w1 hb01).mono ?_; rintro e w2 ⟨p, q, rfl, c, s, F, hst, hrw, hFw, hpw, hb2⟩; have hb02 := hb01.trans (hb2.mono hb01.size); have hg2 := hg1.below hb2 hg1.lt; have x0 := hg2.cell 0; have x1 := hg2.cell 1; have x2 := hg2.cell 2; have x3 := hg2.cell 3; have x4 := hg2.cell 4; simp at x0 x1 x2 x3 x4)
      | (go_at_call 9; refine (HLA.out w2 hb02).mono ?_; rintro e w3 ⟨rfl, rfl⟩; have hg3 := hg2.alloc (.cells #[.string kd, .string sx, .int .i64 xa, .int .i64 xb, .slice A lx.length cp] 25); have y0 : (w2.alloc (.cells #[.string kd, .string sx, .int .i64 xa, .int .i64 xb, .slice A lx.length cp] 25)).cell? ⟨w.heap.size, 0, none⟩ = some (.string kd) := hg3.cell 0; have y4 : (w2.alloc (.cells #[.string kd, .string sx, .int .i64 xa, .int .i64 xb, .slice A lx.length cp] 25)).cell? ⟨w.heap.size, 4, none⟩ = some (.slice A lx.length cp) := hg3.cell 4))
    go_ret
    exact ⟨rfl, hb02.alloc hb02.size _⟩
  rw [hla] at HLA
  have hlx6 : True := trivial
  clear hla hlx6
  by_cases k4 : kd.toList = kWeaken
  · have t4 := kind_eq k4
    unfold kWeaken at t4
    clear k4
    go_enter Tryz.func3, Tryz.ntmps3
    go_wp2_with (first
      | (go_at_call 7; refine HWO.out.mono ?_; rintro e w1 ⟨rfl, hb1⟩; have hb01 := HB0.out.trans (hb1.mono HB0.out.size); have hg1 := HG0.out.below hb1 HG0.out.lt)
      | (go_at_call 8; refine (HF1.out w1 hb01).mono ?_; rintro e w2 ⟨p, q, rfl, c, s, F, hst, hrw, hFw, hpw, hb2⟩; have hb02 := hb01.trans (hb2.mono hb01.size); have hg2 := hg1.below hb2 hg1.lt; have x0 := hg2.cell 0; have x1 := hg2.cell 1; have x2 := hg2.cell 2; have x3 := hg2.cell 3; have x4 := hg2.cell 4; simp at x0 x1 x2 x3 x4)
      | (go_at_call 9; refine (HLA.out w2 hb02).mono ?_; rintro e w3 ⟨rfl, rfl⟩; have hg3 := hg2.alloc (.cells #[.string kd, .string sx, .int .i64 xa, .int .i64 xb, .slice A lx.length cp] 25); have y0 : (w2.alloc (.cells #[.string kd, .string sx, .int .i64 xa, .int .i64 xb, .slice A lx.length cp] 25)).cell? ⟨w.heap.size, 0, none⟩ = some (.string kd) := hg3.cell 0; have y4 : (w2.alloc (.cells #[.string kd, .string sx, .int .i64 xa, .int .i64 xb, .slice A lx.length cp] 25)).cell? ⟨w.heap.size, 4, none⟩ = some (.slice A lx.length cp) := hg3.cell 4))
    go_ret
    exact ⟨rfl, hb02.alloc hb02.size _⟩
  have t4 := kind_ne k4
  unfold kWeaken at t4
  have hwk : weakA ⟨kd, sx, xa, xb, .slice A lx.length cp, lx⟩ = 0 := if_neg k4
  clear k4
  go_enter Tryz.func3, Tryz.ntmps3
  go_wp2_with (first
    | (go_at_call 7; refine HWO.out.mono ?_; rintro e w1 ⟨rfl, hb1⟩; have hb01 := HB0.out.trans (hb1.mono HB0.out.size); have hg1 := HG0.out.below hb1 HG0.out.lt)
    | (go_at_call 8; refine (HF1.out w1 hb01).mono ?_; rintro e w2 ⟨p, q, rfl, c, s, F, hst, hrw, hFw, hpw, hb2⟩; have hb02 := hb01.trans (hb2.mono hb01.size); have hg2 := hg1.below hb2 hg1.lt; have x0 := hg2.cell 0; have x1 := hg2.cell 1; have x2 := hg2.cell 2; have x3 := hg2.cell 3; have x4 := hg2.cell 4; simp at x0 x1 x2 x3 x4)
    | (go_at_call 9; refine (HLA.out w2 hb02).mono ?_; rintro e w3 ⟨rfl, rfl⟩; have hg3 := hg2.alloc (.cells #[.string kd, .string sx, .int .i64 xa, .int .i64 xb, .slice A lx.length cp] 25); have y0 : (w2.alloc (.cells #[.string kd, .string sx, .int .i64 xa, .int .i64 xb, .slice A lx.length cp] 25)).cell? ⟨w.heap.size, 0, none⟩ = some (.string kd) := hg3.cell 0; have y4 : (w2.alloc (.cells #[.string kd, .string sx, .int .i64 xa, .int .i64 xb, .slice A lx.length cp] 25)).cell? ⟨w.heap.size, 4, none⟩ = some (.slice A lx.length cp) := hg3.cell 4))
  -- MAIN
  have hb13 := hb02.size
  have hB1 : w.heap.size ≤ w1.heap.size := hb01.size
  have hb23 : Below w2.heap.size w2 (w2.alloc (.cells #[.string kd, .string sx, .int .i64 xa, .int .i64 xb, .slice A lx.length cp] 25)) := (Below.refl _ _).alloc (Nat.le_refl _) _
  have HS3 := Lib.hid (hst.below hb23)
  have HB3 := Lib.hid (hb02.trans (hb23.mono hb02.size))
  have HG3 := Lib.hid hg3
  have HX3 : Hid (Ents w1.heap.size (w2.alloc (.cells #[.string kd, .string sx, .int .i64 xa, .int .i64 xb, .slice A lx.length cp] 25)) (.slice A lx.length cp) lx) := ents_up (HEN.out _ (hb02.trans (hb23.mono hb02.size))) hB1
  have hr40 : s.rows.length ≤ 40 := hst.ok.inv.body.rows
  have HBL : Hid (w.heap.size ≤ w1.heap.size) := hB1
  clear hst hrw hFw hpw hb1 hb2 hb01 hb02 hg1 hg2 hg3 x0 x1 x2 x3 x4 y0 y4 hb13 hB1 hb23 HWO HF1 HB0 HG0 HSZ0 HLA HEN
  generalize (w2.alloc (.cells #[.string kd, .string sx, .int .i64 xa, .int .i64 xb, .slice A lx.length cp] 25)) = w3 at *
  have HRO := Lib.hid (rows_st HS3.out)
  refine HRO.out.mono ?_
  rintro e w4 ⟨v4, rfl, hv4, hs4, hb4⟩
  obtain ⟨A4, c4, rfl, _, _, kX⟩ := hv4.form
  have hb5 : Below w4.heap.size w4 (w4.alloc (.cells #[.slice A4 s.rows.length c4] 35)) := (Below.refl _ _).alloc (Nat.le_refl _) _
  have hB4 : w1.heap.size ≤ w4.heap.size := Nat.le_of_lt (Nat.lt_of_le_of_lt hs4.st.base hs4.st.lt)
  have HR5 : Hid (RS w1.heap.size (w4.alloc (.cells #[.slice A4 s.rows.length c4] 35)) w4.heap.size s.rows) := RS.new hv4 hB4
  have HS5 := Lib.hid (hs4.below hb5)
  have HV5 := Lib.hid (hv4.below hb5)
  have hg5 : Blk (w4.alloc (.cells #[.slice A4 s.rows.length c4] 35)) w.heap.size 25 #[.string kd, .string sx, .int .i64 xa, .int .i64 xb, .slice A lx.length cp] := (HG3.out.below hb4 HG3.out.lt).alloc _
  have y0 : (w4.alloc (.cells #[.slice A4 s.rows.length c4] 35)).cell? ⟨w.heap.size, 0, none⟩ = some (.string kd) := hg5.cell 0
  have y4 : (w4.alloc (.cells #[.slice A4 s.rows.length c4] 35)).cell? ⟨w.heap.size, 4, none⟩ = some (.slice A lx.length cp) := hg5.cell 4
  have HG5 := Lib.hid hg5
  have HX5 := Lib.hid ((HX3.out.below hb4).below hb5)
  have hb34 := HB3.out.trans (hb4.mono HB3.out.size)
  have HB5 := Lib.hid (hb34.trans (hb5.mono hb34.size))
  clear hv4 hs4 hb4 hb5 hB4 hg5 hb34 kX HRO HS3 HB3 HG3 HX3
  by_cases k1 : kd.toList = kWrite
  · have t1 := kind_eq k1
    unfold kWrite at t1
    have HRA : Hid (rowsA s.rows ⟨kd, sx, xa, xb, .slice A lx.length cp, lx⟩ = rowsW s.rows lx) := if_pos k1
    have HRW := Lib.hid (rwrite_any w1.heap.size w4.heap.size _ s.rows lx _ HR5.out HX5.out (by omega))
    clear k1
    go_wp2_with fail
    refine HRW.out.mono ?_
    rintro e w6 ⟨rfl, hr6, hf6⟩
    have HR6 := Lib.hid hr6
    have HS6 := Lib.hid (HS5.out.ref HR5.out hf6)
    have HV6 := Lib.hid (HV5.out.fr hf6)
    have HX6 := Lib.hid (HX5.out.fr hf6)
    have HG6 : Hid (Blk w6 w.heap.size 25 #[.string kd, .string sx, .int .i64 xa, .int .i64 xb, .slice A lx.length cp]) := Blk.fr HG5.out hf6 (.inr (.inr (by decide)))
    have HB6 : Hid (Below w.heap.size w w6) := HB5.out.trans ((hf6.below (Nat.le_trans HR5.out.ge (Nat.le_of_lt HR5.out.lt))).mono HBL.out)
    generalize hm : w4.heap.size = m at *
    clear hr6 hf6 HRW HR5 HS5 HV5 HX5 HG5 HB5 y0 y4 hm
    go_wp2_with fail
    have HAR := Lib.hid (arm_any w1.heap.size p c (min (max fuse (-1)) 60) w6 HS6.out.ch (by omega))
    have hin := HS6.out.ok.inv.arm (n := min (max fuse (-1)) 60) (by omega)
    have hep : s.m.ep + 9 ≤ 100000 := by have := HS6.out.ok.ep; omega
    have HBK := Lib.hid (do_back hin hep ⟨kd, sx, xa, xb, .slice A lx.length cp, lx⟩ (by rw [hwk]; exact hin.body.weak) how)
    have HDO : Hid (∀ W, StoreR w1.heap.size W q p s F → ChipR w1.heap.size W p (c.arm (min (max fuse (-1)) 60)) → Ents w1.heap.size W (.slice A lx.length cp) lx → Calls Tryz.prog 13 #[.pointer (some ⟨p, 0, none⟩), .pointer (some ⟨q, 0, none⟩), .agg #[.string kd, .string sx, .int .i64 xa, .int .i64 xb, .slice A lx.length cp]] W (SPost w1.heap.size q p F W (doM (c.arm (min (max fuse (-1)) 60)) s ⟨kd, sx, xa, xb, .slice A lx.length cp, lx⟩))) := fun W h1 h2 h3 =>
      dof_any w1.heap.size q p _ s F kd sx xa xb _ lx W h1 h2 hin h3 hep
    rw [HRA.out] at HBK
    clear hin hep hwk
    generalize (min (max fuse (-1)) 60) = fz at *
    generalize doM (c.arm fz) s ⟨kd, sx, xa, xb, .slice A lx.length cp, lx⟩ = D at *
    obtain ⟨c8, s8, n8⟩ := D
    refine HAR.out.mono ?_
    rintro e w7 ⟨rfl, hc7, hf7⟩
    have hg7 : Blk w7 w.heap.size 25 #[.string kd, .string sx, .int .i64 xa, .int .i64 xb, .slice A lx.length cp] := Blk.fr HG6.out hf7 (.inr (.inr (by decide)))
    have y0 : w7.cell? ⟨w.heap.size, 0, none⟩ = some (.string kd) := hg7.cell 0
    have y1 : w7.cell? ⟨w.heap.size, 1, none⟩ = some (.string sx) := hg7.cell 1
    have y2 : w7.cell? ⟨w.heap.size, 2, none⟩ = some (.int .i64 xa) := hg7.cell 2
    have y3 : w7.cell? ⟨w.heap.size, 3, none⟩ = some (.int .i64 xb) := hg7.cell 3
    have y4 : w7.cell? ⟨w.heap.size, 4, none⟩ = some (.slice A lx.length cp) := hg7.cell 4
    have HD7 := Lib.hid (HDO.out w7 (HS6.out.st.chip HS6.out.ch hf7) hc7 (HX6.out.fr hf7))
    have HR7 := Lib.hid (HR6.out.fr hf7 (fun e => HR6.out.apart HS6.out p (by simp) e.symm))
    have HAP : Hid (∀ b ∈ q :: p :: F, b ≠ m) := HR6.out.apart HS6.out
    have HV7 := Lib.hid (HV6.out.fr hf7)
    have HB7 := Lib.hid (HB6.out.trans ((hf7.below (Nat.le_trans HR6.out.ge (Nat.le_of_lt HR6.out.lt))).mono HBL.out))
    clear hc7 hf7 hg7 HAR HDO HS6 HR6 HV6 HX6 HG6 HB6
    go_wp2_with fail
    refine HD7.out.mono ?_
    rintro e w8 ⟨rfl, hc8, _, hf8⟩
    have HC8 := Lib.hid hc8
    have HRS := Lib.hid (restart_any w1.heap.size p c8 how w8 hc8)
    have HR8 := Lib.hid (HR7.out.fr hf8 (fun hm => HAP.out m hm rfl))
    have HV8 := Lib.hid (HV7.out.fr hf8)
    have HB8 := Lib.hid (HB7.out.trans ((hf8.below (Nat.le_trans HR7.out.ge (Nat.le_of_lt HR7.out.lt))).mono HBL.out))
    clear hc8 hf8 HD7 HR7 HV7 HB7 y0 y1 y2 y3 y4
    go_wp2_with fail
    refine HRS.out.mono ?_
    rintro e w9 ⟨rfl, hc9, hf9⟩
    obtain ⟨s9, hi9, hr9, ho9, _, _⟩ := HBK.out
    have HC9 := Lib.hid hc9
    have HI9 := Lib.hid hi9
    have HO9 := Lib.hid (And.intro hr9 ho9)
    have HOP := Lib.hid (open_any w1.heap.size p _ s9 w9 hc9 hi9)
    have HR9 := Lib.hid (HR8.out.fr hf9 (fun e => HAP.out p (by simp) e.symm))
    have HV9 := Lib.hid (HV8.out.fr hf9)
    have HB9 := Lib.hid (HB8.out.trans ((hf9.below (Nat.le_trans HR8.out.ge (Nat.le_of_lt HR8.out.lt))).mono HBL.out))
    clear hc9 hf9 hi9 hr9 ho9 HRS HR8 HV8 HB8 HC8 HBK
    go_wp2_with fail
    refine HOP.out.mono ?_
    rintro e w10 ⟨q2, F2, rfl, hs10, hb10, _, _⟩
    have HRO := Lib.hid (rowsI_any w1.heap.size q2 p _ s9 F2 w10 hs10 (HC9.out.below hb10) HI9.out)
    have HR10 := Lib.hid (HR9.out.below hb10)
    have HV10 := Lib.hid (HV9.out.below hb10)
    have HB10 := Lib.hid (HB9.out.trans (hb10.mono HB9.out.size))
    clear hs10 hb10 HOP HR9 HV9 HB9 HC9 HI9
    go_wp2_with fail
    refine HRO.out.mono ?_
    rintro e w11 ⟨v11, rfl, hv11, hb11⟩
    obtain ⟨⟨vr, hmb, hvr⟩, hBm⟩ := HR10.out.below hb11
    have z0 : w11.cell? ⟨m, 0, none⟩ = some vr := hmb.cell 0
    have HVR := Lib.hid hvr
    have HV11 := Lib.hid hv11
    have HVW := Lib.hid (HV10.out.below hb11)
    have HB11 := Lib.hid (HB10.out.trans (hb11.mono HB10.out.size))
    have HDR : Hid (∀ n, (w11.drewN n).cell? ⟨m, 0, none⟩ = some vr) := fun n => z0
    clear hmb hvr hv11 hb11 HRO HR10 HV10 HB10
    by_cases hn : n8 = 0
    · have he : errV n8 = .nilIface := by rw [hn]; rfl
      rw [he]
      have hq : s9.rows = rowsW s.rows lx := HO9.out.1 hn
      have HSA : Hid (Calls Tryz.prog 16 #[v11, vr] w11 fun e w' => e = .returned (.bool true) ∧ ∃ n, w' = w11.drewN n) := by
        refine (same_any w1.heap.size v11 vr _ _ w11 HV11.out HVR.out).mono ?_
        rintro e w' ⟨rfl, n, rfl⟩
        exact ⟨by rw [decide_eq_true hq], n, rfl⟩
      clear hn he hq
      go_wp2_with fail
      refine HSA.out.mono ?_
      rintro e w12 ⟨rfl, n, rfl⟩
      go_wp2_with fail
      go_ret
      exact ⟨rfl, below_drewN' HB11.out n⟩
    · have he : errV n8 = .iface 80 (.int .i64 n8) := if_neg hn
      rw [he]
      clear hn he
      by_cases hq : s9.rows = s.rows
      · have HSA : Hid (Calls Tryz.prog 16 #[v11, .slice A4 s.rows.length c4] w11 fun e w' => e = .returned (.bool true) ∧ ∃ n, w' = w11.drewN n) := by
          refine (same_any w1.heap.size v11 _ _ _ w11 HV11.out HVW.out).mono ?_
          rintro e w' ⟨rfl, n, rfl⟩
          exact ⟨by rw [decide_eq_true hq], n, rfl⟩
        clear hq
        go_wp2_with fail
        refine HSA.out.mono ?_
        rintro e w12 ⟨rfl, n, rfl⟩
        go_wp2_with fail
        go_ret
        exact ⟨rfl, below_drewN' HB11.out n⟩
      · have hq2 : s9.rows = rowsW s.rows lx := HO9.out.2.resolve_left hq
        have HSA : Hid (Calls Tryz.prog 16 #[v11, .slice A4 s.rows.length c4] w11 fun e w' => e = .returned (.bool false) ∧ ∃ n, w' = w11.drewN n) := by
          refine (same_any w1.heap.size v11 _ _ _ w11 HV11.out HVW.out).mono ?_
          rintro e w' ⟨rfl, n, rfl⟩
          exact ⟨by rw [decide_eq_false hq], n, rfl⟩
        have HSB : Hid (∀ n, Calls Tryz.prog 16 #[v11, vr] (w11.drewN n) fun e w' => e = .returned (.bool true) ∧ ∃ k, w' = (w11.drewN n).drewN k) := fun n => by
          refine (same_any w1.heap.size v11 vr _ _ _ (HV11.out.drewN n) (HVR.out.drewN n)).mono ?_
          rintro e w' ⟨rfl, k, rfl⟩
          exact ⟨by rw [decide_eq_true hq2], k, rfl⟩
        clear hq hq2 z0
        go_wp2_with fail
        refine HSA.out.mono ?_
        rintro e w12 ⟨rfl, n, rfl⟩
        have z1 := HDR.out n
        have HSC := Lib.hid (HSB.out n)
        clear HSA HSB
        go_wp2_with fail
        refine HSC.out.mono ?_
        rintro e w13 ⟨rfl, k, rfl⟩
        go_wp2_with fail
        go_ret
        exact ⟨rfl, below_drewN' HB11.out (n + k)⟩
  · have t1 := kind_ne k1
    have HRA : Hid (rowsA s.rows ⟨kd, sx, xa, xb, .slice A lx.length cp, lx⟩ = s.rows) := if_neg k1
    unfold kWrite at t1
    have HR6 := HR5
    have HS6 := HS5
    have HV6 := HV5
    have HX6 := HX5
    have HG6 := HG5
    have HB6 := HB5
    clear k1 HR5 HS5 HV5 HX5 HG5 HB5
    go_wp2_with fail
    generalize (w4.alloc (.cells #[.slice A4 s.rows.length c4] 35)) = w6 at *
    generalize hm : w4.heap.size = m at *
    clear y0 y4 hm
    have HAR := Lib.hid (arm_any w1.heap.size p c (min (max fuse (-1)) 60) w6 HS6.out.ch (by omega))
    have hin := HS6.out.ok.inv.arm (n := min (max fuse (-1)) 60) (by omega)
    have hep : s.m.ep + 9 ≤ 100000 := by have := HS6.out.ok.ep; omega
    have HBK := Lib.hid (do_back hin hep ⟨kd, sx, xa, xb, .slice A lx.length cp, lx⟩ (by rw [hwk]; exact hin.body.weak) how)
    have HDO : Hid (∀ W, StoreR w1.heap.size W q p s F → ChipR w1.heap.size W p (c.arm (min (max fuse (-1)) 60)) → Ents w1.heap.size W (.slice A lx.length cp) lx → Calls Tryz.prog 13 #[.pointer (some ⟨p, 0, none⟩), .pointer (some ⟨q, 0, none⟩), .agg #[.string kd, .string sx, .int .i64 xa, .int .i64 xb, .slice A lx.length cp]] W (SPost w1.heap.size q p F W (doM (c.arm (min (max fuse (-1)) 60)) s ⟨kd, sx, xa, xb, .slice A lx.length cp, lx⟩))) := fun W h1 h2 h3 =>
      dof_any w1.heap.size q p _ s F kd sx xa xb _ lx W h1 h2 hin h3 hep
    rw [HRA.out] at HBK
    clear hin hep hwk
    generalize (min (max fuse (-1)) 60) = fz at *
    generalize doM (c.arm fz) s ⟨kd, sx, xa, xb, .slice A lx.length cp, lx⟩ = D at *
    obtain ⟨c8, s8, n8⟩ := D
    refine HAR.out.mono ?_
    rintro e w7 ⟨rfl, hc7, hf7⟩
    have hg7 : Blk w7 w.heap.size 25 #[.string kd, .string sx, .int .i64 xa, .int .i64 xb, .slice A lx.length cp] := Blk.fr HG6.out hf7 (.inr (.inr (by decide)))
    have y0 : w7.cell? ⟨w.heap.size, 0, none⟩ = some (.string kd) := hg7.cell 0
    have y1 : w7.cell? ⟨w.heap.size, 1, none⟩ = some (.string sx) := hg7.cell 1
    have y2 : w7.cell? ⟨w.heap.size, 2, none⟩ = some (.int .i64 xa) := hg7.cell 2
    have y3 : w7.cell? ⟨w.heap.size, 3, none⟩ = some (.int .i64 xb) := hg7.cell 3
    have y4 : w7.cell? ⟨w.heap.size, 4, none⟩ = some (.slice A lx.length cp) := hg7.cell 4
    have HD7 := Lib.hid (HDO.out w7 (HS6.out.st.chip HS6.out.ch hf7) hc7 (HX6.out.fr hf7))
    have HR7 := Lib.hid (HR6.out.fr hf7 (fun e => HR6.out.apart HS6.out p (by simp) e.symm))
    have HAP : Hid (∀ b ∈ q :: p :: F, b ≠ m) := HR6.out.apart HS6.out
    have HV7 := Lib.hid (HV6.out.fr hf7)
    have HB7 := Lib.hid (HB6.out.trans ((hf7.below (Nat.le_trans HR6.out.ge (Nat.le_of_lt HR6.out.lt))).mono HBL.out))
    clear hc7 hf7 hg7 HAR HDO HS6 HR6 HV6 HX6 HG6 HB6
    go_wp2_with fail
    refine HD7.out.mono ?_
    rintro e w8 ⟨rfl, hc8, _, hf8⟩
    have HC8 := Lib.hid hc8
    have HRS := Lib.hid (restart_any w1.heap.size p c8 how w8 hc8)
    have HR8 := Lib.hid (HR7.out.fr hf8 (fun hm => HAP.out m hm rfl))
    have HV8 := Lib.hid (HV7.out.fr hf8)
    have HB8 := Lib.hid (HB7.out.trans ((hf8.below (Nat.le_trans HR7.out.ge (Nat.le_of_lt HR7.out.lt))).mono HBL.out))
    clear hc8 hf8 HD7 HR7 HV7 HB7 y0 y1 y2 y3 y4
    go_wp2_with fail
    refine HRS.out.mono ?_
    rintro e w9 ⟨rfl, hc9, hf9⟩
    obtain ⟨s9, hi9, hr9, ho9, _, _⟩ := HBK.out
    have HC9 := Lib.hid hc9
    have HI9 := Lib.hid hi9
    have HO9 := Lib.hid (And.intro hr9 ho9)
    have HOP := Lib.hid (open_any w1.heap.size p _ s9 w9 hc9 hi9)
    have HR9 := Lib.hid (HR8.out.fr hf9 (fun e => HAP.out p (by simp) e.symm))
    have HV9 := Lib.hid (HV8.out.fr hf9)
    have HB9 := Lib.hid (HB8.out.trans ((hf9.below (Nat.le_trans HR8.out.ge (Nat.le_of_lt HR8.out.lt))).mono HBL.out))
    clear hc9 hf9 hi9 hr9 ho9 HRS HR8 HV8 HB8 HC8 HBK
    go_wp2_with fail
    refine HOP.out.mono ?_
    rintro e w10 ⟨q2, F2, rfl, hs10, hb10, _, _⟩
    have HRO := Lib.hid (rowsI_any w1.heap.size q2 p _ s9 F2 w10 hs10 (HC9.out.below hb10) HI9.out)
    have HR10 := Lib.hid (HR9.out.below hb10)
    have HV10 := Lib.hid (HV9.out.below hb10)
    have HB10 := Lib.hid (HB9.out.trans (hb10.mono HB9.out.size))
    clear hs10 hb10 HOP HR9 HV9 HB9 HC9 HI9
    go_wp2_with fail
    refine HRO.out.mono ?_
    rintro e w11 ⟨v11, rfl, hv11, hb11⟩
    obtain ⟨⟨vr, hmb, hvr⟩, hBm⟩ := HR10.out.below hb11
    have z0 : w11.cell? ⟨m, 0, none⟩ = some vr := hmb.cell 0
    have HVR := Lib.hid hvr
    have HV11 := Lib.hid hv11
    have HVW := Lib.hid (HV10.out.below hb11)
    have HB11 := Lib.hid (HB10.out.trans (hb11.mono HB10.out.size))
    have HDR : Hid (∀ n, (w11.drewN n).cell? ⟨m, 0, none⟩ = some vr) := fun n => z0
    clear hmb hvr hv11 hb11 HRO HR10 HV10 HB10
    by_cases hn : n8 = 0
    · have he : errV n8 = .nilIface := by rw [hn]; rfl
      rw [he]
      have hq : s9.rows = s.rows := HO9.out.1 hn
      have HSA : Hid (Calls Tryz.prog 16 #[v11, vr] w11 fun e w' => e = .returned (.bool true) ∧ ∃ n, w' = w11.drewN n) := by
        refine (same_any w1.heap.size v11 vr _ _ w11 HV11.out HVR.out).mono ?_
        rintro e w' ⟨rfl, n, rfl⟩
        exact ⟨by rw [decide_eq_true hq], n, rfl⟩
      clear hn he hq
      go_wp2_with fail
      refine HSA.out.mono ?_
      rintro e w12 ⟨rfl, n, rfl⟩
      go_wp2_with fail
      go_ret
      exact ⟨rfl, below_drewN' HB11.out n⟩
    · have he : errV n8 = .iface 80 (.int .i64 n8) := if_neg hn
      rw [he]
      clear hn he
      by_cases hq : s9.rows = s.rows
      · have HSA : Hid (Calls Tryz.prog 16 #[v11, .slice A4 s.rows.length c4] w11 fun e w' => e = .returned (.bool true) ∧ ∃ n, w' = w11.drewN n) := by
          refine (same_any w1.heap.size v11 _ _ _ w11 HV11.out HVW.out).mono ?_
          rintro e w' ⟨rfl, n, rfl⟩
          exact ⟨by rw [decide_eq_true hq], n, rfl⟩
        clear hq
        go_wp2_with fail
        refine HSA.out.mono ?_
        rintro e w12 ⟨rfl, n, rfl⟩
        go_wp2_with fail
        go_ret
        exact ⟨rfl, below_drewN' HB11.out n⟩
      · have hq2 : s9.rows = s.rows := HO9.out.2.resolve_left hq
        have HSA : Hid (Calls Tryz.prog 16 #[v11, .slice A4 s.rows.length c4] w11 fun e w' => e = .returned (.bool false) ∧ ∃ n, w' = w11.drewN n) := by
          refine (same_any w1.heap.size v11 _ _ _ w11 HV11.out HVW.out).mono ?_
          rintro e w' ⟨rfl, n, rfl⟩
          exact ⟨by rw [decide_eq_false hq], n, rfl⟩
        have HSB : Hid (∀ n, Calls Tryz.prog 16 #[v11, vr] (w11.drewN n) fun e w' => e = .returned (.bool true) ∧ ∃ k, w' = (w11.drewN n).drewN k) := fun n => by
          refine (same_any w1.heap.size v11 vr _ _ _ (HV11.out.drewN n) (HVR.out.drewN n)).mono ?_
          rintro e w' ⟨rfl, k, rfl⟩
          exact ⟨by rw [decide_eq_true hq2], k, rfl⟩
        clear hq hq2 z0
        go_wp2_with fail
        refine HSA.out.mono ?_
        rintro e w12 ⟨rfl, n, rfl⟩
        have z1 := HDR.out n
        have HSC := Lib.hid (HSB.out n)
        clear HSA HSB
        go_wp2_with fail
        refine HSC.out.mono ?_
        rintro e w13 ⟨rfl, k, rfl⟩
        go_wp2_with fail
        go_ret
        exact ⟨rfl, below_drewN' HB11.out (n + k)⟩

-- CLOSING

set_option maxRecDepth 100000 in
theorem topFall_holds : Rows.TopFallSaid :=
  OpenClaim.holds_of_wide 3 Tryz.f3 rfl rfl rfl rfl rfl rfl rfl ⟨rfl, rfl, rfl, rfl, rfl⟩ rfl rfl rfl rfl rfl (by kernel_rfl) Tryz.func3 (by kernel_rfl)
    (of_decide_eq_true (by kernel_rfl)) (by unfold Func.isWrapper; first | (rw [if_pos (by decide +kernel)]; kernel_rfl) | (rw [if_neg (by decide +kernel)]; exact ⟨rfl, rfl⟩))
    (fun os started H enc _ => close_lifted Rows.topFallSpec 3 Tryz.f3 os started H enc (by kernel_rfl) Tryz.func3 (by kernel_rfl) rfl
      (fun ds hd => by
        rw [Tryz.params3] at hd
        match ds, hd with
        | [d1, d2, d3, d4], _ => rfl)
      (by kernel_rfl)
      (ChangeSpec.witness6 (enc := enc) (C := Tryz.checked) false ⟨#[], #[.slice none 0 0, .agg #[.string ByteArray.empty, .string ByteArray.empty, .int .i64 0, .int .i64 0, .slice none 0 0], .int .i64 0, .int .i64 0], []⟩ 8 (by kernel_rfl) (by kernel_rfl) (by kernel_rfl) (by kernel_rfl))
      (fun W base args ds p hval hA => by
        rw [Tryz.params3] at hA hval
        obtain ⟨v0, v1, v2, v3, d0, d1, d2, d3, p0, p1, p2, p3, hargs, rfl, rfl, h0, h1, h2, h3⟩ := trodAll_four hA
        obtain rfl : args = #[v0, v1, v2, v3] := by cases args; simp_all
        obtain ⟨l0, hl0⟩ := acts_of (hval 0 _ v0 rfl rfl) h0
        obtain ⟨l1, hl1⟩ := act_of (hval 1 _ v1 rfl rfl) h1
        obtain ⟨n2, rfl, rfl, rfl, wn2⟩ := open_int Tryz.underlying3 (hval 2 _ v2 rfl rfl) h2
        obtain ⟨n3, rfl, rfl, rfl, wn3⟩ := open_int Tryz.underlying3 (hval 3 _ v3 rfl rfl) h3
        exact (by obtain ⟨rfl, he1, hok1⟩ := hl1; exact topFall_walk v0 l0 l1.kind l1.s l1.a l1.b l1.v l1.l n2 n3 W hl0 he1 hok1)))
#print axioms topFall_holds
end Go.Proofs.YtaepdbkfaoiimacGreat
