/- TopUnseen returns true at every input, and leaves it as it was. Conditions: none. -/
import Derived.Test.YtaepdbkfaoiimabMg
import Derived.LaidEqlPtr
set_option linter.unusedVariables false
set_option linter.unusedSimpArgs false
namespace Go.Proofs.Ytaepdbkfaoiimab
open Go.ChangeShapes Go.WideShapes Go.ChangeAt Go.RowKit Go.WideMaps Go.WideElems
open Go.ChangeMaps (open_string shut_string)
attribute [local go_sem ↓] eql_err eql_nilerr neq_err neq_nilerr guard_err guard_nilerr guardn_err guardn_nilerr
theorem weak_le {l : List Act} (n : Nat) : weakN (l.take n) ≤ weakN l := by
  conv => rhs; rw [← List.take_append_drop n l]
  unfold weakN; rw [List.map_append, List.sum_append]; omega
theorem weak_all {l : List Act} {n : Nat} (h : l.length ≤ n) : l.take (n + 1) = l.take n := by
  rw [List.take_of_length_le (by omega), List.take_of_length_le h]
set_option maxRecDepth 20000 in
set_option maxHeartbeats 8000000 in
theorem topUnseen_walk (va vo : Value) (l r : List Act) (w : World) (ha : ActsR w.heap.size w va l) (hao : ActsR w.heap.size w vo r) :
    Calls Try.prog 11 #[va, vo] w fun e w' => e = .returned (.bool true) ∧ Below w.heap.size w w' := by
  have HWO := Lib.hid (works_any w)
  have HFI := Lib.hid (fun W (hW : Below w.heap.size w W) => filled_any w.heap.size va l W (acts_below ha hW) hW.size)
  have HLO := Lib.hid (fun W (hW : Below w.heap.size w W) => lightActs_any w.heap.size vo r 80 W (acts_below hao hW))
  have HKO := Lib.hid (fun W (hW : Below w.heap.size w W) => weak_any w.heap.size vo r W (acts_below hao hW))
  obtain ⟨A, cp, rfl, hc1, hc2, hcell⟩ := ha.form
  have HC := Lib.hid hcell
  have HEN := Lib.hid (fun x hx => (ha.2 x hx).1)
  obtain ⟨A2, cp2, rfl, hd1, hd2, hcell2⟩ := hao.form
  have HC2 := Lib.hid hcell2
  have HEN2 := Lib.hid (fun x hx => (hao.2 x hx).1)
  clear hcell hcell2 ha hao
  cases hg : filG l
  · have HF0 := Lib.hid (fun W hW => fil_no hg (HFI.out W hW))
    clear hg HFI
    go_enter Try.func11, Try.ntmps11
    go_wp2_with (first
      | (go_at_call 50; refine HWO.out.mono ?_; rintro e w1 ⟨rfl, hb1⟩)
      | (go_at_call 51; refine (HF0.out w1 hb1).mono ?_; rintro e w2 ⟨rfl, rfl⟩))
    go_ret
    exact ⟨rfl, hb1⟩
  have HF1 := Lib.hid (fun W hW => fil_yes hg (HFI.out W hW))
  have hl80 := filG_len hg
  clear hg HFI
  go_enter Try.func11, Try.ntmps11
  go_wp2_with (first
    | (go_at_call 50; refine HWO.out.mono ?_; rintro e w1 ⟨rfl, hb1⟩)
    | (go_at_call 51; refine (HF1.out w1 hb1).mono ?_; rintro e w2 ⟨p, q, rfl, c, s, F, hst, hrw, hFw, hpw, hb2⟩; have hb12 := hb1.trans (hb2.mono hb1.size)))
  have HS2 := Lib.hid hst
  have HR2 := Lib.hid hrw
  have HB2 := Lib.hid hb12
  have HBW : Hid (∀ W, Below w1.heap.size w1 W → Below w.heap.size w W) := Lib.hid fun W hW => hb1.trans (hW.mono hb1.size)
  have HB12 := Lib.hid hb2
  have hplt := hst.ch.lt
  have HL6 := Lib.hid (HLO.out w2 hb12)
  have HK6 := Lib.hid (HKO.out w2 hb12)
  clear hst hrw hFw hpw hb2 hb1 hb12 HWO HF1 HLO HKO
  cases hla : lightA 80 r
  · rw [hla] at HL6
    clear hla
    go_wp2_with (go_at_call 35; refine HL6.out.mono ?_; rintro e w7 ⟨rfl, rfl⟩)
    go_ret
    exact ⟨rfl, HB2.out⟩
  rw [hla] at HL6
  have hr80 : r.length ≤ 80 := by
    simp [lightA] at hla
    omega
  clear hla
  by_cases hw : weakN r ≤ 6
  case neg =>
    have t52 : decide ((6 : Int) < (weakN r : Int)) = true := decide_eq_true (by omega)
    have t53 : 6 < weakN r := by omega
    clear hw
    go_wp2_with (first
      | (go_at_call 35; refine HL6.out.mono ?_; rintro e w7 ⟨rfl, rfl⟩)
      | (go_at_call 52; refine HK6.out.mono ?_; rintro e w7 ⟨rfl, rfl⟩))
    go_ret
    exact ⟨rfl, HB2.out⟩
  have t52 : decide ((6 : Int) < (weakN r : Int)) = false := decide_eq_false (by omega)
  have t53 : ¬ 6 < weakN r := by omega
  have HST := Lib.hid (stored_any w2)
  have HW6 := Lib.hid hw
  clear hw
  go_wp2_with (first
    | (go_at_call 35; refine HL6.out.mono ?_; rintro e w7 ⟨rfl, rfl⟩)
    | (go_at_call 52; refine HK6.out.mono ?_; rintro e w7 ⟨rfl, rfl⟩))
  refine HST.out.mono ?_
  rintro e w3 ⟨p3, q3, c3, s3, F3, rfl, hst3, hrw3, hpw3, hFw3, hb3⟩
  have hpp : ¬ p = p3 := by omega
  have hcmp : (binOp .eql 62 (.pointer (some ⟨p, 0, none⟩)) (.pointer (some ⟨p3, 0, none⟩))).run Try.prog w3 = .ok (.bool false) w3 := by
    have hi : (Try.prog.info? 118).map (·.size) = some 99 := by kernel_rfl
    obtain ⟨j, hj, hjs⟩ := Option.map_eq_some_iff.1 hi
    obtain ⟨V, u, hv, _⟩ := (HS2.out.below hb3).ch
    obtain ⟨V', u', hv', _⟩ := hst3.ch
    exact run_eql_ptr_other w3 Try.underlying62 hj (by rw [hjs]; decide) (fun e => hpp (by injection e)) hv.blk hv'.blk
  go_wp2_with fail
  have HS3 := Lib.hid hst3
  have HR3 := Lib.hid hrw3
  have HB3 := Lib.hid hb3
  clear hst3 hrw3 hpw3 hFw3 hb3 HST HL6 HK6 t52 t53 hpp hcmp
  go_loopw [10, 11] (fun kv i wr => ∃ (n k a : Nat) (c3 : Chip) (s3 : SM) (F3 : List Nat), kv = .int .i64 (k : Int) ∧ i = .int .i64 (n : Int) ∧ n ≤ l.length ∧ k ≤ 80 + n ∧ a ≤ k + n ∧ Hid (StS w2.heap.size wr q3 p3 a (weakN (r.take k)) c3 s3 F3) ∧ Hid (s3.rows = (l.take n).foldl rowsA []) ∧ Hid (Below w2.heap.size w2 wr)) (fun _ i _ => l.length - (intOf i).toNat)
  case atStart => exact ⟨0, 0, 0, c3, s3, F3, rfl, rfl, Nat.zero_le _, by omega, by omega, HS3.out, HR3.out, HB3.out⟩
  case round =>
    clear HS3 HR3 HB3
    obtain ⟨n, k, a, c3, s3, F3, rfl, rfl, hn, hk80, ha, hst, hrw, hbl⟩ := hrel
    by_cases hlt : n < l.length
    · obtain ⟨x, hx, htk, _⟩ := getElem?_of_lt hlt
      obtain ⟨b, o, rfl, hb, e0, e1, e2, e3, e4⟩ := HC.out n x hx
      have hfo : (l.take (n + 1)).foldl rowsA [] = rowsA ((l.take n).foldl rowsA []) x := by rw [htk, List.foldl_append]; rfl
      have HFO := Lib.hid hfo
      have hbw := HB2.out.trans (hbl.out.mono HB2.out.size)
      have HENX := Lib.hid (HEN.out x (List.mem_of_getElem? hx))
      obtain ⟨kd, sx, xa, xb, vx, lx⟩ := x
      simp only at e0 e1 e2 e3 e4
      have d0 := (hbw.cell (p := ⟨b, o + n * 5, none⟩) hb).trans e0
      have g1 : (0 : Int) ≤ (n : Int) := by omega
      have g2 : (n : Int) < (l.length : Int) := by omega
      have HD4 : Hid (∀ W, Below w2.heap.size w2 W → W.cell? ⟨b, o + n * 5 + 4, none⟩ = some vx) := fun W hW => ((HB2.out.trans (hW.mono HB2.out.size)).cell (p := ⟨b, o + n * 5 + 4, none⟩) hb).trans e4
      clear hx htk e0 e1 e2 e3 e4 hfo hbw
      by_cases k1 : kd.toList = kWrite
      case neg =>
        have t1 := kind_ne k1
        have HRA : Hid (rowsA ((l.take n).foldl rowsA []) ⟨kd, sx, xa, xb, vx, lx⟩ = (l.take n).foldl rowsA []) := if_neg k1
        unfold kWrite at t1
        clear k1 HD4 HENX
        go_wp2_with fail
        go_roundw
        case rel => exact ⟨n + 1, k, a, c3, s3, F3, rfl, by go_num, by omega, by omega, by omega, hst, by rw [Hid, HFO.out, HRA.out]; exact hrw.out, hbl⟩
        case measure => simp [intOf] <;> omega
      have t1 := kind_eq k1
      have HRA : Hid (rowsA ((l.take n).foldl rowsA []) ⟨kd, sx, xa, xb, vx, lx⟩ = rowsW ((l.take n).foldl rowsA []) lx) := if_pos k1
      unfold kWrite at t1
      clear k1
      go_wp2_with fail
      clear d0 t1
      go_loopw [10] (fun kv wr => ∃ (k a : Nat) (c3 : Chip) (s3 : SM) (F3 : List Nat), kv = .int .i64 (k : Int) ∧ k ≤ 80 + n ∧ a ≤ k + n ∧ Hid (StS w2.heap.size wr q3 p3 a (weakN (r.take k)) c3 s3 F3) ∧ Hid (s3.rows = (l.take n).foldl rowsA []) ∧ Hid (Below w2.heap.size w2 wr)) (fun kv _ => r.length - (intOf kv).toNat)
      case atStart => exact ⟨k, a, c3, s3, F3, rfl, hk80, ha, hst, hrw, hbl⟩
      case round =>
        clear hst hrw hbl hk80 ha
        obtain ⟨k, a, c3, s3, F3, rfl, hk80, ha, hst, hrw, hbl⟩ := hrel
        have hbw := HB2.out.trans (hbl.out.mono HB2.out.size)
        have g5 : (0 : Int) ≤ (k : Int) := by omega
        by_cases hkl : k < r.length
        case neg =>
          have u60 : decide ((k : Int) < (r.length : Int)) = false := decide_eq_false (by omega)
          have d4 := HD4.out _ hbl.out
          have HWT : Hid (weakN (r.take (k + 1)) = weakN (r.take k)) := by rw [Hid, weak_all (by omega)]
          have hent := ents_up (HENX.out.below hbw) HB2.out.size
          obtain ⟨A', cp', rfl, _, _, _⟩ := hent.form
          have HWR := Lib.hid (write_st hst.out (by omega) hent)
          clear hent hbw
          go_wp2_with fail
          refine HWR.out.mono ?_
          intro e w8 hd
          obtain ⟨c8, s8, F8, rfl, hs8, hr8, hF8, hf8⟩ := hd
          have HNX : Hid (StS w2.heap.size w8 q3 p3 (a + 1) (weakN (r.take (k + 1))) c8 s8 F8 ∧ s8.rows = (l.take (n + 1)).foldl rowsA [] ∧ Below w2.heap.size w2 w8) :=
            ⟨by rw [HWT.out]; exact hs8, by rw [hr8, hrw.out, HFO.out, HRA.out], FrQ.below hbl.out (Nat.le_refl _) hf8⟩
          clear hs8 hr8 hF8 hf8 HWR d4 hst hrw hbl
          go_wp2_with fail
          go_roundw
          case rel => exact ⟨n + 1, k + 1, a + 1, c8, s8, F8, by go_num, by go_num, by omega, by omega, by omega, HNX.out⟩
          case measure => simp [intOf] <;> omega
        obtain ⟨y, hy, htk, _⟩ := getElem?_of_lt hkl
        obtain ⟨b2, o2, rfl, hb2, z0, z1, z2, z3, z4⟩ := HC2.out k y hy
        have hwt := weakN_snoc htk
        have hwl := weak_le (l := r) (k + 1)
        have HENY := Lib.hid (HEN2.out y (List.mem_of_getElem? hy))
        obtain ⟨kd2, sx2, xa2, xb2, vx2, lx2⟩ := y
        simp only at z0 z1 z2 z3 z4
        have y0 := (hbw.cell (p := ⟨b2, o2 + k * 5, none⟩) hb2).trans z0
        have y1 := (hbw.cell (p := ⟨b2, o2 + k * 5 + 1, none⟩) hb2).trans z1
        have y2 := (hbw.cell (p := ⟨b2, o2 + k * 5 + 2, none⟩) hb2).trans z2
        have y3 := (hbw.cell (p := ⟨b2, o2 + k * 5 + 3, none⟩) hb2).trans z3
        have y4 := (hbw.cell (p := ⟨b2, o2 + k * 5 + 4, none⟩) hb2).trans z4
        have g6 : (k : Int) < (r.length : Int) := by omega
        clear hy htk z0 z1 z2 z3 z4
        by_cases k2 : kd2.toList = kWrite
        case pos =>
          have t2 := kind_eq k2
          unfold kWrite at t2
          have hwa : weakA ⟨kd2, sx2, xa2, xb2, vx2, lx2⟩ = 0 := if_neg (by rw [show (⟨kd2, sx2, xa2, xb2, vx2, lx2⟩ : Act).kind.toList = kWrite from k2]; decide)
          rw [hwa, Nat.add_zero] at hwt
          have d4 := HD4.out _ hbl.out
          have hent := ents_up (HENX.out.below hbw) HB2.out.size
          obtain ⟨A', cp', rfl, _, _, _⟩ := hent.form
          have HWR := Lib.hid (write_st hst.out (by omega) hent)
          clear hent hbw k2 hwa y1 y2 y3 y4
          go_wp2_with fail
          refine HWR.out.mono ?_
          intro e w8 hd
          obtain ⟨c8, s8, F8, rfl, hs8, hr8, hF8, hf8⟩ := hd
          have HNX : Hid (StS w2.heap.size w8 q3 p3 (a + 1) (weakN (r.take (k + 1))) c8 s8 F8 ∧ s8.rows = (l.take (n + 1)).foldl rowsA [] ∧ Below w2.heap.size w2 w8) :=
            ⟨by rw [hwt]; exact hs8, by rw [hr8, hrw.out, HFO.out, HRA.out], FrQ.below hbl.out (Nat.le_refl _) hf8⟩
          clear hs8 hr8 hF8 hf8 HWR d4 hst hrw hbl y0
          go_wp2_with fail
          go_roundw
          case rel => exact ⟨n + 1, k + 1, a + 1, c8, s8, F8, by go_num, by go_num, by omega, by omega, by omega, HNX.out⟩
          case measure => simp [intOf] <;> omega
        have t2 := kind_ne k2
        unfold kWrite at t2
        have hent := ents_up (HENY.out.below hbw) HB2.out.size
        have hdo := do_any w2.heap.size q3 p3 a (weakN (r.take k)) c3 s3 F3 kd2 sx2 xa2 xb2 _ lx2 wr hst.out hent (by omega) (by rw [← hwt]; have := HW6.out; omega)
        rw [show doN s3.rows ⟨kd2, sx2, xa2, xb2, vx2, lx2⟩ = 0 from if_neg k2, show rowsA s3.rows ⟨kd2, sx2, xa2, xb2, vx2, lx2⟩ = s3.rows from if_neg k2, ← hwt] at hdo
        have HDO := Lib.hid hdo
        clear hent hbw k2 hdo
        go_wp2_with fail
        refine HDO.out.mono ?_
        rintro e w8 ⟨c8, s8, F8, rfl, hs8, hr8, hF8, hf8⟩
        have HNX : Hid (StS w2.heap.size w8 q3 p3 (a + 1) (weakN (r.take (k + 1))) c8 s8 F8 ∧ s8.rows = (l.take n).foldl rowsA [] ∧ Below w2.heap.size w2 w8) :=
          ⟨hs8, by rw [hr8, hrw.out], FrQ.below hbl.out (Nat.le_refl _) hf8⟩
        clear hs8 hr8 hF8 hf8 HDO hst hrw hbl y0 y1 y2 y3 y4
        rw [show errV 0 = Value.nilIface from rfl]
        go_wp2_with fail
        go_roundw
        case rel => exact ⟨k + 1, a + 1, c8, s8, F8, by go_num, by omega, by omega, HNX.out⟩
        case measure => simp [intOf] <;> omega
    · obtain rfl : n = l.length := by omega
      have g2 : decide ((l.length : Int) < (l.length : Int)) = false := by simp
      rw [List.take_length, ← HR2.out] at hrw
      have HRA := Lib.hid (rows_st (HS2.out.below hbl.out))
      have HST := Lib.hid hst.out
      have HRR := Lib.hid hrw.out
      have HBB : Hid (Below w1.heap.size w1 wr) := HB12.out.trans (hbl.out.mono HB12.out.size)
      clear HC HC2 HEN HEN2 hst hrw hbl
      go_wp2_with fail
      refine HRA.out.mono ?_
      rintro e w4 ⟨v4, rfl, hv4, hs4, hb4⟩
      have HR5 := Lib.hid (rows_st (HST.out.below hb4))
      have HV4 := Lib.hid hv4
      have HB4 := Lib.hid (HBB.out.trans (hb4.mono HBB.out.size))
      clear hv4 hs4 hb4 HRA HST
      go_wp2_with fail
      refine HR5.out.mono ?_
      rintro e w5 ⟨v5, rfl, hv5, hs5, hb5⟩
      rw [HRR.out] at hv5
      have HSA : Hid (Calls Try.prog 17 #[v4, v5] w5 fun e w' => e = .returned (.bool true) ∧ ∃ n, w' = w5.drewN n) := by
        refine (same_any w2.heap.size v4 v5 s.rows s.rows w5 (ents_up (HV4.out.below hb5) HB12.out.size) hv5).mono ?_
        rintro e w' ⟨rfl, n, rfl⟩
        exact ⟨by simp, n, rfl⟩
      have HB5 := Lib.hid (HB4.out.trans (hb5.mono HB4.out.size))
      clear hv5 hs5 hb5 HR5 HV4
      go_wp2_with fail
      refine HSA.out.mono ?_
      rintro e w6 ⟨rfl, n, rfl⟩
      go_wp2_with fail
      go_ret
      exact ⟨rfl, HBW.out _ (below_drewN' HB5.out n)⟩

-- CLOSING

set_option maxRecDepth 100000 in
theorem topUnseen_holds : Rows.TopUnseenSaid :=
  OpenClaim.holds_of_wide 11 Try.f11 rfl rfl rfl rfl rfl rfl rfl ⟨rfl, rfl, rfl, rfl, rfl⟩ rfl rfl rfl rfl rfl (by kernel_rfl) Try.func11 (by kernel_rfl)
    (of_decide_eq_true (by kernel_rfl)) (by unfold Func.isWrapper; first | (rw [if_pos (by decide +kernel)]; kernel_rfl) | (rw [if_neg (by decide +kernel)]; exact ⟨rfl, rfl⟩))
    (fun os started H enc _ => close_lifted Rows.topUnseenSpec 11 Try.f11 os started H enc (by kernel_rfl) Try.func11 (by kernel_rfl) rfl
      (fun ds hd => by
        rw [Try.params11] at hd
        match ds, hd with
        | [d1, d2], _ => rfl)
      (by kernel_rfl)
      (ChangeSpec.witness6 (enc := enc) (C := Try.checked) false ⟨#[], #[.slice none 0 0, .slice none 0 0], []⟩ 8 (by kernel_rfl) (by kernel_rfl) (by kernel_rfl) (by kernel_rfl))
      (fun W base args ds p hval hA => by
        rw [Try.params11] at hA hval
        obtain ⟨v0, v1, d0, d1, p0, p1, hargs, rfl, rfl, h0, h1⟩ := trodAll_two hA
        obtain rfl : args = #[v0, v1] := by cases args; simp_all
        obtain ⟨l0, hl0⟩ := acts_of (hval 0 _ v0 rfl rfl) h0
        obtain ⟨l1, hl1⟩ := acts_of (hval 1 _ v1 rfl rfl) h1
        exact topUnseen_walk v0 v1 l0 l1 W hl0 hl1))
#print axioms topUnseen_holds
end Go.Proofs.Ytaepdbkfaoiimab
