/- ChipSays returns true at every input, and leaves it as it was. Conditions: none. -/
import Derived.Test.YtaepdbkfaoiimaaRefChip
import Derived.Test.YtaepdbkfaoiimaaMg
set_option linter.unusedVariables false
set_option linter.unusedSimpArgs false
namespace Go.Proofs.Ytaepdbkfaoiimaa
open Go.ChangeShapes Go.WideShapes Go.ChangeAt Go.RowKit Go.WideMaps Go.WideElems
open Go.ChangeMaps (open_string shut_string)
attribute [local go_sem ↓] eql_err eql_nilerr neq_err neq_nilerr guard_err guard_nilerr guardn_err guardn_nilerr
theorem quiet_same {P : Program} {g : FuncId} {args : Array Value} {w : World} {k : Nat} {v : Value} (h : Calls P g args (w.drewN k) fun e w' => e = .returned v ∧ w.drewN k = w') : Calls P g args (w.drewN k) fun e w'' => e = .returned v ∧ ∃ j, w'' = w.drewN j :=
  h.mono fun _ _ ⟨h1, h2⟩ => ⟨h1, k, h2.symm⟩
set_option maxRecDepth 20000 in
set_option maxHeartbeats 4000000 in
theorem aschip_any (B p m : Nat) (c : Chip) (w : World) (hc : ChipR B w p c) (hm : RChipR B w m c) :
    Calls Try.prog 56 #[.pointer (some ⟨p, 0, none⟩), .pointer (some ⟨m, 0, none⟩)] w fun e w' => e = .returned (.bool true) ∧ ∃ n, w' = w.drewN n := by
  obtain ⟨V, h, d, hv, _, _⟩ := hm
  have HC := Lib.hid hc
  have HV := Lib.hid hv
  clear hc hv
  go_enter Try.func56, Try.ntmps56
  go_wp2_with fail
  go_loopw [5] (fun i wr => ∃ k n : Nat, k ≤ 24 ∧ i = .int .i64 (k : Int) ∧ wr = w.drewN n) (fun i _ => 24 - (intOf i).toNat)
  case atStart => exact ⟨0, 0, by omega, rfl, rfl⟩
  case round =>
    obtain ⟨k, n, hk, rfl, hwr⟩ := hrel
    have HC9 : Hid (ChipR B wr p c) := by rw [hwr]; exact HC.out.drewN n
    have HV9 : Hid (RChipV B wr m V c h d) := by rw [hwr]; exact HV.out.drewN n
    have HWR := Lib.hid hwr
    clear hwr
    by_cases hlt : k < 24
    · have g1 : (k : Int) < 24 := by omega
      have g0 : (0 : Int) ≤ (k : Int) := by omega
      have c0 := HV9.out.cell (j := k) (by omega)
      have c1 := HV9.out.cell (j := 24 + k) (by omega)
      have c3 := HV9.out.cell (j := 72 + k) (by omega)
      rw [rcell_V hlt] at c0
      rw [rcell_wear hlt] at c1
      rw [rcell_bad hlt] at c3
      obtain ⟨A0, k0, hV, _, _, _⟩ := rsheets_form (HV9.out.rows k hlt)
      rw [hV] at c0
      have hba := fun j => quiet_same (bad_any B p c (k : Int) (wr.drewN j) (HC9.out.drewN j) (by omega) (by omega))
      have hwe := fun j => quiet_same (wear_any B p c (k : Int) (wr.drewN j) (HC9.out.drewN j) (by omega) (by omega))
      have hne := fun j => quiet_same (next_any B p c (k : Int) (wr.drewN j) (HC9.out.drewN j) (by omega) (by omega))
      simp only [Int.toNat_natCast] at hba hwe hne
      have HBA := Lib.hid hba
      have HWE := Lib.hid hwe
      have HNE := Lib.hid hne
      clear hba hwe hne
      go_wp2_with fail
      go_quiet (first | exact HBA.out _ | exact HWE.out _ | exact HNE.out _)
      go_wp2_with fail
      go_roundw
      case rel => exact ⟨k + 1, n + nq, by omega, by go_num, by rw [HWR.out, World.drewN_drewN]⟩
      case measure => simp [intOf] <;> omega
    · obtain rfl : k = 24 := by omega
      have g1 : ¬ ((24 : Int) < 24) := by omega
      have c97 : wr.cell? ⟨m, 97, none⟩ = some (.bool c.down) := HV9.out.cell (j := 97) (by omega)
      have HDN := Lib.hid (fun j => quiet_same (down_any B p c (wr.drewN j) (HC9.out.drewN j)))
      go_wp2_with fail
      go_quiet (exact HDN.out _)
      go_wp2_with fail
      go_ret
      exact ⟨by simp, n + nq, by rw [HWR.out, World.drewN_drewN]⟩
theorem chips_one : ∃ c1 : Chip, Chip.new.write 3 ⟨#[120]⟩ = (c1, 0) ∧ c1.read 3 0 = (pad ⟨#[120]⟩, 0) ∧ (c1.b 3).l.length = 1 := ⟨_, rfl, rfl, rfl⟩
set_option maxRecDepth 20000 in
set_option maxHeartbeats 4000000 in
theorem chips_any (w : World) : Calls Try.prog 41 #[] w fun e w' => e = .returned (.bool true) ∧ Below w.heap.size w w' := by
  have HNEW := Lib.hid (cnew_any w.heap.size w (Nat.le_refl _))
  have HSZ : Hid (∀ W, Calls Try.prog 34 #[.nilIface, .int .i64 0] W fun d w' => d = .returned (.bool true) ∧ W = w') := fun W => same_err 0 0 W
  obtain ⟨c1, e1, e2, e3⟩ := chips_one
  have E := Lib.hid (And.intro e1 (And.intro e2 e3))
  have z1 : (pad ⟨#[120]⟩).size = 64 := pad_size (by decide)
  have z2 : ((pad ⟨#[120]⟩).extract 0 1).toList = [120] := by decide +kernel
  clear e1 e2 e3
  go_enter Try.func41, Try.ntmps41
  go_wp2_with (go_at_call 43; refine HNEW.out.mono ?_; rintro e w1 ⟨p, rfl, hp, hr1, hb1⟩)
  have hw := cwrite_any w.heap.size p Chip.new 3 ⟨#[120]⟩ w1 hr1 (by decide)
  rw [E.out.1] at hw
  have HW := Lib.hid hw
  have HB1 := Lib.hid hb1
  clear hr1 hb1 hw HNEW
  refine HW.out.mono ?_
  rintro e w2 ⟨rfl, hr2, hf2⟩
  have hrd := cread_any w.heap.size p c1 3 0 w2 hr2
  rw [E.out.2.1] at hrd
  have HRD := Lib.hid hrd
  have hnx := next_any w.heap.size p c1 3 w2 hr2 (by omega) (by omega)
  rw [show (3 : Int).toNat = 3 from rfl, E.out.2.2] at hnx
  have HNX := Lib.hid hnx
  have HB2 : Hid (Below w.heap.size w w2) := HB1.out.trans (hf2.below (by have := HB1.out.size; omega))
  clear hr2 hf2 hrd hnx HW
  generalize pad ⟨#[120]⟩ = px at *
  rw [show errV (c1, 0).2 = Value.nilIface from rfl]
  go_wp2_with fail
  refine HRD.out.mono ?_
  rintro e w3 ⟨rfl, rfl⟩
  rw [show errV ((px, 0) : ByteArray × Nat).2 = Value.nilIface from rfl]
  simp only
  go_wp2_with (first
    | (go_at_call 34; refine (HSZ.out _).mono ?_; rintro e w4 ⟨rfl, rfl⟩)
    | (go_at_call 86; refine HNX.out.mono ?_; rintro e w4 ⟨rfl, rfl⟩))
  go_ret
  exact ⟨by simp, HB2.out⟩
def kEraseL : List UInt8 := [101, 114, 97, 115, 101]
def kArmL : List UInt8 := [97, 114, 109]
def kRestL : List UInt8 := [114, 101, 115, 116, 97, 114, 116]
set_option maxRecDepth 20000 in
set_option maxHeartbeats 8000000 in
theorem chipSays_walk (va : Value) (l : List Act) (w : World) (ha : ActsR w.heap.size w va l) :
    Calls Try.prog 7 #[va] w fun e w' => e = .returned (.bool true) ∧ Below w.heap.size w w' := by
  have HSS := Lib.hid (chips_any w)
  have HLA := Lib.hid (fun W (hW : Below w.heap.size w W) => lightActs_any w.heap.size va l 100 W ⟨ha.1.keep fun k hk hlt => hW.block k hlt, fun x hx => ⟨(ha.2 x hx).1.below hW, (ha.2 x hx).2⟩⟩)
  have HSA := Lib.hid (fun n W => same_err n n W)
  obtain ⟨A, cp, rfl, hc1, hc2, hcell⟩ := ha.form
  have HC := Lib.hid hcell
  have HEN := Lib.hid (fun x hx => ha.2 x hx)
  clear hcell ha
  go_enter Try.func7, Try.ntmps7
  go_wp2_with (go_at_call 41; refine HSS.out.mono ?_; rintro e w1 ⟨rfl, hb1⟩)
  have HB1 := Lib.hid hb1
  have HLA6 := Lib.hid (HLA.out w1 hb1)
  clear HLA hb1 HSS
  cases hla : lightA 100 l
  · rw [hla] at HLA6
    clear hla
    go_wp2_with (go_at_call 42; refine HLA6.out.mono ?_; rintro e w7 ⟨rfl, rfl⟩)
    go_ret
    exact ⟨rfl, HB1.out⟩
  rw [hla] at HLA6
  clear hla
  have HCN := Lib.hid (cnew_any w.heap.size w1 HB1.out.size)
  go_wp2_with (first
    | (go_at_call 42; refine HLA6.out.mono ?_; rintro e w7 ⟨rfl, rfl⟩)
    | (go_at_call 43; refine HCN.out.mono ?_; rintro e w2 ⟨p, rfl, hp2, hr2, hb2⟩))
  have HB2 := Lib.hid (HB1.out.trans (hb2.mono HB1.out.size))
  have HRN := Lib.hid (rnew_any w.heap.size w2 HB2.out.size)
  have HC2 := Lib.hid hr2
  clear HLA6 HCN hr2 hb2 hp2
  refine HRN.out.mono ?_
  rintro e w3 ⟨m, rfl, hm3, hr3, hb3⟩
  have HC3 := Lib.hid (HC2.out.below hb3)
  have HR3 := Lib.hid hr3
  have HB3 := Lib.hid (HB2.out.trans (hb3.mono HB2.out.size))
  have HNE : Hid (¬ (p = m)) := fun e => by have := HC2.out.lt; omega
  clear hr3 hb3 hm3 HRN HC2 HB2
  go_wp2_with fail
  go_loopw [6] (fun i wr => ∃ (k : Nat) (c : Chip), i = .int .i64 (k : Int) ∧ k ≤ l.length ∧ Hid (ChipR w.heap.size wr p c) ∧ Hid (RChipR w.heap.size wr m c) ∧ Hid (Below w.heap.size w wr)) (fun i _ => l.length - (intOf i).toNat)
  case atStart => exact ⟨0, Chip.new, rfl, Nat.zero_le _, HC3.out, HR3.out, HB3.out⟩
  case round =>
    clear HC3 HR3 HB3
    obtain ⟨k, c, rfl, hk, hch, hrc, hbl⟩ := hrel
    by_cases hlt : k < l.length
    · obtain ⟨x, hx, htk, _⟩ := getElem?_of_lt hlt
      obtain ⟨b, o, rfl, hb, e0, e1, e2, e3, e4⟩ := HC.out k x hx
      obtain ⟨hen, _, hsx, _, hxa, _, _⟩ := HEN.out x (List.mem_of_getElem? hx)
      obtain ⟨kd, sx, xa, xb, vx, lx⟩ := x
      simp only at e0 e1 e2 e3 e4 hsx hxa hen
      obtain ⟨A', cp', rfl, _, _, _⟩ := hen.form
      have d0 := (hbl.out.cell (p := ⟨b, o + k * 5, none⟩) hb).trans e0
      have d1 := (hbl.out.cell (p := ⟨b, o + k * 5 + 1, none⟩) hb).trans e1
      have d2 := (hbl.out.cell (p := ⟨b, o + k * 5 + 2, none⟩) hb).trans e2
      have d3 := (hbl.out.cell (p := ⟨b, o + k * 5 + 3, none⟩) hb).trans e3
      have d4 := (hbl.out.cell (p := ⟨b, o + k * 5 + 4, none⟩) hb).trans e4
      have g1 : (0 : Int) ≤ (k : Int) := by omega
      have g2 : (k : Int) < (l.length : Int) := by omega
      clear hx htk e0 e1 e2 e3 e4 hen
      have hb20 : Below wr.heap.size wr (wr.alloc (.cells #[.string kd, .string sx, .int .i64 xa, .int .i64 xb, .slice A' lx.length cp'] 74)) := (Below.refl _ _).alloc (Nat.le_refl _) _
      have HC20 := Lib.hid (hch.out.below hb20)
      have HR20 := Lib.hid (hrc.out.below hb20)
      have HB20 : Hid (Below w.heap.size w (wr.alloc (.cells #[.string kd, .string sx, .int .i64 xa, .int .i64 xb, .slice A' lx.length cp'] 74))) := hbl.out.trans (hb20.mono hbl.out.size)
      have K20 : Hid (Blk (wr.alloc (.cells #[.string kd, .string sx, .int .i64 xa, .int .i64 xb, .slice A' lx.length cp'] 74)) wr.heap.size 74 #[.string kd, .string sx, .int .i64 xa, .int .i64 xb, .slice A' lx.length cp']) := Blk.new _ _ _
      clear hb20 hch hrc hbl
      by_cases k1 : kd.toList = kWrite
      · have t1 := kind_eq k1
        unfold kWrite at t1
        clear k1
        go_wp2_with fail
        generalize hW20 : (wr.alloc (.cells #[.string kd, .string sx, .int .i64 xa, .int .i64 xb, .slice A' lx.length cp'] 74)) = w20 at *
        generalize hga : wr.heap.size = ga at *
        clear hW20 hga d0 d1 d2 d3 d4
        have hyc : ∀ W, Blk W ga 74 #[.string kd, .string sx, .int .i64 xa, .int .i64 xb, .slice A' lx.length cp'] → W.cell? ⟨ga, 1, none⟩ = some (.string sx) ∧ W.cell? ⟨ga, 2, none⟩ = some (.int .i64 xa) := fun W h => ⟨h.cell 1, h.cell 2⟩
        have HYC := Lib.hid hyc
        clear hyc
        have HC20 := Lib.hid (HC20.out.drewN 1)
        have HR20 := Lib.hid (HR20.out.drewN 1)
        have HB20 := Lib.hid (below_drewN' HB20.out 1)
        have K20 := Lib.hid (K20.out.drewN 1)
        refine wp_region_held_drew (S := fun w' => w'.cell? ⟨ga, 1, none⟩ = some (.string sx) ∧ w'.cell? ⟨ga, 2, none⟩ = some (.int .i64 xa)) (by kernel_rfl) (HYC.out _ K20.out) (fun hHeld => ?_)
        refine wpAnyH_take (i := 0) (oi := ⟨some 38, _, _, _, _, _⟩) (v := .pointer (some ⟨p, 0, none⟩)) rfl (by kernel_rfl) (by kernel_rfl) (by kernel_rfl) (fun _ _ _ h => h) (Or.inl ⟨by rfl, ?_⟩) (by assumption) ?_
        · intro wS hSw
          (try dsimp only at hSw)
          go_simp
        simp only [Act.put, List.setIfInBounds_toArray, List.set_cons_zero, List.set_cons_succ]
        refine wpAnyH_take (i := 1) (oi := ⟨some 39, _, _, _, _, _⟩) (v := .pointer (some ⟨ga, 2, none⟩)) rfl (by kernel_rfl) (by kernel_rfl) (by kernel_rfl) (fun _ _ _ h => h) (Or.inl ⟨by rfl, ?_⟩) (by assumption) ?_
        · intro wS hSw
          (try dsimp only at hSw)
          go_simp
        simp only [Act.put, List.setIfInBounds_toArray, List.set_cons_zero, List.set_cons_succ]
        refine wpAnyH_take (i := 2) (oi := ⟨some 40, _, _, _, _, _⟩) (v := .int .i64 xa) rfl (by kernel_rfl) (by kernel_rfl) (by kernel_rfl) (fun _ _ _ h => h) (Or.inl ⟨by rfl, ?_⟩) (by assumption) ?_
        · intro wS hSw
          (try dsimp only at hSw)
          go_simp
        simp only [Act.put, List.setIfInBounds_toArray, List.set_cons_zero, List.set_cons_succ]
        refine wpAnyH_take (i := 3) (oi := ⟨some 41, _, _, _, _, _⟩) (v := .pointer (some ⟨ga, 1, none⟩)) rfl (by kernel_rfl) (by kernel_rfl) (by kernel_rfl) (fun _ _ _ h => h) (Or.inl ⟨by rfl, ?_⟩) (by assumption) ?_
        · intro wS hSw
          (try dsimp only at hSw)
          go_simp
        simp only [Act.put, List.setIfInBounds_toArray, List.set_cons_zero, List.set_cons_succ]
        refine wpAnyH_take (i := 4) (oi := ⟨some 42, _, _, _, _, _⟩) (v := .string sx) rfl (by kernel_rfl) (by kernel_rfl) (by kernel_rfl) (fun _ _ _ h => h) (Or.inl ⟨by rfl, ?_⟩) (by assumption) ?_
        · intro wS hSw
          (try dsimp only at hSw)
          go_simp
        simp only [Act.put, List.setIfInBounds_toArray, List.set_cons_zero, List.set_cons_succ]
        refine wpAnyH_take (i := 6) (oi := ⟨some 44, _, _, _, _, _⟩) (v := .pointer (some ⟨m, 0, none⟩)) rfl (by kernel_rfl) (by kernel_rfl) (by kernel_rfl) (fun _ _ _ h => h) (Or.inl ⟨by rfl, ?_⟩) (by assumption) ?_
        · intro wS hSw
          (try dsimp only at hSw)
          go_simp
        simp only [Act.put, List.setIfInBounds_toArray, List.set_cons_zero, List.set_cons_succ]
        refine wpAnyH_take (i := 7) (oi := ⟨some 45, _, _, _, _, _⟩) (v := .pointer (some ⟨ga, 2, none⟩)) rfl (by kernel_rfl) (by kernel_rfl) (by kernel_rfl) (fun _ _ _ h => h) (Or.inl ⟨by rfl, ?_⟩) (by assumption) ?_
        · intro wS hSw
          (try dsimp only at hSw)
          go_simp
        simp only [Act.put, List.setIfInBounds_toArray, List.set_cons_zero, List.set_cons_succ]
        refine wpAnyH_take (i := 8) (oi := ⟨some 46, _, _, _, _, _⟩) (v := .int .i64 xa) rfl (by kernel_rfl) (by kernel_rfl) (by kernel_rfl) (fun _ _ _ h => h) (Or.inl ⟨by rfl, ?_⟩) (by assumption) ?_
        · intro wS hSw
          (try dsimp only at hSw)
          go_simp
        simp only [Act.put, List.setIfInBounds_toArray, List.set_cons_zero, List.set_cons_succ]
        refine wpAnyH_take (i := 9) (oi := ⟨some 47, _, _, _, _, _⟩) (v := .pointer (some ⟨ga, 1, none⟩)) rfl (by kernel_rfl) (by kernel_rfl) (by kernel_rfl) (fun _ _ _ h => h) (Or.inl ⟨by rfl, ?_⟩) (by assumption) ?_
        · intro wS hSw
          (try dsimp only at hSw)
          go_simp
        simp only [Act.put, List.setIfInBounds_toArray, List.set_cons_zero, List.set_cons_succ]
        refine wpAnyH_take (i := 10) (oi := ⟨some 48, _, _, _, _, _⟩) (v := .string sx) rfl (by kernel_rfl) (by kernel_rfl) (by kernel_rfl) (fun _ _ _ h => h) (Or.inl ⟨by rfl, ?_⟩) (by assumption) ?_
        · intro wS hSw
          (try dsimp only at hSw)
          go_simp
        simp only [Act.put, List.setIfInBounds_toArray, List.set_cons_zero, List.set_cons_succ]
        refine wpAnyH_ready (rs := [5]) (by kernel_rfl) (by simp) ?_
        refine AllReadyH.cons (o := ⟨some 43, _, _, _, _, _⟩) rfl (fun K hK => ?_) AllReadyH.nil
        go_simp
        refine (cwrite_any w.heap.size p c xa sx _ HC20.out hsx).mono ?_
        rintro e w21 ⟨rfl, hc21, hf21⟩
        have k21 := K20.out.fr hf21 (.inr (.inr (by decide)))
        have HC21 := Lib.hid hc21
        have HR21 := Lib.hid (HR20.out.keep hf21 (fun e => HNE.out e.symm))
        have HB21 := Lib.hid (HB20.out.trans (hf21.below HB20.out.size))
        clear hc21 hf21
        refine hK.out _ _ ?_ (fun hHeld => ?_)
        · exact HYC.out _ k21
        clear hK K
        try simp only [Act.put, List.setIfInBounds_toArray, List.set_cons_zero, List.set_cons_succ]
        refine wpAnyH_ready (rs := [11]) (by kernel_rfl) (by simp) ?_
        refine AllReadyH.cons (o := ⟨some 49, _, _, _, _, _⟩) rfl (fun K hK => ?_) AllReadyH.nil
        go_simp
        refine (rcwrite_any w.heap.size m c xa sx w21 HR21.out hsx).mono ?_
        rintro e w22 ⟨rfl, hr22, hf22⟩
        have k22 := k21.fr hf22 (.inr (.inr (by decide)))
        have HR22 := Lib.hid hr22
        have HC22 := Lib.hid (HC21.out.keep hf22 HNE.out)
        have HB22 := Lib.hid (HB21.out.trans (hf22.below HB21.out.size))
        clear hr22 hf22
        refine hK.out _ _ ?_ (fun hHeld => ?_)
        · exact HYC.out _ k22
        clear hK K
        try simp only [Act.put, List.setIfInBounds_toArray, List.set_cons_zero, List.set_cons_succ]
        refine wpAnyH_ready (rs := [12]) (by kernel_rfl) (by simp) ?_
        refine AllReadyH.cons (o := ⟨some 50, _, _, _, _, _⟩) rfl (fun K hK => ?_) AllReadyH.nil
        go_simp
        refine (HSA.out _ w22).mono ?_
        rintro e w23 ⟨rfl, rfl⟩
        refine hK.out _ _ ?_ (fun hHeld => ?_)
        · exact HYC.out _ k22
        clear hK K
        try simp only [Act.put, List.setIfInBounds_toArray, List.set_cons_zero, List.set_cons_succ]
        refine wpAnyH_take (i := 13) (oi := ⟨some 8, _, _, _, _, _⟩) (v := .bool true) rfl (by kernel_rfl) (by kernel_rfl) (by kernel_rfl) (fun _ _ _ h => h) (Or.inl ⟨by rfl, ?_⟩) (by assumption) ?_
        · intro wS hSw
          (try dsimp only at hSw)
          go_simp
        simp only [Act.put, List.setIfInBounds_toArray, List.set_cons_zero, List.set_cons_succ]
        refine wpAnyH_done (by kernel_rfl) ?_ _
        obtain ⟨c8, hc8⟩ : ∃ c8, (c.write xa sx).1 = c8 := ⟨_, rfl⟩
        rw [hc8] at HC22 HR22
        clear hc8 HC21 HR21 HB21 k21 HC20 HR20 HB20 K20
        have HRD := Lib.hid (cread_any w.heap.size p c8 xa xb w22 HC22.out)
        have HRR := Lib.hid (rread_any w.heap.size m c8 xa xb w22 HR22.out)
        have HAS := Lib.hid (aschip_any w.heap.size p m c8 w22 HC22.out HR22.out)
        have y2 := k22.cell 2
        have y3 := k22.cell 3
        simp at y2 y3
        generalize hrd : c8.read xa xb = rd at *
        obtain ⟨rs, rn⟩ := rd
        clear hrd
        go_wp2_with fail
        refine HRD.out.mono ?_
        rintro e w31 ⟨rfl, rfl⟩
        go_wp2_with fail
        refine HRR.out.mono ?_
        rintro e w32 ⟨rfl, rfl⟩
        simp only
        go_wp2_with (first
          | (go_at_call 34; refine (HSA.out _ _).mono ?_; rintro e w33 ⟨rfl, rfl⟩)
          | (go_at_call 56; refine HAS.out.mono ?_; rintro e w34 ⟨rfl, n34, rfl⟩))
        have HNX : Hid (ChipR w.heap.size (w22.drewN n34) p c8 ∧ RChipR w.heap.size (w22.drewN n34) m c8 ∧ Below w.heap.size w (w22.drewN n34)) := ⟨HC22.out.drewN n34, HR22.out.drewN n34, below_drewN' HB22.out n34⟩
        go_roundw
        case rel => exact ⟨k + 1, c8, by go_num, by omega, HNX.out⟩
        case measure => simp [intOf] <;> omega
      have t1 := kind_ne k1
      by_cases k2 : kd.toList = kEraseL
      · have t2 := kind_eq k2
        unfold kWrite at t1
        unfold kEraseL at t2
        clear k1 k2
        go_wp2_with fail
        generalize hW20 : (wr.alloc (.cells #[.string kd, .string sx, .int .i64 xa, .int .i64 xb, .slice A' lx.length cp'] 74)) = w20 at *
        generalize hga : wr.heap.size = ga at *
        clear hW20 hga d0 d1 d2 d3 d4
        have hyc : ∀ W, Blk W ga 74 #[.string kd, .string sx, .int .i64 xa, .int .i64 xb, .slice A' lx.length cp'] → W.cell? ⟨ga, 1, none⟩ = some (.string sx) ∧ W.cell? ⟨ga, 2, none⟩ = some (.int .i64 xa) := fun W h => ⟨h.cell 1, h.cell 2⟩
        have HYC := Lib.hid hyc
        clear hyc
        have HC20 := Lib.hid (HC20.out.drewN 1)
        have HR20 := Lib.hid (HR20.out.drewN 1)
        have HB20 := Lib.hid (below_drewN' HB20.out 1)
        have K20 := Lib.hid (K20.out.drewN 1)
        refine wp_region_held_drew (S := fun w' => w'.cell? ⟨ga, 1, none⟩ = some (.string sx) ∧ w'.cell? ⟨ga, 2, none⟩ = some (.int .i64 xa)) (by kernel_rfl) (HYC.out _ K20.out) (fun hHeld => ?_)
        refine wpAnyH_take (i := 0) (oi := ⟨some 53, _, _, _, _, _⟩) (v := .pointer (some ⟨p, 0, none⟩)) rfl (by kernel_rfl) (by kernel_rfl) (by kernel_rfl) (fun _ _ _ h => h) (Or.inl ⟨by rfl, ?_⟩) (by assumption) ?_
        · intro wS hSw
          (try dsimp only at hSw)
          go_simp
        simp only [Act.put, List.setIfInBounds_toArray, List.set_cons_zero, List.set_cons_succ]
        refine wpAnyH_take (i := 1) (oi := ⟨some 54, _, _, _, _, _⟩) (v := .pointer (some ⟨ga, 2, none⟩)) rfl (by kernel_rfl) (by kernel_rfl) (by kernel_rfl) (fun _ _ _ h => h) (Or.inl ⟨by rfl, ?_⟩) (by assumption) ?_
        · intro wS hSw
          (try dsimp only at hSw)
          go_simp
        simp only [Act.put, List.setIfInBounds_toArray, List.set_cons_zero, List.set_cons_succ]
        refine wpAnyH_take (i := 2) (oi := ⟨some 55, _, _, _, _, _⟩) (v := .int .i64 xa) rfl (by kernel_rfl) (by kernel_rfl) (by kernel_rfl) (fun _ _ _ h => h) (Or.inl ⟨by rfl, ?_⟩) (by assumption) ?_
        · intro wS hSw
          (try dsimp only at hSw)
          go_simp
        simp only [Act.put, List.setIfInBounds_toArray, List.set_cons_zero, List.set_cons_succ]
        refine wpAnyH_take (i := 4) (oi := ⟨some 57, _, _, _, _, _⟩) (v := .pointer (some ⟨m, 0, none⟩)) rfl (by kernel_rfl) (by kernel_rfl) (by kernel_rfl) (fun _ _ _ h => h) (Or.inl ⟨by rfl, ?_⟩) (by assumption) ?_
        · intro wS hSw
          (try dsimp only at hSw)
          go_simp
        simp only [Act.put, List.setIfInBounds_toArray, List.set_cons_zero, List.set_cons_succ]
        refine wpAnyH_take (i := 5) (oi := ⟨some 58, _, _, _, _, _⟩) (v := .pointer (some ⟨ga, 2, none⟩)) rfl (by kernel_rfl) (by kernel_rfl) (by kernel_rfl) (fun _ _ _ h => h) (Or.inl ⟨by rfl, ?_⟩) (by assumption) ?_
        · intro wS hSw
          (try dsimp only at hSw)
          go_simp
        simp only [Act.put, List.setIfInBounds_toArray, List.set_cons_zero, List.set_cons_succ]
        refine wpAnyH_take (i := 6) (oi := ⟨some 59, _, _, _, _, _⟩) (v := .int .i64 xa) rfl (by kernel_rfl) (by kernel_rfl) (by kernel_rfl) (fun _ _ _ h => h) (Or.inl ⟨by rfl, ?_⟩) (by assumption) ?_
        · intro wS hSw
          (try dsimp only at hSw)
          go_simp
        simp only [Act.put, List.setIfInBounds_toArray, List.set_cons_zero, List.set_cons_succ]
        refine wpAnyH_ready (rs := [3]) (by kernel_rfl) (by simp) ?_
        refine AllReadyH.cons (o := ⟨some 56, _, _, _, _, _⟩) rfl (fun K hK => ?_) AllReadyH.nil
        go_simp
        refine (cerase_any w.heap.size p c xa _ HC20.out).mono ?_
        rintro e w21 ⟨rfl, hc21, hf21⟩
        have k21 := K20.out.fr hf21 (.inr (.inr (by decide)))
        have HC21 := Lib.hid hc21
        have HR21 := Lib.hid (HR20.out.keep hf21 (fun e => HNE.out e.symm))
        have HB21 := Lib.hid (HB20.out.trans (hf21.below HB20.out.size))
        clear hc21 hf21
        refine hK.out _ _ ?_ (fun hHeld => ?_)
        · exact HYC.out _ k21
        clear hK K
        try simp only [Act.put, List.setIfInBounds_toArray, List.set_cons_zero, List.set_cons_succ]
        refine wpAnyH_ready (rs := [7]) (by kernel_rfl) (by simp) ?_
        refine AllReadyH.cons (o := ⟨some 60, _, _, _, _, _⟩) rfl (fun K hK => ?_) AllReadyH.nil
        go_simp
        refine (rerase_any w.heap.size m c xa w21 HR21.out).mono ?_
        rintro e w22 ⟨rfl, hr22, hf22⟩
        have k22 := k21.fr hf22 (.inr (.inr (by decide)))
        have HR22 := Lib.hid hr22
        have HC22 := Lib.hid (HC21.out.keep hf22 HNE.out)
        have HB22 := Lib.hid (HB21.out.trans (hf22.below HB21.out.size))
        clear hr22 hf22
        refine hK.out _ _ ?_ (fun hHeld => ?_)
        · exact HYC.out _ k22
        clear hK K
        try simp only [Act.put, List.setIfInBounds_toArray, List.set_cons_zero, List.set_cons_succ]
        refine wpAnyH_ready (rs := [8]) (by kernel_rfl) (by simp) ?_
        refine AllReadyH.cons (o := ⟨some 61, _, _, _, _, _⟩) rfl (fun K hK => ?_) AllReadyH.nil
        go_simp
        refine (HSA.out _ w22).mono ?_
        rintro e w23 ⟨rfl, rfl⟩
        refine hK.out _ _ ?_ (fun hHeld => ?_)
        · exact HYC.out _ k22
        clear hK K
        try simp only [Act.put, List.setIfInBounds_toArray, List.set_cons_zero, List.set_cons_succ]
        refine wpAnyH_take (i := 9) (oi := ⟨some 8, _, _, _, _, _⟩) (v := .bool true) rfl (by kernel_rfl) (by kernel_rfl) (by kernel_rfl) (fun _ _ _ h => h) (Or.inl ⟨by rfl, ?_⟩) (by assumption) ?_
        · intro wS hSw
          (try dsimp only at hSw)
          go_simp
        simp only [Act.put, List.setIfInBounds_toArray, List.set_cons_zero, List.set_cons_succ]
        refine wpAnyH_done (by kernel_rfl) ?_ _
        obtain ⟨c8, hc8⟩ : ∃ c8, (c.erase xa).1 = c8 := ⟨_, rfl⟩
        rw [hc8] at HC22 HR22
        clear hc8 HC21 HR21 HB21 k21 HC20 HR20 HB20 K20
        have HRD := Lib.hid (cread_any w.heap.size p c8 xa xb w22 HC22.out)
        have HRR := Lib.hid (rread_any w.heap.size m c8 xa xb w22 HR22.out)
        have HAS := Lib.hid (aschip_any w.heap.size p m c8 w22 HC22.out HR22.out)
        have y2 := k22.cell 2
        have y3 := k22.cell 3
        simp at y2 y3
        generalize hrd : c8.read xa xb = rd at *
        obtain ⟨rs, rn⟩ := rd
        clear hrd
        go_wp2_with fail
        refine HRD.out.mono ?_
        rintro e w31 ⟨rfl, rfl⟩
        go_wp2_with fail
        refine HRR.out.mono ?_
        rintro e w32 ⟨rfl, rfl⟩
        simp only
        go_wp2_with (first
          | (go_at_call 34; refine (HSA.out _ _).mono ?_; rintro e w33 ⟨rfl, rfl⟩)
          | (go_at_call 56; refine HAS.out.mono ?_; rintro e w34 ⟨rfl, n34, rfl⟩))
        have HNX : Hid (ChipR w.heap.size (w22.drewN n34) p c8 ∧ RChipR w.heap.size (w22.drewN n34) m c8 ∧ Below w.heap.size w (w22.drewN n34)) := ⟨HC22.out.drewN n34, HR22.out.drewN n34, below_drewN' HB22.out n34⟩
        go_roundw
        case rel => exact ⟨k + 1, c8, by go_num, by omega, HNX.out⟩
        case measure => simp [intOf] <;> omega
      have t2 := kind_ne k2
      by_cases k3 : kd.toList = kWeaken
      · have t3 := kind_eq k3
        unfold kWrite at t1
        unfold kEraseL at t2
        unfold kWeaken at t3
        clear k1 k2 k3
        go_wp2_with fail
        generalize hW20 : (wr.alloc (.cells #[.string kd, .string sx, .int .i64 xa, .int .i64 xb, .slice A' lx.length cp'] 74)) = w20 at *
        generalize hga : wr.heap.size = ga at *
        clear hW20 hga d0 d1 d2 d3 d4
        have hyc : ∀ W, Blk W ga 74 #[.string kd, .string sx, .int .i64 xa, .int .i64 xb, .slice A' lx.length cp'] → W.cell? ⟨ga, 1, none⟩ = some (.string sx) ∧ W.cell? ⟨ga, 2, none⟩ = some (.int .i64 xa) := fun W h => ⟨h.cell 1, h.cell 2⟩
        have HYC := Lib.hid hyc
        clear hyc
        have HC20 := Lib.hid (HC20.out.drewN 1)
        have HR20 := Lib.hid (HR20.out.drewN 1)
        have HB20 := Lib.hid (below_drewN' HB20.out 1)
        have K20 := Lib.hid (K20.out.drewN 1)
        refine wp_region_held_drew (S := fun w' => w'.cell? ⟨ga, 1, none⟩ = some (.string sx) ∧ w'.cell? ⟨ga, 2, none⟩ = some (.int .i64 xa)) (by kernel_rfl) (HYC.out _ K20.out) (fun hHeld => ?_)
        refine wpAnyH_take (i := 0) (oi := ⟨some 64, _, _, _, _, _⟩) (v := .pointer (some ⟨p, 0, none⟩)) rfl (by kernel_rfl) (by kernel_rfl) (by kernel_rfl) (fun _ _ _ h => h) (Or.inl ⟨by rfl, ?_⟩) (by assumption) ?_
        · intro wS hSw
          (try dsimp only at hSw)
          go_simp
        simp only [Act.put, List.setIfInBounds_toArray, List.set_cons_zero, List.set_cons_succ]
        refine wpAnyH_take (i := 1) (oi := ⟨some 65, _, _, _, _, _⟩) (v := .pointer (some ⟨ga, 2, none⟩)) rfl (by kernel_rfl) (by kernel_rfl) (by kernel_rfl) (fun _ _ _ h => h) (Or.inl ⟨by rfl, ?_⟩) (by assumption) ?_
        · intro wS hSw
          (try dsimp only at hSw)
          go_simp
        simp only [Act.put, List.setIfInBounds_toArray, List.set_cons_zero, List.set_cons_succ]
        refine wpAnyH_take (i := 2) (oi := ⟨some 66, _, _, _, _, _⟩) (v := .int .i64 xa) rfl (by kernel_rfl) (by kernel_rfl) (by kernel_rfl) (fun _ _ _ h => h) (Or.inl ⟨by rfl, ?_⟩) (by assumption) ?_
        · intro wS hSw
          (try dsimp only at hSw)
          go_simp
        simp only [Act.put, List.setIfInBounds_toArray, List.set_cons_zero, List.set_cons_succ]
        refine wpAnyH_take (i := 4) (oi := ⟨some 68, _, _, _, _, _⟩) (v := .pointer (some ⟨m, 0, none⟩)) rfl (by kernel_rfl) (by kernel_rfl) (by kernel_rfl) (fun _ _ _ h => h) (Or.inl ⟨by rfl, ?_⟩) (by assumption) ?_
        · intro wS hSw
          (try dsimp only at hSw)
          go_simp
        simp only [Act.put, List.setIfInBounds_toArray, List.set_cons_zero, List.set_cons_succ]
        refine wpAnyH_take (i := 5) (oi := ⟨some 69, _, _, _, _, _⟩) (v := .pointer (some ⟨ga, 2, none⟩)) rfl (by kernel_rfl) (by kernel_rfl) (by kernel_rfl) (fun _ _ _ h => h) (Or.inl ⟨by rfl, ?_⟩) (by assumption) ?_
        · intro wS hSw
          (try dsimp only at hSw)
          go_simp
        simp only [Act.put, List.setIfInBounds_toArray, List.set_cons_zero, List.set_cons_succ]
        refine wpAnyH_take (i := 6) (oi := ⟨some 70, _, _, _, _, _⟩) (v := .int .i64 xa) rfl (by kernel_rfl) (by kernel_rfl) (by kernel_rfl) (fun _ _ _ h => h) (Or.inl ⟨by rfl, ?_⟩) (by assumption) ?_
        · intro wS hSw
          (try dsimp only at hSw)
          go_simp
        simp only [Act.put, List.setIfInBounds_toArray, List.set_cons_zero, List.set_cons_succ]
        refine wpAnyH_ready (rs := [3]) (by kernel_rfl) (by simp) ?_
        refine AllReadyH.cons (o := ⟨some 67, _, _, _, _, _⟩) rfl (fun K hK => ?_) AllReadyH.nil
        go_simp
        refine (weaken_any w.heap.size p c xa _ HC20.out).mono ?_
        rintro e w21 ⟨rfl, hc21, hf21⟩
        have k21 := K20.out.fr hf21 (.inr (.inr (by decide)))
        have HC21 := Lib.hid hc21
        have HR21 := Lib.hid (HR20.out.keep hf21 (fun e => HNE.out e.symm))
        have HB21 := Lib.hid (HB20.out.trans (hf21.below HB20.out.size))
        clear hc21 hf21
        refine hK.out _ _ ?_ (fun hHeld => ?_)
        · exact HYC.out _ k21
        clear hK K
        try simp only [Act.put, List.setIfInBounds_toArray, List.set_cons_zero, List.set_cons_succ]
        refine wpAnyH_ready (rs := [7]) (by kernel_rfl) (by simp) ?_
        refine AllReadyH.cons (o := ⟨some 71, _, _, _, _, _⟩) rfl (fun K hK => ?_) AllReadyH.nil
        go_simp
        refine (rweaken_any w.heap.size m c xa w21 HR21.out).mono ?_
        rintro e w22 ⟨rfl, hr22, hf22⟩
        have k22 := k21.fr hf22 (.inr (.inr (by decide)))
        have HR22 := Lib.hid hr22
        have HC22 := Lib.hid (HC21.out.keep hf22 HNE.out)
        have HB22 := Lib.hid (HB21.out.trans (hf22.below HB21.out.size))
        clear hr22 hf22
        refine hK.out _ _ ?_ (fun hHeld => ?_)
        · exact HYC.out _ k22
        clear hK K
        try simp only [Act.put, List.setIfInBounds_toArray, List.set_cons_zero, List.set_cons_succ]
        refine wpAnyH_ready (rs := [8]) (by kernel_rfl) (by simp) ?_
        refine AllReadyH.cons (o := ⟨some 72, _, _, _, _, _⟩) rfl (fun K hK => ?_) AllReadyH.nil
        go_simp
        refine (HSA.out _ w22).mono ?_
        rintro e w23 ⟨rfl, rfl⟩
        refine hK.out _ _ ?_ (fun hHeld => ?_)
        · exact HYC.out _ k22
        clear hK K
        try simp only [Act.put, List.setIfInBounds_toArray, List.set_cons_zero, List.set_cons_succ]
        refine wpAnyH_take (i := 9) (oi := ⟨some 8, _, _, _, _, _⟩) (v := .bool true) rfl (by kernel_rfl) (by kernel_rfl) (by kernel_rfl) (fun _ _ _ h => h) (Or.inl ⟨by rfl, ?_⟩) (by assumption) ?_
        · intro wS hSw
          (try dsimp only at hSw)
          go_simp
        simp only [Act.put, List.setIfInBounds_toArray, List.set_cons_zero, List.set_cons_succ]
        refine wpAnyH_done (by kernel_rfl) ?_ _
        obtain ⟨c8, hc8⟩ : ∃ c8, (c.weaken xa).1 = c8 := ⟨_, rfl⟩
        rw [hc8] at HC22 HR22
        clear hc8 HC21 HR21 HB21 k21 HC20 HR20 HB20 K20
        have HRD := Lib.hid (cread_any w.heap.size p c8 xa xb w22 HC22.out)
        have HRR := Lib.hid (rread_any w.heap.size m c8 xa xb w22 HR22.out)
        have HAS := Lib.hid (aschip_any w.heap.size p m c8 w22 HC22.out HR22.out)
        have y2 := k22.cell 2
        have y3 := k22.cell 3
        simp at y2 y3
        generalize hrd : c8.read xa xb = rd at *
        obtain ⟨rs, rn⟩ := rd
        clear hrd
        go_wp2_with fail
        refine HRD.out.mono ?_
        rintro e w31 ⟨rfl, rfl⟩
        go_wp2_with fail
        refine HRR.out.mono ?_
        rintro e w32 ⟨rfl, rfl⟩
        simp only
        go_wp2_with (first
          | (go_at_call 34; refine (HSA.out _ _).mono ?_; rintro e w33 ⟨rfl, rfl⟩)
          | (go_at_call 56; refine HAS.out.mono ?_; rintro e w34 ⟨rfl, n34, rfl⟩))
        have HNX : Hid (ChipR w.heap.size (w22.drewN n34) p c8 ∧ RChipR w.heap.size (w22.drewN n34) m c8 ∧ Below w.heap.size w (w22.drewN n34)) := ⟨HC22.out.drewN n34, HR22.out.drewN n34, below_drewN' HB22.out n34⟩
        go_roundw
        case rel => exact ⟨k + 1, c8, by go_num, by omega, HNX.out⟩
        case measure => simp [intOf] <;> omega
      have t3 := kind_ne k3
      by_cases k4 : kd.toList = kArmL
      · have t4 := kind_eq k4
        unfold kWrite at t1
        unfold kEraseL at t2
        unfold kWeaken at t3
        unfold kArmL at t4
        clear k1 k2 k3 k4
        have HAR := Lib.hid (arm_any w.heap.size p c xa _ HC20.out hxa)
        go_wp2_with fail
        generalize hW20 : (wr.alloc (.cells #[.string kd, .string sx, .int .i64 xa, .int .i64 xb, .slice A' lx.length cp'] 74)) = w20 at *
        generalize hga : wr.heap.size = ga at *
        clear hW20 hga d0 d1 d2 d3 d4
        refine HAR.out.mono ?_
        rintro e w21 ⟨rfl, hc21, hf21⟩
        have k21 := K20.out.fr hf21 (.inr (.inr (by decide)))
        obtain ⟨V, h, d, hv, hu, hwf⟩ := HR20.out.keep hf21 (fun e => HNE.out e.symm)
        have HC21 := Lib.hid hc21
        have HB21 := Lib.hid (HB20.out.trans (hf21.below HB20.out.size))
        have y2 := k21.cell 2
        have y3 := k21.cell 3
        simp at y2 y3
        have y96 : w21.cell? ⟨m, 96, none⟩ = some (.int .i64 c.fuse) := hv.cell (j := 96) (by omega)
        have f96 := hv.blk.frozen 96
        have HV21 := Lib.hid hv
        have HU21 := Lib.hid hu
        have HW21 := Lib.hid (hwf.arm_ hxa)
        have K21 := Lib.hid k21
        clear hc21 hf21 hv hu hwf k21 HAR HC20 HR20 HB20 K20
        obtain ⟨mx, hmx⟩ : ∃ mx : Int, max xa (-1) = mx := ⟨_, rfl⟩
        have HMX := Lib.hid hmx
        go_wp2_with fail
        have hv22 := HV21.out.setFuse mx
        have HR22 : Hid (RChipR w.heap.size (w21.setCell ⟨m, 96, none⟩ (.int .i64 mx)) m (c.arm xa)) := ⟨V, h, d, by unfold Chip.arm; rw [HMX.out]; exact hv22, HU21.out, HW21.out⟩
        have hf22 : Fr w.heap.size (· = m) w21 (w21.setCell ⟨m, 96, none⟩ (.int .i64 mx)) := rfr (Fr.refl _ _ _) HV21.out _ _ HV21.out.mut
        have HC22 := Lib.hid (HC21.out.keep hf22 HNE.out)
        have k22 := K21.out.fr hf22 (.inr (.inr (by decide)))
        have HB22 := Lib.hid (HB21.out.trans (hf22.below HB21.out.size))
        clear hv22 hf22 HV21 HU21 HW21 HC21 HB21 K21 y2 y3 y96 f96
        generalize w21.setCell ⟨m, 96, none⟩ (.int .i64 mx) = w22 at *
        generalize c.arm xa = c8 at *
        have HRD := Lib.hid (cread_any w.heap.size p c8 xa xb w22 HC22.out)
        have HRR := Lib.hid (rread_any w.heap.size m c8 xa xb w22 HR22.out)
        have HAS := Lib.hid (aschip_any w.heap.size p m c8 w22 HC22.out HR22.out)
        have y2 := k22.cell 2
        have y3 := k22.cell 3
        simp at y2 y3
        generalize hrd : c8.read xa xb = rd at *
        obtain ⟨rs, rn⟩ := rd
        clear hrd
        refine HRD.out.mono ?_
        rintro e w31 ⟨rfl, rfl⟩
        go_wp2_with fail
        refine HRR.out.mono ?_
        rintro e w32 ⟨rfl, rfl⟩
        simp only
        go_wp2_with (first
          | (go_at_call 34; refine (HSA.out _ _).mono ?_; rintro e w33 ⟨rfl, rfl⟩)
          | (go_at_call 56; refine HAS.out.mono ?_; rintro e w34 ⟨rfl, n34, rfl⟩))
        have HNX : Hid (ChipR w.heap.size (w22.drewN n34) p c8 ∧ RChipR w.heap.size (w22.drewN n34) m c8 ∧ Below w.heap.size w (w22.drewN n34)) := ⟨HC22.out.drewN n34, HR22.out.drewN n34, below_drewN' HB22.out n34⟩
        go_roundw
        case rel => exact ⟨k + 1, c8, by go_num, by omega, HNX.out⟩
        case measure => simp [intOf] <;> omega
      have t4 := kind_ne k4
      by_cases k5 : kd.toList = kRestL
      · have t5 := kind_eq k5
        unfold kWrite at t1
        unfold kEraseL at t2
        unfold kWeaken at t3
        unfold kArmL at t4
        unfold kRestL at t5
        clear k1 k2 k3 k4 k5
        have HRS := Lib.hid (restart_any w.heap.size p c xa _ HC20.out)
        go_wp2_with fail
        generalize hW20 : (wr.alloc (.cells #[.string kd, .string sx, .int .i64 xa, .int .i64 xb, .slice A' lx.length cp'] 74)) = w20 at *
        generalize hga : wr.heap.size = ga at *
        clear hW20 hga d0 d1 d2 d3 d4
        refine HRS.out.mono ?_
        rintro e w21 ⟨rfl, hc21, hf21⟩
        have k21 := K20.out.fr hf21 (.inr (.inr (by decide)))
        have HC21 := Lib.hid hc21
        have HB21 := Lib.hid (HB20.out.trans (hf21.below HB20.out.size))
        have HRR0 := Lib.hid (rrestart_any w.heap.size m c xa w21 (HR20.out.keep hf21 (fun e => HNE.out e.symm)))
        have y2 := k21.cell 2
        simp at y2
        clear hc21 hf21 HRS HC20 HR20 HB20 K20
        go_wp2_with fail
        refine HRR0.out.mono ?_
        rintro e w22 ⟨rfl, hr22, hf22⟩
        have k22 := k21.fr hf22 (.inr (.inr (by decide)))
        have HR22 := Lib.hid hr22
        have HC22 := Lib.hid (HC21.out.keep hf22 HNE.out)
        have HB22 := Lib.hid (HB21.out.trans (hf22.below HB21.out.size))
        clear hr22 hf22 HC21 HB21 HRR0 y2 k21
        generalize c.restart xa = c8 at *
        have HRD := Lib.hid (cread_any w.heap.size p c8 xa xb w22 HC22.out)
        have HRR := Lib.hid (rread_any w.heap.size m c8 xa xb w22 HR22.out)
        have HAS := Lib.hid (aschip_any w.heap.size p m c8 w22 HC22.out HR22.out)
        have y2 := k22.cell 2
        have y3 := k22.cell 3
        simp at y2 y3
        generalize hrd : c8.read xa xb = rd at *
        obtain ⟨rs, rn⟩ := rd
        clear hrd
        go_wp2_with fail
        refine HRD.out.mono ?_
        rintro e w31 ⟨rfl, rfl⟩
        go_wp2_with fail
        refine HRR.out.mono ?_
        rintro e w32 ⟨rfl, rfl⟩
        simp only
        go_wp2_with (first
          | (go_at_call 34; refine (HSA.out _ _).mono ?_; rintro e w33 ⟨rfl, rfl⟩)
          | (go_at_call 56; refine HAS.out.mono ?_; rintro e w34 ⟨rfl, n34, rfl⟩))
        have HNX : Hid (ChipR w.heap.size (w22.drewN n34) p c8 ∧ RChipR w.heap.size (w22.drewN n34) m c8 ∧ Below w.heap.size w (w22.drewN n34)) := ⟨HC22.out.drewN n34, HR22.out.drewN n34, below_drewN' HB22.out n34⟩
        go_roundw
        case rel => exact ⟨k + 1, c8, by go_num, by omega, HNX.out⟩
        case measure => simp [intOf] <;> omega
      have t5 := kind_ne k5
      unfold kWrite at t1
      unfold kEraseL at t2
      unfold kWeaken at t3
      unfold kArmL at t4
      unfold kRestL at t5
      clear k1 k2 k3 k4 k5
      go_wp2_with fail
      generalize hW20 : (wr.alloc (.cells #[.string kd, .string sx, .int .i64 xa, .int .i64 xb, .slice A' lx.length cp'] 74)) = w20 at *
      generalize hga : wr.heap.size = ga at *
      clear hW20 hga d0 d1 d2 d3 d4
      have k20 := K20.out
      have HRD := Lib.hid (cread_any w.heap.size p c xa xb w20 HC20.out)
      have HRR := Lib.hid (rread_any w.heap.size m c xa xb w20 HR20.out)
      have HAS := Lib.hid (aschip_any w.heap.size p m c w20 HC20.out HR20.out)
      have y2 := k20.cell 2
      have y3 := k20.cell 3
      simp at y2 y3
      generalize hrd : c.read xa xb = rd at *
      obtain ⟨rs, rn⟩ := rd
      clear hrd
      go_wp2_with fail
      refine HRD.out.mono ?_
      rintro e w31 ⟨rfl, rfl⟩
      go_wp2_with fail
      refine HRR.out.mono ?_
      rintro e w32 ⟨rfl, rfl⟩
      simp only
      go_wp2_with (first
        | (go_at_call 34; refine (HSA.out _ _).mono ?_; rintro e w33 ⟨rfl, rfl⟩)
        | (go_at_call 56; refine HAS.out.mono ?_; rintro e w34 ⟨rfl, n34, rfl⟩))
      have HNX : Hid (ChipR w.heap.size (w20.drewN n34) p c ∧ RChipR w.heap.size (w20.drewN n34) m c ∧ Below w.heap.size w (w20.drewN n34)) := ⟨HC20.out.drewN n34, HR20.out.drewN n34, below_drewN' HB20.out n34⟩
      go_roundw
      case rel => exact ⟨k + 1, c, by go_num, by omega, HNX.out⟩
      case measure => simp [intOf] <;> omega
    · obtain rfl : k = l.length := by omega
      have g2 : decide ((l.length : Int) < (l.length : Int)) = false := by simp
      clear hch hrc
      go_wp2_with fail
      go_ret
      exact ⟨rfl, hbl.out⟩

-- CLOSING

set_option maxRecDepth 100000 in
theorem chipSays_holds : Rows.ChipSaysSaid :=
  OpenClaim.holds_of_wide 7 Try.f7 rfl rfl rfl rfl rfl rfl rfl ⟨rfl, rfl, rfl, rfl, rfl⟩ rfl rfl rfl rfl rfl (by kernel_rfl) Try.func7 (by kernel_rfl)
    (of_decide_eq_true (by kernel_rfl)) (by unfold Func.isWrapper; first | (rw [if_pos (by decide +kernel)]; kernel_rfl) | (rw [if_neg (by decide +kernel)]; exact ⟨rfl, rfl⟩))
    (fun os started H enc _ => close_lifted Rows.chipSaysSpec 7 Try.f7 os started H enc (by kernel_rfl) Try.func7 (by kernel_rfl) rfl
      (fun ds hd => by
        rw [Try.params7] at hd
        match ds, hd with
        | [d1], _ => rfl)
      (by kernel_rfl)
      (ChangeSpec.witness6 (enc := enc) (C := Try.checked) false ⟨#[], #[.slice none 0 0], []⟩ 8 (by kernel_rfl) (by kernel_rfl) (by kernel_rfl) (by kernel_rfl))
      (fun W base args ds p hval hA => by
        rw [Try.params7] at hA hval
        obtain ⟨v0, d0, hargs, rfl, h0⟩ := trodAll_one hA
        obtain rfl : args = #[v0] := by cases args; simp_all
        obtain ⟨l0, hl0⟩ := acts_of (hval 0 _ v0 rfl rfl) h0
        exact chipSays_walk v0 l0 W hl0))
#print axioms chipSays_holds
end Go.Proofs.Ytaepdbkfaoiimaa
