/- ScanSays returns true at every input, and leaves it as it was. Conditions: none. -/
import Derived.Test.YtaepdbkfaoiimaaScan
import Derived.Test.YtaepdbkfaoiimaaRefSto
import Derived.Test.YtaepdbkfaoiimaaStoU
set_option linter.unusedVariables false
set_option linter.unusedSimpArgs false
namespace Go.Proofs.Ytaepdbkfaoiimaa
open Go.ChangeShapes Go.WideShapes Go.ChangeAt Go.RowKit Go.WideMaps Go.WideElems
open Go.ChangeMaps (open_string shut_string)
attribute [local go_sem ↓] eql_err eql_nilerr neq_err neq_nilerr guard_err guard_nilerr guardn_err guardn_nilerr
theorem kx_page : pageM [eKX] ⟨#[]⟩ (5 : Int).toNat = [eKX] := by decide +kernel
theorem rowsW_len {r l : List Ent} (h : r.length ≤ 40) : (rowsW r l).length ≤ 40 := by
  unfold rowsW
  split
  · rename_i h0
    unfold checkR at h0
    split at h0
    · cases h0
    · split at h0
      · rename_i h1; exact absurd h0 h1
      · split at h0
        · cases h0
        · omega
  · exact h
set_option maxRecDepth 20000 in
set_option maxHeartbeats 8000000 in
theorem scanSays_walk (va : Value) (l : List Act) (lo hi : ByteArray) (many : Int) (w : World) (ha : ActsR w.heap.size w va l) (hlo : lo.size ≤ 9223372036854775807) (hhi : hi.size ≤ 9223372036854775807) :
    Calls Try.prog 9 #[va, .string lo, .string hi, .int .i64 many] w fun e w' => e = .returned (.bool true) ∧ Below w.heap.size w w' := by
  have HST := Lib.hid (stored_any w)
  have HLA := Lib.hid (fun W (hW : Below w.heap.size w W) => lightActs_any w.heap.size va l 40 W (acts_below ha hW))
  have HWK := Lib.hid (fun W (hW : Below w.heap.size w W) => weak_any w.heap.size va l W (acts_below ha hW))
  obtain ⟨A, cp, rfl, hc1, hc2, hcell⟩ := ha.form
  have HC := Lib.hid hcell
  have HEN := Lib.hid (fun x hx => (ha.2 x hx).1)
  clear hcell ha
  go_enter Try.func9, Try.ntmps9
  go_wp2_with (go_at_call 68; refine HST.out.mono ?_; rintro e w3 ⟨p, q, c, s, F, rfl, hst, hrw, hpw, hFw, hb3⟩)
  have hb4 : Below w3.heap.size w3 (w3.alloc (.cells #[.string ⟨#[107]⟩, .string ⟨#[120]⟩, .bool false] 35)) := (Below.refl _ _).alloc (Nat.le_refl _) _
  have HW := Lib.hid (write_st (hst.below hb4) (by omega) (kx_ents w.heap.size w3))
  rw [hrw, kx_check, kx_rows] at HW
  have HB4 : Hid (Below w.heap.size w (w3.alloc (.cells #[.string ⟨#[107]⟩, .string ⟨#[120]⟩, .bool false] 35))) := hb3.trans (hb4.mono hb3.size)
  clear hst hrw hFw hb3 hb4 HST
  refine HW.out.mono ?_
  intro e w5 hd
  obtain ⟨c5, s5, F5, rfl, hs5, hr5, hb5⟩ := hd.st HB4.out (Nat.le_refl _)
  have HS5 := Lib.hid hs5
  have HR5 := Lib.hid hr5
  have HB5 := Lib.hid hb5
  have HPG := Lib.hid (spage_any w.heap.size q p _ _ c5 s5 F5 ⟨#[]⟩ 5 w5 hs5)
  rw [hr5, kx_page] at HPG
  clear hd hs5 hr5 hb5 HW HB4
  rw [show errV 0 = Value.nilIface from rfl]
  go_wp2_with fail
  refine HPG.out.mono ?_
  rintro e w6 ⟨v6, rfl, hv6, hb6⟩
  obtain ⟨A6, c6, rfl, _, _, kX⟩ := hv6.form
  have HS6 := Lib.hid (HS5.out.below hb6)
  have HB6 := Lib.hid (HB5.out.trans (hb6.mono HB5.out.size))
  have HV6 : Hid (Ents w.heap.size w6 (.slice A6 1 c6) [eKX]) := hv6
  rw [show [eKX].length = 1 from rfl]
  clear hv6 hb6 kX HPG HS5 HB5
  have HLA6 := Lib.hid (HLA.out w6 HB6.out)
  have HWK6 := Lib.hid (HWK.out w6 HB6.out)
  clear HLA HWK
  cases hla : lightA 40 l
  · rw [hla] at HLA6
    clear hla
    go_wp2_with (go_at_call 42; refine HLA6.out.mono ?_; rintro e w7 ⟨rfl, rfl⟩)
    go_ret
    exact ⟨rfl, HB6.out⟩
  rw [hla] at HLA6
  have hl40 : l.length ≤ 40 := by
    simp [lightA] at hla
    omega
  have hlen : ∀ W : World, True := fun _ => trivial
  clear hla hlen
  by_cases hw : weakN l ≤ 6
  case neg =>
    have t52 : decide ((6 : Int) < (weakN l : Int)) = true := decide_eq_true (by omega)
    clear hw
    go_wp2_with (first
      | (go_at_call 42; refine HLA6.out.mono ?_; rintro e w7 ⟨rfl, rfl⟩)
      | (go_at_call 71; refine HWK6.out.mono ?_; rintro e w7 ⟨rfl, rfl⟩))
    go_ret
    exact ⟨rfl, HB6.out⟩
  have t52 : decide ((6 : Int) < (weakN l : Int)) = false := decide_eq_false (by omega)
  clear hw
  by_cases h1 : lo.size ≤ 20
  case neg =>
    have t57 : decide ((20 : Int) < (lo.size : Int)) = true := decide_eq_true (by omega)
    clear h1
    go_wp2_with (first
      | (go_at_call 42; refine HLA6.out.mono ?_; rintro e w7 ⟨rfl, rfl⟩)
      | (go_at_call 71; refine HWK6.out.mono ?_; rintro e w7 ⟨rfl, rfl⟩))
    go_ret
    exact ⟨rfl, HB6.out⟩
  have t57 : decide ((20 : Int) < (lo.size : Int)) = false := decide_eq_false (by omega)
  by_cases h2 : hi.size ≤ 20
  case neg =>
    have t62 : decide ((20 : Int) < (hi.size : Int)) = true := decide_eq_true (by omega)
    clear h1 h2
    go_wp2_with (first
      | (go_at_call 42; refine HLA6.out.mono ?_; rintro e w7 ⟨rfl, rfl⟩)
      | (go_at_call 71; refine HWK6.out.mono ?_; rintro e w7 ⟨rfl, rfl⟩))
    go_ret
    exact ⟨rfl, HB6.out⟩
  have t62 : decide ((20 : Int) < (hi.size : Int)) = false := decide_eq_false (by omega)
  clear h1 h2
  go_wp2_with (first
    | (go_at_call 42; refine HLA6.out.mono ?_; rintro e w7 ⟨rfl, rfl⟩)
    | (go_at_call 71; refine HWK6.out.mono ?_; rintro e w7 ⟨rfl, rfl⟩))
  have HRS0 : Hid (RS w.heap.size (w6.alloc (.cells #[.slice A6 1 c6] 116)) w6.heap.size [eKX]) := RS.new HV6.out HB6.out.size
  have hb7 : Below w6.heap.size w6 (w6.alloc (.cells #[.slice A6 1 c6] 116)) := (Below.refl _ _).alloc (Nat.le_refl _) _
  have HS7 := Lib.hid (HS6.out.below hb7)
  have HB7 : Hid (Below w.heap.size w (w6.alloc (.cells #[.slice A6 1 c6] 116))) := HB6.out.trans (hb7.mono HB6.out.size)
  generalize w6.alloc (.cells #[.slice A6 1 c6] 116) = w7 at *
  generalize w6.heap.size = m at *
  clear hb7 HS6 HV6 HLA6 HWK6 t52 t57 t62
  go_loopw [15] (fun i wr => ∃ (k : Nat) (c : Chip) (s : SM) (F : List Nat), i = .int .i64 (k : Int) ∧ k ≤ l.length ∧ Hid (StS w.heap.size wr q p (k + 1) 0 c s F) ∧ Hid (RS w.heap.size wr m s.rows) ∧ Hid (Below w.heap.size w wr)) (fun i _ => l.length - (intOf i).toNat)
  case atStart => exact ⟨0, c5, s5, F5, rfl, Nat.zero_le _, HS7.out, by rw [HR5.out]; exact HRS0.out, HB7.out⟩
  case round =>
    obtain ⟨k, c, s, F, rfl, hk, hst, hrs, hbl⟩ := hrel
    by_cases hlt : k < l.length
    · obtain ⟨x, hx, htk, _⟩ := getElem?_of_lt hlt
      obtain ⟨b, o, rfl, hb, e0, e1, e2, e3, e4⟩ := HC.out k x hx
      have hen := (HEN.out x (List.mem_of_getElem? hx)).below hbl.out
      obtain ⟨kd, sx, xa, xb, vx, lx⟩ := x
      simp only at e0 e1 e2 e3 e4 hen
      obtain ⟨A', cp', rfl, _, _, _⟩ := hen.form
      have d0 := (hbl.out.cell (p := ⟨b, o + k * 5, none⟩) hb).trans e0
      have d4 := (hbl.out.cell (p := ⟨b, o + k * 5 + 4, none⟩) hb).trans e4
      have g1 : (0 : Int) ≤ (k : Int) := by omega
      have g2 : (k : Int) < (l.length : Int) := by omega
      have HE := Lib.hid hen
      have HD4 : Hid (∀ W, Below w.heap.size wr W → W.cell? ⟨b, o + k * 5 + 4, none⟩ = some (.slice A' lx.length cp')) := fun W hW => (hW.cell (p := ⟨b, o + k * 5 + 4, none⟩) hb).trans d4
      clear hx htk e0 e1 e2 e3 e4 hen
      by_cases k1 : kd.toList = kWrite
      · have t1 := kind_eq k1
        unfold kWrite at t1
        have HW := Lib.hid (write_st hst.out (by omega) HE.out)
        clear k1
        go_wp2_with fail
        refine HW.out.mono ?_
        intro e w8 hd
        obtain ⟨c8, s8, F8, rfl, hs8, hr8, hF8, hf8⟩ := hd
        have hb8 := hf8.below hbl.out.size
        have d4' := HD4.out w8 hb8
        have HRS8 := Lib.hid (hrs.out.sto hst.out hf8)
        have HS8 := Lib.hid hs8
        have HR8 := Lib.hid hr8
        have HB8 := Lib.hid (hbl.out.trans hb8)
        have HRW := Lib.hid (rwrite_any w.heap.size m _ s.rows lx w8 HRS8.out (HE.out.fr hf8) (by have := hst.out.ok.inv.body.rows; omega))
        clear hs8 hr8 hF8 hf8 hb8 HW d4 HD4
        go_wp2_with fail
        refine HRW.out.mono ?_
        rintro e w9 ⟨rfl, hrs9, hf9⟩
        have HNX : Hid (StS w.heap.size w9 q p (k + 1 + 1) 0 c8 s8 F8 ∧ RS w.heap.size w9 m s8.rows ∧ Below w.heap.size w w9) :=
          ⟨HS8.out.ref HRS8.out hf9, by rw [HR8.out]; exact hrs9, HB8.out.trans (hf9.below HB8.out.size)⟩
        clear hrs9 hf9 HRW HRS8 HS8 HR8 HB8 d4' d0
        go_wp2_with fail
        go_roundw
        case rel => exact ⟨k + 1, c8, s8, F8, by go_num, by omega, HNX.out⟩
        case measure => simp [intOf] <;> omega
      have t1 := kind_ne k1
      by_cases k2 : kd.toList = kFlush
      · have t2 := kind_eq k2
        unfold kWrite at t1
        unfold kFlush at t2
        have HW := Lib.hid (flush_st hst.out (by omega))
        clear k1 k2
        go_wp2_with fail
        refine HW.out.mono ?_
        rintro e w8 ⟨c8, s8, F8, rfl, hs8, hr8, hF8, hf8, _⟩
        have HNX : Hid (StS w.heap.size w8 q p (k + 1 + 1) 0 c8 s8 F8 ∧ RS w.heap.size w8 m s8.rows ∧ Below w.heap.size w w8) :=
          ⟨hs8, by rw [hr8]; exact hrs.out.sto hst.out hf8, hbl.out.trans (hf8.below hbl.out.size)⟩
        clear hs8 hr8 hF8 hf8 HW d4 HD4 d0
        go_wp2_with fail
        go_roundw
        case rel => exact ⟨k + 1, c8, s8, F8, by go_num, by omega, HNX.out⟩
        case measure => simp [intOf] <;> omega
      have t2 := kind_ne k2
      by_cases k3 : kd.toList = kCompact
      · have t3 := kind_eq k3
        unfold kWrite at t1
        unfold kFlush at t2
        unfold kCompact at t3
        have HW := Lib.hid (comp_st hst.out (by omega))
        clear k1 k2 k3
        go_wp2_with fail
        refine HW.out.mono ?_
        rintro e w8 ⟨c8, s8, F8, rfl, hs8, hr8, hF8, hf8, _⟩
        have HNX : Hid (StS w.heap.size w8 q p (k + 1 + 1) 0 c8 s8 F8 ∧ RS w.heap.size w8 m s8.rows ∧ Below w.heap.size w w8) :=
          ⟨hs8, by rw [hr8]; exact hrs.out.sto hst.out hf8, hbl.out.trans (hf8.below hbl.out.size)⟩
        clear hs8 hr8 hF8 hf8 HW d4 HD4 d0
        go_wp2_with fail
        go_roundw
        case rel => exact ⟨k + 1, c8, s8, F8, by go_num, by omega, HNX.out⟩
        case measure => simp [intOf] <;> omega
      have t3 := kind_ne k3
      unfold kWrite at t1
      unfold kFlush at t2
      unfold kCompact at t3
      clear k1 k2 k3 d4 HD4
      go_wp2_with fail
      go_roundw
      case rel => exact ⟨k + 1, c, s, F, by go_num, by omega, hst.out.mono (by omega) (Nat.le_refl _), hrs.out, hbl.out⟩
      case measure => simp [intOf] <;> omega
    · obtain rfl : k = l.length := by omega
      have t70 : decide ((l.length : Int) < (l.length : Int)) = false := by simp
      have hr40 := hst.out.ok.inv.body.rows
      have HPA := Lib.hid (spage_any w.heap.size q p _ _ c s F lo many wr hst.out)
      clear HC HEN
      go_wp2_with fail
      refine HPA.out.mono ?_
      rintro e w8 ⟨v8, rfl, hv8, hb8⟩
      have HBE := Lib.hid (sbet_any w.heap.size q p _ _ c s F lo hi w8 (hst.out.below hb8))
      have HV8 := Lib.hid hv8
      have HRS8 := Lib.hid (hrs.out.below hb8)
      have HB8 := Lib.hid (hbl.out.trans (hb8.mono hbl.out.size))
      clear hv8 hb8 HPA hst hrs hbl
      go_wp2_with fail
      refine HBE.out.mono ?_
      rintro e w9 ⟨v9, rfl, hv9, hb9⟩
      have hrs9 := HRS8.out.below hb9
      obtain ⟨⟨vr, hmb, hvr⟩, hBm⟩ := hrs9
      have x0 := hmb.cell 0
      simp at x0
      have HMB := Lib.hid hmb
      have HVR := Lib.hid hvr
      have HV8' := Lib.hid (HV8.out.below hb9)
      have HV9 := Lib.hid hv9
      have HB9 := Lib.hid (HB8.out.trans (hb9.mono HB8.out.size))
      have HPG := Lib.hid (rpaged_any w.heap.size vr s.rows lo many w9 hvr (by omega))
      clear hmb hvr hv9 hb9 HBE HRS8 HV8
      generalize s.rows = r at *
      go_wp2_with fail
      refine HPG.out.mono ?_
      rintro e w10 ⟨v10, rfl, hv10, hb10⟩
      have hmlt := HMB.out.lt
      have y0 := (HMB.out.below hb10 hmlt).cell 0
      simp at y0
      have HSA : Hid (Calls Try.prog 18 #[v8, v10] w10 fun e w' => e = .returned (.bool true) ∧ ∃ n, w' = w10.drewN n) := by
        refine (same_any w.heap.size v8 v10 _ _ w10 (HV8'.out.below hb10) hv10).mono ?_
        rintro e w' ⟨rfl, n, rfl⟩
        exact ⟨by simp, n, rfl⟩
      have HVR10 := Lib.hid (HVR.out.below hb10)
      have HV910 := Lib.hid (HV9.out.below hb10)
      have HB10 := Lib.hid (HB9.out.trans (hb10.mono HB9.out.size))
      have HY : Hid (∀ n : Nat, (w10.drewN n).cell? ⟨m, 0, none⟩ = some vr) := fun n => y0
      clear hv10 hb10 HPG x0 y0 hmlt HMB HVR HV8' HV9
      go_wp2_with fail
      refine HSA.out.mono ?_
      rintro e w11 ⟨rfl, n, rfl⟩
      have y1 := HY.out n
      have HBE2 := Lib.hid (rbet_any w.heap.size vr r lo hi (w10.drewN n) (HVR10.out.drewN n) (by omega))
      clear HSA
      go_wp2_with fail
      refine HBE2.out.mono ?_
      rintro e w12 ⟨v12, rfl, hv12, hb12⟩
      have HSB : Hid (Calls Try.prog 18 #[v9, v12] w12 fun e w' => e = .returned (.bool true) ∧ ∃ n, w' = w12.drewN n) := by
        refine (same_any w.heap.size v9 v12 _ _ w12 ((HV910.out.drewN n).below hb12) hv12).mono ?_
        rintro e w' ⟨rfl, n, rfl⟩
        exact ⟨by simp, n, rfl⟩
      have HB12 : Hid (Below w.heap.size w w12) := (below_drewN' HB10.out n).trans (hb12.mono (by have := HB10.out.size; exact this))
      clear hv12 hb12 HBE2 y1
      go_wp2_with fail
      refine HSB.out.mono ?_
      rintro e w13 ⟨rfl, n2, rfl⟩
      go_wp2_with fail
      go_ret
      exact ⟨rfl, below_drewN' HB12.out n2⟩

-- CLOSING

set_option maxRecDepth 100000 in
theorem scanSays_holds : Rows.ScanSaysSaid :=
  OpenClaim.holds_of_wide 9 Try.f9 rfl rfl rfl rfl rfl rfl rfl ⟨rfl, rfl, rfl, rfl, rfl⟩ rfl rfl rfl rfl rfl (by kernel_rfl) Try.func9 (by kernel_rfl)
    (of_decide_eq_true (by kernel_rfl)) (by unfold Func.isWrapper; first | (rw [if_pos (by decide +kernel)]; kernel_rfl) | (rw [if_neg (by decide +kernel)]; exact ⟨rfl, rfl⟩))
    (fun os started H enc _ => close_lifted Rows.scanSaysSpec 9 Try.f9 os started H enc (by kernel_rfl) Try.func9 (by kernel_rfl) rfl
      (fun ds hd => by
        rw [Try.params9] at hd
        match ds, hd with
        | [d1, d2, d3, d4], _ => rfl)
      (by kernel_rfl)
      (ChangeSpec.witness6 (enc := enc) (C := Try.checked) false ⟨#[], #[.slice none 0 0, .string ByteArray.empty, .string ByteArray.empty, .int .i64 0], []⟩ 8 (by kernel_rfl) (by kernel_rfl) (by kernel_rfl) (by kernel_rfl))
      (fun W base args ds p hval hA => by
        rw [Try.params9] at hA hval
        obtain ⟨v0, v1, v2, v3, d0, d1, d2, d3, p0, p1, p2, p3, hargs, rfl, rfl, h0, h1, h2, h3⟩ := trodAll_four hA
        obtain rfl : args = #[v0, v1, v2, v3] := by cases args; simp_all
        obtain ⟨l0, hl0⟩ := acts_of (hval 0 _ v0 rfl rfl) h0
        obtain ⟨s1, rfl, rfl, rfl, hs1⟩ := open_string Try.underlying9 (hval 1 _ v1 rfl rfl) h1
        obtain ⟨s2, rfl, rfl, rfl, hs2⟩ := open_string Try.underlying9 (hval 2 _ v2 rfl rfl) h2
        obtain ⟨n3, rfl, rfl, rfl, wn3⟩ := open_int Try.underlying3 (hval 3 _ v3 rfl rfl) h3
        exact scanSays_walk v0 l0 s1 s2 n3 W hl0 hs1 hs2))
#print axioms scanSays_holds
end Go.Proofs.Ytaepdbkfaoiimaa
