/- TopCounts returns true at every input, and leaves it as it was. Conditions: none. -/
import Derived.Test.YtaepdbkfaoiimadGreatSurv
import Derived.Test.YtaepdbkfaoiimadGreatStoU
import Derived.Deep.WholeRow
import Derived.Deep.RegionHeld3
import Derived.Deep.MidRow
set_option linter.unusedVariables false
set_option linter.unusedSimpArgs false
namespace Go.Proofs.YtaepdbkfaoiimadGreat
open Go.ChangeShapes Go.WideShapes Go.ChangeAt Go.RowKit Go.WideMaps Go.WideElems
open Go.ChangeMaps (open_string shut_string)
attribute [local go_sem ↓] eql_err eql_nilerr neq_err neq_nilerr guard_err guard_nilerr guardn_err guardn_nilerr
/-- An array of kinds lies in a block; the rest is as it was. -/
structure CR (B g : Nat) (w0 : World) (cs : Array Value) (W : World) : Prop where
  blk : Blk W g 28 cs
  bel : Below B w0 W
  lt : B ≤ W.heap.size
theorem countR {B g : Nat} {w0 : World} {f : Nat → Int} {W : World} (h : CR B g w0 (arr24 f) W) (x : Int) :
    Calls Tryz.prog 7 #[.agg (arr24 f), .int .i64 x] W fun e w' => e = .returned (.int .i64 (countK f x 24 : Nat)) ∧ CR B g w0 (arr24 f) w' :=
  (count_any f x W).mono fun e w' ⟨h1, h2⟩ => ⟨h1, h.blk.below h2 h.blk.lt, h.bel.trans (h2.mono h.lt), Nat.le_trans h.lt h2.size⟩
def sumK (f : Nat → Int) : Nat → Nat
  | 0 => 0
  | i + 1 => sumK f i + countK f i 24
theorem sumK_six {f : Nat → Int} (h : ∀ b, 0 ≤ f b ∧ f b < 6) : sumK f 6 = 24 := by
  have := countK_sum f h 24
  show 0 + countK f (0 : Nat) 24 + countK f (1 : Nat) 24 + countK f (2 : Nat) 24 + countK f (3 : Nat) 24 + countK f (4 : Nat) 24 + countK f (5 : Nat) 24 = 24
  simpa using this
theorem sumK_le (f : Nat → Int) : ∀ i, sumK f i ≤ 24 * i
  | 0 => Nat.le_refl _
  | i + 1 => by have := sumK_le f i; have := countK_le f i 24; show sumK f i + countK f i 24 ≤ _; omega
theorem one_calm {k j : Nat} {c : Chip} {s : SM} (h : Good k j c s) : ∃ i, i < 22 ∧ (c.b (i + 2)).bad = false := by
  refine Classical.byContradiction fun hn => ?_
  have hb : ∀ i, i < 22 → (c.b (i + 2)).weak = true := fun i hi => by
    cases e : (c.b (i + 2)).bad
    · exact absurd ⟨i, hi, e⟩ hn
    · exact h.inv.wf.bad _ e
  have hw := h.inv.body.weak
  unfold weaks at hw
  rw [range24_two, List.countP_cons, List.countP_cons] at hw
  have : (List.range' 2 22).countP (fun i => (c.b i).weak) = (List.range' 2 22).length := List.countP_eq_length.2 fun i hi => by
    obtain ⟨h1, h2⟩ := List.mem_range'_1.1 hi
    have := hb (i - 2) (by omega)
    rw [show i - 2 + 2 = i by omega] at this
    exact this
  rw [this, List.length_range'] at hw
  omega
theorem free_six {k j : Nat} {c : Chip} {s : SM} (h : Good k j c s) : 6 ≤ countK (kindM c s.m) 0 24 := by
  obtain ⟨k1, k2, k3, k4, k5⟩ := kind_counts (c := c) h.inv.body.fault
  have hs := countK_sum (kindM c s.m) (kindM_rng c s.m) 24
  have h1 := h.nw
  have h2 := h.inv.body.odl
  have h3 := h.inv.body.weak
  have h4 : (List.range 24).countP (fun i => (c.b i).bad) ≤ weaks c := List.countP_mono_left fun i _ hb => h.inv.wf.bad i hb
  omega
def arrL (f : Nat → Int) : List Value := (List.range 24).map fun b => Value.int .i64 (f b)
theorem arrL_len (f : Nat → Int) : (arrL f).length = 24 := by simp [arrL]
theorem arrL_at {f : Nat → Int} {W : World} {g : Nat} (h : Blk W g 28 (arr24 f)) : W.rangeAt g 0 (arrL f) := by
  intro j v hj
  rw [Nat.zero_add, h.cell]
  show (arrL f).toArray[j]? = some v
  simpa using hj
set_option maxRecDepth 20000 in
set_option maxHeartbeats 4000000 in
theorem topCounts_walk (va : Value) (l : List Act) (w : World) (ha : ActsR w.heap.size w va l) :
    Calls Tryz.prog 3 #[va] w fun e w' => e = .returned (.bool true) ∧ Below w.heap.size w w' := by
  have HWO := Lib.hid (works_any w)
  have HFI := Lib.hid (fun W (hW : Below w.heap.size w W) => filled_any w.heap.size va l W (acts_below ha hW) hW.size)
  clear ha
  cases hg : filG l
  · have HF0 := Lib.hid (fun W hW => fil_no hg (HFI.out W hW))
    clear hg HFI
    go_enter Tryz.func3, Tryz.ntmps3
    go_wp2_with (first
      | (go_at_call 4; refine HWO.out.mono ?_; rintro e w1 ⟨rfl, hb1⟩)
      | (go_at_call 5; refine (HF0.out w1 hb1).mono ?_; rintro e w2 ⟨rfl, rfl⟩))
    go_ret
    exact ⟨rfl, hb1⟩
  have HF1 := Lib.hid (fun W hW => fil_yes hg (HFI.out W hW))
  have hl80 := filG_len hg
  clear hg HFI
  go_enter Tryz.func3, Tryz.ntmps3
  go_wp2_with (first
    | (go_at_call 4; refine HWO.out.mono ?_; rintro e w1 ⟨rfl, hb1⟩)
    | (go_at_call 5; refine (HF1.out w1 hb1).mono ?_; rintro e w2 ⟨p, q, rfl, c, s, F, hst, hrw, hFw, hpw, hb2⟩; have hb12 := hb1.trans (hb2.mono hb1.size)))
  have HB2 := Lib.hid (And.intro hb2 hb1.size)
  have HBW : Hid (∀ W, Below w1.heap.size w1 W → Below w.heap.size w W) := Lib.hid fun W hW => hb1.trans (hW.mono hb1.size)
  have HS2 := Lib.hid hst
  clear hst hrw hFw hpw hb2 hb1 hb12 HWO HF1
  have HOF := Lib.hid (sof_any HS2.out)
  obtain ⟨k1, k2, k3, k4, _⟩ := kind_counts (c := c) HS2.out.ok.inv.body.fault
  have k0 := free_six HS2.out.ok
  have hsum := sumK_six (kindM_rng c s.m)
  have hnl := HS2.out.ok.inv.body.nwl
  have hol := HS2.out.ok.inv.body.odl
  obtain ⟨q1, q2, q3, q4⟩ := spread_end (c := c) (X := 1 + 12 * (l.length : Int)) (by omega) HS2.out.ok.wear (one_calm HS2.out.ok)
  have HSP := Lib.hid (fun W (hW : Below w2.heap.size w2 W) => spread_any w1.heap.size p c W (HS2.out.ch.below hW) (fun i hi => (HS2.out.ok.wear i hi).1))
  have HQ := Lib.hid (And.intro q3 q4)
  generalize max (spreadM c 22).1 0 = sa at *
  generalize (spreadM c 22).2 = sb at *
  have HKS := Lib.hid (And.intro k0 (And.intro k1 (And.intro k2 (And.intro k3 (And.intro k4 hsum)))))
  clear q1 q2 q3 q4 k0 k1 k2 k3 k4 hsum
  refine HOF.out.mono ?_
  rintro e w3 ⟨rfl, hb3⟩
  have hb4 : Below w3.heap.size w3 (w3.alloc (.cells (arr24 (kindM c s.m)) 28)) := (Below.refl _ _).alloc (Nat.le_refl _) _
  have hb24 : Below w2.heap.size w2 (w3.alloc (.cells (arr24 (kindM c s.m)) 28)) := hb3.trans (hb4.mono hb3.size)
  have hR4 : CR w2.heap.size w3.heap.size w2 (arr24 (kindM c s.m)) (w3.alloc (.cells (arr24 (kindM c s.m)) 28)) := ⟨Blk.new _ _ _, hb24, hb24.size⟩
  have hsz := arr24_size (kindM c s.m)
  have ho := arr24_one (kindM c s.m)
  have HCO : Hid (∀ x W, CR w2.heap.size w3.heap.size w2 (arr24 (kindM c s.m)) W → Calls Tryz.prog 7 #[.agg (arr24 (kindM c s.m)), .int .i64 x] W fun e w' => e = .returned (.int .i64 (countK (kindM c s.m) x 24 : Nat)) ∧ CR w2.heap.size w3.heap.size w2 (arr24 (kindM c s.m)) w') := fun x W h => countR h x
  have HCB : Hid (∀ x W, Calls Tryz.prog 7 #[.agg (arr24 (kindM c s.m)), .int .i64 x] W fun e w' => e = .returned (.int .i64 (countK (kindM c s.m) x 24 : Nat)) ∧ Below W.heap.size W w') := fun x W => count_any (kindM c s.m) x W
  have HAT : Hid (∀ W, CR w2.heap.size w3.heap.size w2 (arr24 (kindM c s.m)) W → W.rangeAt w3.heap.size 0 (arrL (kindM c s.m)) ∧ w3.heap.size < W.heap.size) := fun W h => ⟨arrL_at h.blk, h.blk.lt⟩
  have hcl := countK_le (kindM c s.m)
  have HLA : Hid (arr24 (kindM c s.m) = (arrL (kindM c s.m)).toArray ∧ (arrL (kindM c s.m)).length = 24) := ⟨rfl, arrL_len _⟩
  have hsl := sumK_le (kindM c s.m)
  have hss : ∀ i, sumK (kindM c s.m) (i + 1) = sumK (kindM c s.m) i + countK (kindM c s.m) i 24 := fun i => rfl
  have HSL := Lib.hid (And.intro hsl (And.intro hcl hss))
  have HR4 := Lib.hid hR4
  clear hb3 hb4 hb24 HOF hsl hcl hss
  generalize arr24 (kindM c s.m) = cs at *
  generalize arrL (kindM c s.m) = cl at *
  generalize kindM c s.m = f at *
  have hi6 : (Tryz.prog.info? 28).map (·.size) = some cs.size := by rw [hsz]; kernel_rfl
  clear hR4
  go_wp2_with (refine wpList_store_row rfl 28 _ _ rfl w3.heap.size cs rfl rfl 28 _ (heap_alloc_new _ _) (by rw [hsz]; kernel_rfl) (by rw [hsz]; rfl) ho ?_; rw [World.setRow_alloc_new])
  generalize hg : w3.heap.size = g at *
  generalize (w3.alloc (.cells cs 28)) = w4 at *
  clear hg ho
  go_loopw [7, 8] (fun a i wr => ∃ n : Nat, n ≤ 6 ∧ i = .int .i64 (n : Int) ∧ a = .int .i64 (sumK f n : Nat) ∧ Hid (CR w2.heap.size g w2 cs wr)) (fun _ i _ => (6 - intOf i).toNat)
  case atStart => exact ⟨0, by omega, rfl, rfl, HR4.out⟩
  case round =>
    clear HR4
    obtain ⟨n, hn, rfl, rfl, hr⟩ := hrel
    have hb1 := HSL.out.1 n
    have hb2 := HSL.out.2.1 n 24
    by_cases hlt : n < 6
    · have g1 : (n : Int) ≤ 5 := by omega
      have hg6 := hr.out.blk
      have HC1 := Lib.hid (HCO.out n wr hr.out)
      have HS1 : Hid (sumK f (n + 1) = sumK f n + countK f n 24) := HSL.out.2.2 n
      clear hr
      go_wp2_with (refine wpList_load_row rfl 28 _ rfl g rfl 28 cs (0, 0) _ hg6 Tryz.underlying28 rfl hi6 ?_)
      refine HC1.out.mono ?_
      rintro e w5 ⟨rfl, hr5⟩
      have HR5 := Lib.hid hr5
      clear hr5 HC1 hg6
      go_wp2_with fail
      go_roundw
      case rel => exact ⟨n + 1, by omega, by go_num, by rw [HS1.out]; go_num, HR5.out⟩
      case measure => simp [intOf] <;> omega
    · obtain rfl : n = 6 := by omega
      obtain ⟨k0, k1, k2, k3, k4, hsum⟩ := HKS.out
      rw [hsum]
      have HSP1 := Lib.hid (HSP.out wr hr.out.bel)
      have HMA := Lib.hid (fun W (hW : Below w2.heap.size w2 W) => sman_st (HS2.out.below hW))
      have HR := hr
      clear hr hb1 hb2 k0 k1 k2 k3 k4 hsum
      go_wp2_with fail
      refine HSP1.out.mono ?_
      rintro e w5 ⟨rfl, rfl⟩
      have HM1 := Lib.hid (HMA.out wr HR.out.bel)
      clear HSP HSP1 HMA
      go_wp2_with fail
      refine HM1.out.mono ?_
      rintro e w6 ⟨A3, c3, A4, c4, rfl, _, _, _, hb6⟩
      have hr6 : CR w2.heap.size g w2 cs w6 := ⟨HR.out.blk.below hb6 HR.out.blk.lt, HR.out.bel.trans (hb6.mono HR.out.lt), Nat.le_trans HR.out.lt hb6.size⟩
      have hb7 : Below w6.heap.size w6 (w6.alloc (.cells #[.int .i64 s.m.ep, .int .i64 s.m.log, .slice A3 s.m.nw.length c3, .slice A4 s.m.od.length c4] 35)) := (Below.refl _ _).alloc (Nat.le_refl _) _
      have HR7 : Hid (CR w2.heap.size g w2 cs (w6.alloc (.cells #[.int .i64 s.m.ep, .int .i64 s.m.log, .slice A3 s.m.nw.length c3, .slice A4 s.m.od.length c4] 35))) := ⟨hr6.blk.alloc _, hr6.bel.trans (hb7.mono hr6.lt), Nat.le_trans hr6.lt hb7.size⟩
      have HG7 : Hid (Blk (w6.alloc (.cells #[.int .i64 s.m.ep, .int .i64 s.m.log, .slice A3 s.m.nw.length c3, .slice A4 s.m.od.length c4] 35)) w6.heap.size 35 #[.int .i64 s.m.ep, .int .i64 s.m.log, .slice A3 s.m.nw.length c3, .slice A4 s.m.od.length c4]) := Blk.new _ _ _
      clear hr6 hb6 hb7 HM1 HR
      go_wp2_with fail
      generalize (w6.alloc _) = W at *
      generalize hgm : w6.heap.size = gm at *
      clear hgm
      have HSB : Hid (∀ w' : World, Below W.heap.size W w' → (w'.rangeAt g 0 cl ∧ w'.cell? ⟨gm, 2, none⟩ = some (.slice A3 s.m.nw.length c3) ∧ w'.cell? ⟨gm, 3, none⟩ = some (.slice A4 s.m.od.length c4) ∧ Below W.heap.size W w')) := by
        intro w' hb
        have hg := HG7.out.below hb HG7.out.lt
        have hr : CR w2.heap.size g w2 cs w' := ⟨HR7.out.blk.below hb HR7.out.blk.lt, HR7.out.bel.trans (hb.mono HR7.out.lt), Nat.le_trans HR7.out.lt hb.size⟩
        exact ⟨(HAT.out w' hr).1, hg.cell 2, hg.cell 3, hb⟩
      have HCN : Hid (∀ (x : Int) (w' : World), ((w'.rangeAt g 0 cl ∧ w'.cell? ⟨gm, 2, none⟩ = some (.slice A3 s.m.nw.length c3) ∧ w'.cell? ⟨gm, 3, none⟩ = some (.slice A4 s.m.od.length c4) ∧ Below W.heap.size W w')) → Calls Tryz.prog 7 #[.agg cl.toArray, .int .i64 x] w' fun e w'' => e = .returned (.int .i64 (countK f x 24 : Nat)) ∧ (fun w' : World => (w'.rangeAt g 0 cl ∧ w'.cell? ⟨gm, 2, none⟩ = some (.slice A3 s.m.nw.length c3) ∧ w'.cell? ⟨gm, 3, none⟩ = some (.slice A4 s.m.od.length c4) ∧ Below W.heap.size W w')) w'') := by
        intro x w' hS
        have hb := hS.2.2.2
        have hr : CR w2.heap.size g w2 cs w' := ⟨HR7.out.blk.below hb HR7.out.blk.lt, HR7.out.bel.trans (hb.mono HR7.out.lt), Nat.le_trans HR7.out.lt hb.size⟩
        have hc := HCB.out x w'
        rw [HLA.out.1] at hc
        exact hc.mono fun e w'' ⟨h1, h2⟩ => ⟨h1, HSB.out w'' (hb.trans (h2.mono hb.size))⟩
      have hu := Tryz.underlying28
      have hil : (Tryz.prog.info? 28).map (·.size) = some cl.length := by rw [HLA.out.2, hi6, hsz]
      obtain ⟨k0, k1, k2, k3, k4, _⟩ := HKS.out
      obtain ⟨q0, q1⟩ := HQ.out
      have k0i : (6 : Int) ≤ (countK f 0 24 : Nat) := by omega
      have hS0 := HSB.out W.drew (Below.refl _ _).drew
      refine wp_region_held_drew (S := fun w' => (w'.rangeAt g 0 cl ∧ w'.cell? ⟨gm, 2, none⟩ = some (.slice A3 s.m.nw.length c3) ∧ w'.cell? ⟨gm, 3, none⟩ = some (.slice A4 s.m.od.length c4) ∧ Below W.heap.size W w')) (by kernel_rfl) hS0 (fun hHeld => ?_)
      refine wpAnyH_take (i := 0) (oi := ⟨some 42, _, _, _, _, _⟩) (v := .int .i64 ((24 : Nat) : Int)) rfl (by kernel_rfl) (by kernel_rfl) (by kernel_rfl) (fun _ _ _ h => h) (Or.inl ⟨by rfl, ?_⟩) (by assumption) ?_
      · intro wS hSw
        (try dsimp only at hSw)
        go_simp
      simp only [Act.put, List.setIfInBounds_toArray, List.set_cons_zero, List.set_cons_succ]
      refine wpAnyH_take (i := 1) (oi := ⟨some 43, _, _, _, _, _⟩) (v := .bool true) rfl (by kernel_rfl) (by kernel_rfl) (by kernel_rfl) (fun _ _ _ h => h) (Or.inl ⟨by rfl, ?_⟩) (by assumption) ?_
      · intro wS hSw
        (try dsimp only at hSw)
        go_simp
      simp only [Act.put, List.setIfInBounds_toArray, List.set_cons_zero, List.set_cons_succ]
      refine wpAnyH_take (i := 2) (oi := ⟨some 44, _, _, _, _, _⟩) (v := .bool true) rfl (by kernel_rfl) (by kernel_rfl) (by kernel_rfl) (fun _ _ _ h => h) (Or.inl ⟨by rfl, ?_⟩) (by assumption) ?_
      · intro wS hSw
        (try dsimp only at hSw)
        go_simp
      simp only [Act.put, List.setIfInBounds_toArray, List.set_cons_zero, List.set_cons_succ]
      refine wpAnyH_take (i := 3) (oi := ⟨some 45, _, _, _, _, _⟩) (v := .int .i64 sa) rfl (by kernel_rfl) (by kernel_rfl) (by kernel_rfl) (fun _ _ _ h => h) (Or.inl ⟨by rfl, ?_⟩) (by assumption) ?_
      · intro wS hSw
        (try dsimp only at hSw)
        go_simp
      simp only [Act.put, List.setIfInBounds_toArray, List.set_cons_zero, List.set_cons_succ]
      refine wpAnyH_take (i := 4) (oi := ⟨some 46, _, _, _, _, _⟩) (v := .int .i64 sb) rfl (by kernel_rfl) (by kernel_rfl) (by kernel_rfl) (fun _ _ _ h => h) (Or.inl ⟨by rfl, ?_⟩) (by assumption) ?_
      · intro wS hSw
        (try dsimp only at hSw)
        go_simp
      simp only [Act.put, List.setIfInBounds_toArray, List.set_cons_zero, List.set_cons_succ]
      refine wpAnyH_take (i := 5) (oi := ⟨some 47, _, _, _, _, _⟩) (v := .bool true) rfl (by kernel_rfl) (by kernel_rfl) (by kernel_rfl) (fun _ _ _ h => h) (Or.inl ⟨by rfl, ?_⟩) (by assumption) ?_
      · intro wS hSw
        (try dsimp only at hSw)
        go_simp
      simp only [Act.put, List.setIfInBounds_toArray, List.set_cons_zero, List.set_cons_succ]
      refine wpAnyH_take (i := 6) (oi := ⟨some 48, _, _, _, _, _⟩) (v := .bool true) rfl (by kernel_rfl) (by kernel_rfl) (by kernel_rfl) (fun _ _ _ h => h) (Or.inl ⟨by rfl, ?_⟩) (by assumption) ?_
      · intro wS hSw
        (try dsimp only at hSw)
        go_simp
      simp only [Act.put, List.setIfInBounds_toArray, List.set_cons_zero, List.set_cons_succ]
      refine wpAnyH_take (i := 7) (oi := ⟨some 49, _, _, _, _, _⟩) (v := .bool true) rfl (by kernel_rfl) (by kernel_rfl) (by kernel_rfl) (fun _ _ _ h => h) (Or.inl ⟨by rfl, ?_⟩) (by assumption) ?_
      · intro wS hSw
        (try dsimp only at hSw)
        go_simp
      simp only [Act.put, List.setIfInBounds_toArray, List.set_cons_zero, List.set_cons_succ]
      refine wpAnyH_take (i := 8) (oi := ⟨some 50, _, _, _, _, _⟩) (v := .int .i64 sa) rfl (by kernel_rfl) (by kernel_rfl) (by kernel_rfl) (fun _ _ _ h => h) (Or.inl ⟨by rfl, ?_⟩) (by assumption) ?_
      · intro wS hSw
        (try dsimp only at hSw)
        go_simp
      simp only [Act.put, List.setIfInBounds_toArray, List.set_cons_zero, List.set_cons_succ]
      refine wpAnyH_take (i := 9) (oi := ⟨some 51, _, _, _, _, _⟩) (v := .bool true) rfl (by kernel_rfl) (by kernel_rfl) (by kernel_rfl) (fun _ _ _ h => h) (Or.inl ⟨by rfl, ?_⟩) (by assumption) ?_
      · intro wS hSw
        (try dsimp only at hSw)
        go_simp
      simp only [Act.put, List.setIfInBounds_toArray, List.set_cons_zero, List.set_cons_succ]
      refine wpAnyH_take (i := 10) (oi := ⟨some 52, _, _, _, _, _⟩) (v := .bool true) rfl (by kernel_rfl) (by kernel_rfl) (by kernel_rfl) (fun _ _ _ h => h) (Or.inl ⟨by rfl, ?_⟩) (by assumption) ?_
      · intro wS hSw
        (try dsimp only at hSw)
        go_simp
      simp only [Act.put, List.setIfInBounds_toArray, List.set_cons_zero, List.set_cons_succ]
      refine wpAnyH_take (i := 11) (oi := ⟨some 53, _, _, _, _, _⟩) (v := .bool true) rfl (by kernel_rfl) (by kernel_rfl) (by kernel_rfl) (fun _ _ _ h => h) (Or.inl ⟨by rfl, ?_⟩) (by assumption) ?_
      · intro wS hSw
        (try dsimp only at hSw)
        go_simp
      simp only [Act.put, List.setIfInBounds_toArray, List.set_cons_zero, List.set_cons_succ]
      refine wpAnyH_take (i := 12) (oi := ⟨some 54, _, _, _, _, _⟩) (v := .agg cl.toArray) rfl (by kernel_rfl) (by kernel_rfl) (by kernel_rfl) (fun _ _ _ h => h) (yieldsIf_load_mid (by rfl) 28 _ rfl g 0 rfl cl _ (fun wS hSw => hSw.1) hu rfl hil) (by assumption) ?_
      simp only [Act.put, List.setIfInBounds_toArray, List.set_cons_zero, List.set_cons_succ]
      refine wpAnyH_ready (rs := [13]) (by kernel_rfl) (by simp) ?_
      refine AllReadyH.cons (o := ⟨some 55, _, _, _, _, _⟩) rfl (fun K hK => ?_) AllReadyH.nil
      go_simp
      refine (HCN.out _ _ (by assumption)).mono ?_
      rintro e w7 ⟨rfl, hS6⟩
      refine hK.out _ _ ?_ (fun hHeld => ?_)
      · exact hS6
      clear hK K
      try simp only [Act.put, List.setIfInBounds_toArray, List.set_cons_zero, List.set_cons_succ]
      refine wpAnyH_take (i := 14) (oi := ⟨some 56, _, _, _, _, _⟩) (v := .bool true) rfl (by kernel_rfl) (by kernel_rfl) (by kernel_rfl) (fun _ _ _ h => h) (Or.inl ⟨by rfl, ?_⟩) (by assumption) ?_
      · intro wS hSw
        (try dsimp only at hSw)
        go_simp
      simp only [Act.put, List.setIfInBounds_toArray, List.set_cons_zero, List.set_cons_succ]
      refine wpAnyH_take (i := 15) (oi := ⟨some 57, _, _, _, _, _⟩) (v := .bool true) rfl (by kernel_rfl) (by kernel_rfl) (by kernel_rfl) (fun _ _ _ h => h) (Or.inl ⟨by rfl, ?_⟩) (by assumption) ?_
      · intro wS hSw
        (try dsimp only at hSw)
        go_simp
      simp only [Act.put, List.setIfInBounds_toArray, List.set_cons_zero, List.set_cons_succ]
      refine wpAnyH_take (i := 16) (oi := ⟨some 58, _, _, _, _, _⟩) (v := .bool true) rfl (by kernel_rfl) (by kernel_rfl) (by kernel_rfl) (fun _ _ _ h => h) (Or.inl ⟨by rfl, ?_⟩) (by assumption) ?_
      · intro wS hSw
        (try dsimp only at hSw)
        go_simp
      simp only [Act.put, List.setIfInBounds_toArray, List.set_cons_zero, List.set_cons_succ]
      refine wpAnyH_take (i := 17) (oi := ⟨some 59, _, _, _, _, _⟩) (v := .agg cl.toArray) rfl (by kernel_rfl) (by kernel_rfl) (by kernel_rfl) (fun _ _ _ h => h) (yieldsIf_load_mid (by rfl) 28 _ rfl g 0 rfl cl _ (fun wS hSw => hSw.1) hu rfl hil) (by assumption) ?_
      simp only [Act.put, List.setIfInBounds_toArray, List.set_cons_zero, List.set_cons_succ]
      refine wpAnyH_ready (rs := [18]) (by kernel_rfl) (by simp) ?_
      refine AllReadyH.cons (o := ⟨some 60, _, _, _, _, _⟩) rfl (fun K hK => ?_) AllReadyH.nil
      go_simp
      refine (HCN.out _ _ (by assumption)).mono ?_
      rintro e w7 ⟨rfl, hS6⟩
      refine hK.out _ _ ?_ (fun hHeld => ?_)
      · exact hS6
      clear hK K
      try simp only [Act.put, List.setIfInBounds_toArray, List.set_cons_zero, List.set_cons_succ]
      refine wpAnyH_take (i := 19) (oi := ⟨some 61, _, _, _, _, _⟩) (v := .bool true) rfl (by kernel_rfl) (by kernel_rfl) (by kernel_rfl) (fun _ _ _ h => h) (Or.inl ⟨by rfl, ?_⟩) (by assumption) ?_
      · intro wS hSw
        (try dsimp only at hSw)
        go_simp
      simp only [Act.put, List.setIfInBounds_toArray, List.set_cons_zero, List.set_cons_succ]
      refine wpAnyH_take (i := 20) (oi := ⟨some 62, _, _, _, _, _⟩) (v := .bool true) rfl (by kernel_rfl) (by kernel_rfl) (by kernel_rfl) (fun _ _ _ h => h) (Or.inl ⟨by rfl, ?_⟩) (by assumption) ?_
      · intro wS hSw
        (try dsimp only at hSw)
        go_simp
      simp only [Act.put, List.setIfInBounds_toArray, List.set_cons_zero, List.set_cons_succ]
      refine wpAnyH_take (i := 21) (oi := ⟨some 63, _, _, _, _, _⟩) (v := .bool true) rfl (by kernel_rfl) (by kernel_rfl) (by kernel_rfl) (fun _ _ _ h => h) (Or.inl ⟨by rfl, ?_⟩) (by assumption) ?_
      · intro wS hSw
        (try dsimp only at hSw)
        go_simp
      simp only [Act.put, List.setIfInBounds_toArray, List.set_cons_zero, List.set_cons_succ]
      refine wpAnyH_take (i := 22) (oi := ⟨some 64, _, _, _, _, _⟩) (v := .agg cl.toArray) rfl (by kernel_rfl) (by kernel_rfl) (by kernel_rfl) (fun _ _ _ h => h) (yieldsIf_load_mid (by rfl) 28 _ rfl g 0 rfl cl _ (fun wS hSw => hSw.1) hu rfl hil) (by assumption) ?_
      simp only [Act.put, List.setIfInBounds_toArray, List.set_cons_zero, List.set_cons_succ]
      refine wpAnyH_take (i := 24) (oi := ⟨some 66, _, _, _, _, _⟩) (v := .pointer (some ⟨gm, 2, none⟩)) rfl (by kernel_rfl) (by kernel_rfl) (by kernel_rfl) (fun _ _ _ h => h) (Or.inl ⟨by rfl, ?_⟩) (by assumption) ?_
      · intro wS hSw
        (try dsimp only at hSw)
        go_simp
      simp only [Act.put, List.setIfInBounds_toArray, List.set_cons_zero, List.set_cons_succ]
      refine wpAnyH_take (i := 25) (oi := ⟨some 67, _, _, _, _, _⟩) (v := .slice A3 s.m.nw.length c3) rfl (by kernel_rfl) (by kernel_rfl) (by kernel_rfl) (fun _ _ _ h => h) (Or.inl ⟨by rfl, ?_⟩) (by assumption) ?_
      · intro wS hSw
        (try dsimp only at hSw)
        go_simp
      simp only [Act.put, List.setIfInBounds_toArray, List.set_cons_zero, List.set_cons_succ]
      refine wpAnyH_take (i := 26) (oi := ⟨some 68, _, _, _, _, _⟩) (v := .int .i64 s.m.nw.length) rfl (by kernel_rfl) (by kernel_rfl) (by kernel_rfl) (fun _ _ _ h => h) (Or.inl ⟨by rfl, ?_⟩) (by assumption) ?_
      · intro wS hSw
        (try dsimp only at hSw)
        go_simp
      simp only [Act.put, List.setIfInBounds_toArray, List.set_cons_zero, List.set_cons_succ]
      refine wpAnyH_ready (rs := [23]) (by kernel_rfl) (by simp) ?_
      refine AllReadyH.cons (o := ⟨some 65, _, _, _, _, _⟩) rfl (fun K hK => ?_) AllReadyH.nil
      go_simp
      refine (HCN.out _ _ (by assumption)).mono ?_
      rintro e w7 ⟨rfl, hS6⟩
      refine hK.out _ _ ?_ (fun hHeld => ?_)
      · exact hS6
      clear hK K
      try simp only [Act.put, List.setIfInBounds_toArray, List.set_cons_zero, List.set_cons_succ]
      refine wpAnyH_take (i := 27) (oi := ⟨some 69, _, _, _, _, _⟩) (v := .bool true) rfl (by kernel_rfl) (by kernel_rfl) (by kernel_rfl) (fun _ _ _ h => h) (Or.inl ⟨by rfl, ?_⟩) (by assumption) ?_
      · intro wS hSw
        (try dsimp only at hSw)
        go_simp
      simp only [Act.put, List.setIfInBounds_toArray, List.set_cons_zero, List.set_cons_succ]
      refine wpAnyH_take (i := 28) (oi := ⟨some 70, _, _, _, _, _⟩) (v := .bool true) rfl (by kernel_rfl) (by kernel_rfl) (by kernel_rfl) (fun _ _ _ h => h) (Or.inl ⟨by rfl, ?_⟩) (by assumption) ?_
      · intro wS hSw
        (try dsimp only at hSw)
        go_simp
      simp only [Act.put, List.setIfInBounds_toArray, List.set_cons_zero, List.set_cons_succ]
      refine wpAnyH_take (i := 29) (oi := ⟨some 71, _, _, _, _, _⟩) (v := .bool true) rfl (by kernel_rfl) (by kernel_rfl) (by kernel_rfl) (fun _ _ _ h => h) (Or.inl ⟨by rfl, ?_⟩) (by assumption) ?_
      · intro wS hSw
        (try dsimp only at hSw)
        go_simp
      simp only [Act.put, List.setIfInBounds_toArray, List.set_cons_zero, List.set_cons_succ]
      refine wpAnyH_take (i := 30) (oi := ⟨some 72, _, _, _, _, _⟩) (v := .agg cl.toArray) rfl (by kernel_rfl) (by kernel_rfl) (by kernel_rfl) (fun _ _ _ h => h) (yieldsIf_load_mid (by rfl) 28 _ rfl g 0 rfl cl _ (fun wS hSw => hSw.1) hu rfl hil) (by assumption) ?_
      simp only [Act.put, List.setIfInBounds_toArray, List.set_cons_zero, List.set_cons_succ]
      refine wpAnyH_take (i := 32) (oi := ⟨some 74, _, _, _, _, _⟩) (v := .pointer (some ⟨gm, 3, none⟩)) rfl (by kernel_rfl) (by kernel_rfl) (by kernel_rfl) (fun _ _ _ h => h) (Or.inl ⟨by rfl, ?_⟩) (by assumption) ?_
      · intro wS hSw
        (try dsimp only at hSw)
        go_simp
      simp only [Act.put, List.setIfInBounds_toArray, List.set_cons_zero, List.set_cons_succ]
      refine wpAnyH_take (i := 33) (oi := ⟨some 75, _, _, _, _, _⟩) (v := .slice A4 s.m.od.length c4) rfl (by kernel_rfl) (by kernel_rfl) (by kernel_rfl) (fun _ _ _ h => h) (Or.inl ⟨by rfl, ?_⟩) (by assumption) ?_
      · intro wS hSw
        (try dsimp only at hSw)
        go_simp
      simp only [Act.put, List.setIfInBounds_toArray, List.set_cons_zero, List.set_cons_succ]
      refine wpAnyH_take (i := 34) (oi := ⟨some 76, _, _, _, _, _⟩) (v := .int .i64 s.m.od.length) rfl (by kernel_rfl) (by kernel_rfl) (by kernel_rfl) (fun _ _ _ h => h) (Or.inl ⟨by rfl, ?_⟩) (by assumption) ?_
      · intro wS hSw
        (try dsimp only at hSw)
        go_simp
      simp only [Act.put, List.setIfInBounds_toArray, List.set_cons_zero, List.set_cons_succ]
      refine wpAnyH_ready (rs := [31]) (by kernel_rfl) (by simp) ?_
      refine AllReadyH.cons (o := ⟨some 73, _, _, _, _, _⟩) rfl (fun K hK => ?_) AllReadyH.nil
      go_simp
      refine (HCN.out _ _ (by assumption)).mono ?_
      rintro e w7 ⟨rfl, hS6⟩
      refine hK.out _ _ ?_ (fun hHeld => ?_)
      · exact hS6
      clear hK K
      try simp only [Act.put, List.setIfInBounds_toArray, List.set_cons_zero, List.set_cons_succ]
      refine wpAnyH_take (i := 35) (oi := ⟨some 77, _, _, _, _, _⟩) (v := .bool true) rfl (by kernel_rfl) (by kernel_rfl) (by kernel_rfl) (fun _ _ _ h => h) (Or.inl ⟨by rfl, ?_⟩) (by assumption) ?_
      · intro wS hSw
        (try dsimp only at hSw)
        go_simp
      simp only [Act.put, List.setIfInBounds_toArray, List.set_cons_zero, List.set_cons_succ]
      refine wpAnyH_take (i := 36) (oi := ⟨some 78, _, _, _, _, _⟩) (v := .bool true) rfl (by kernel_rfl) (by kernel_rfl) (by kernel_rfl) (fun _ _ _ h => h) (Or.inl ⟨by rfl, ?_⟩) (by assumption) ?_
      · intro wS hSw
        (try dsimp only at hSw)
        go_simp
      simp only [Act.put, List.setIfInBounds_toArray, List.set_cons_zero, List.set_cons_succ]
      refine wpAnyH_take (i := 37) (oi := ⟨some 79, _, _, _, _, _⟩) (v := .bool true) rfl (by kernel_rfl) (by kernel_rfl) (by kernel_rfl) (fun _ _ _ h => h) (Or.inl ⟨by rfl, ?_⟩) (by assumption) ?_
      · intro wS hSw
        (try dsimp only at hSw)
        go_simp
      simp only [Act.put, List.setIfInBounds_toArray, List.set_cons_zero, List.set_cons_succ]
      refine wpAnyH_take (i := 38) (oi := ⟨some 80, _, _, _, _, _⟩) (v := .agg cl.toArray) rfl (by kernel_rfl) (by kernel_rfl) (by kernel_rfl) (fun _ _ _ h => h) (yieldsIf_load_mid (by rfl) 28 _ rfl g 0 rfl cl _ (fun wS hSw => hSw.1) hu rfl hil) (by assumption) ?_
      simp only [Act.put, List.setIfInBounds_toArray, List.set_cons_zero, List.set_cons_succ]
      refine wpAnyH_ready (rs := [39]) (by kernel_rfl) (by simp) ?_
      refine AllReadyH.cons (o := ⟨some 81, _, _, _, _, _⟩) rfl (fun K hK => ?_) AllReadyH.nil
      go_simp
      refine (HCN.out _ _ (by assumption)).mono ?_
      rintro e w7 ⟨rfl, hS6⟩
      refine hK.out _ _ ?_ (fun hHeld => ?_)
      · exact hS6
      clear hK K
      try simp only [Act.put, List.setIfInBounds_toArray, List.set_cons_zero, List.set_cons_succ]
      refine wpAnyH_take (i := 40) (oi := ⟨some 82, _, _, _, _, _⟩) (v := .bool true) rfl (by kernel_rfl) (by kernel_rfl) (by kernel_rfl) (fun _ _ _ h => h) (Or.inl ⟨by rfl, ?_⟩) (by assumption) ?_
      · intro wS hSw
        (try dsimp only at hSw)
        go_simp
      simp only [Act.put, List.setIfInBounds_toArray, List.set_cons_zero, List.set_cons_succ]
      refine wpAnyH_take (i := 41) (oi := ⟨some 83, _, _, _, _, _⟩) (v := .bool true) rfl (by kernel_rfl) (by kernel_rfl) (by kernel_rfl) (fun _ _ _ h => h) (Or.inl ⟨by rfl, ?_⟩) (by assumption) ?_
      · intro wS hSw
        (try dsimp only at hSw)
        go_simp
      simp only [Act.put, List.setIfInBounds_toArray, List.set_cons_zero, List.set_cons_succ]
      refine wpAnyH_take (i := 42) (oi := ⟨some 2, _, _, _, _, _⟩) (v := .bool true) rfl (by kernel_rfl) (by kernel_rfl) (by kernel_rfl) (fun _ _ _ h => h) (Or.inl ⟨by rfl, ?_⟩) (by assumption) ?_
      · intro wS hSw
        (try dsimp only at hSw)
        go_simp
      simp only [Act.put, List.setIfInBounds_toArray, List.set_cons_zero, List.set_cons_succ]
      refine wpAnyH_done (by kernel_rfl) ?_ _
      go_wp2_with fail
      go_ret
      exact ⟨rfl, HBW.out _ (HB2.out.1.trans ((HR7.out.bel.trans (hHeld.2.2.2.mono HR7.out.lt)).mono HB2.out.1.size))⟩

-- CLOSING

set_option maxRecDepth 100000 in
theorem topCounts_holds : Rows.TopCountsSaid :=
  OpenClaim.holds_of_wide 3 Tryz.f3 rfl rfl rfl rfl rfl rfl rfl ⟨rfl, rfl, rfl, rfl, rfl⟩ rfl rfl rfl rfl rfl (by kernel_rfl) Tryz.func3 (by kernel_rfl)
    (of_decide_eq_true (by kernel_rfl)) (by unfold Func.isWrapper; first | (rw [if_pos (by decide +kernel)]; kernel_rfl) | (rw [if_neg (by decide +kernel)]; exact ⟨rfl, rfl⟩))
    (fun os started H enc _ => close_lifted Rows.topCountsSpec 3 Tryz.f3 os started H enc (by kernel_rfl) Tryz.func3 (by kernel_rfl) rfl
      (fun ds hd => by
        rw [Tryz.params3] at hd
        match ds, hd with
        | [d1], _ => rfl)
      (by kernel_rfl)
      (ChangeSpec.witness6 (enc := enc) (C := Tryz.checked) false ⟨#[], #[.slice none 0 0], []⟩ 8 (by kernel_rfl) (by kernel_rfl) (by kernel_rfl) (by kernel_rfl))
      (fun W base args ds p hval hA => by
        rw [Tryz.params3] at hA hval
        obtain ⟨v0, d0, hargs, rfl, h0⟩ := trodAll_one hA
        obtain rfl : args = #[v0] := by cases args; simp_all
        obtain ⟨l0, hl0⟩ := acts_of (hval 0 _ v0 rfl rfl) h0
        exact topCounts_walk v0 l0 W hl0))
#print axioms topCounts_holds
end Go.Proofs.YtaepdbkfaoiimadGreat
