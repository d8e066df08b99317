/- TopBad returns true at every input, and leaves it as it was. Conditions: none. -/
import Derived.Test.YtaepdbkfaoiimadStoU
set_option linter.unusedVariables false
set_option linter.unusedSimpArgs false
namespace Go.Proofs.Ytaepdbkfaoiimad
open Go.ChangeShapes Go.WideShapes Go.ChangeAt Go.RowKit Go.WideMaps Go.WideElems
open Go.ChangeMaps (open_string shut_string)
attribute [local go_sem ↓] eql_err eql_nilerr neq_err neq_nilerr guard_err guard_nilerr guardn_err guardn_nilerr
def arrB (f : Nat → Bool) : Array Value := ((List.range 24).map fun b => Value.bool (f b)).toArray
theorem arrB_size (f : Nat → Bool) : (arrB f).size = 24 := by simp [arrB]
theorem arrB_get (f : Nat → Bool) {n : Nat} (h : n < 24) : (arrB f)[n]? = some (.bool (f n)) := by simp [arrB, h]
theorem arrB_set (f : Nat → Bool) (n : Nat) (x : Bool) : (arrB f).setIfInBounds n (.bool x) = arrB (fun i => if i = n then x else f i) := by
  apply Array.ext_getElem?
  intro i
  rw [Array.getElem?_setIfInBounds]
  by_cases h : n = i
  · subst h
    by_cases hn : n < 24
    · rw [if_pos rfl, if_pos (by rw [arrB_size]; exact hn), arrB_get _ hn, if_pos rfl]
    · rw [if_pos rfl, if_neg (by rw [arrB_size]; exact hn)]
      simp [arrB, hn]
  · rw [if_neg h]
    by_cases hi : i < 24
    · rw [arrB_get _ hi, arrB_get _ hi, if_neg (Ne.symm h)]
    · simp [arrB, hi]
theorem arrB_congr {f g : Nat → Bool} (h : ∀ n, n < 24 → f n = g n) : arrB f = arrB g := by
  unfold arrB
  congr 1
  refine List.map_congr_left fun n hn => ?_
  rw [h n (List.mem_range.1 hn)]
theorem arrB_zero : arrB (fun _ => false) = #[.bool false, .bool false, .bool false, .bool false, .bool false, .bool false, .bool false, .bool false, .bool false, .bool false, .bool false, .bool false, .bool false, .bool false, .bool false, .bool false, .bool false, .bool false, .bool false, .bool false, .bool false, .bool false, .bool false, .bool false] := rfl
/-- Which blocks are bad, so far. -/
structure BR (g : Nat) (w : World) (c : Chip) (n : Nat) (wr : World) : Prop where
  bel : Below g w wr
  a : Blk wr g 41 (arrB fun b => if b < n then (c.b b).bad else false)
theorem BR.store {g : Nat} {w : World} {c : Chip} {n : Nat} {wr : World} (h : BR g w c n wr) : BR g w c (n + 1) (wr.setCell ⟨g, n, none⟩ (.bool (c.b n).bad)) := by
  refine ⟨h.bel.setCell (Nat.le_refl _) _, ?_⟩
  have := h.a.set_ n (.bool (c.b n).bad)
  rw [arrB_set] at this
  rw [arrB_congr (g := fun i => if i = n then (c.b n).bad else if i < n then (c.b i).bad else false)]
  · exact this
  · intro b hb
    by_cases e : b = n
    · subst e; rw [if_pos (by omega), if_pos rfl]
    · by_cases e2 : b < n
      · rw [if_pos (by omega), if_neg e, if_pos e2]
      · rw [if_neg (by omega), if_neg e, if_neg e2]
theorem BR.end_ {g : Nat} {w : World} {c : Chip} {wr : World} (h : BR g w c 24 wr) : Blk wr g 41 (arrB (fun b => (c.b b).bad)) := by
  have := h.a
  rw [arrB_congr (g := fun b => (c.b b).bad) (fun b hb => by rw [if_pos hb])] at this
  exact this
theorem cont_take {l : List Int} {k : Nat} {x y : Int} (h : l.take (k + 1) = l.take k ++ [y]) : (l.take (k + 1)).contains x = ((l.take k).contains x || (y == x)) := by
  rw [h]
  cases hc : (l.take k).contains x
  · have : ¬ x ∈ l.take k := fun hm => by rw [List.contains_iff_mem.2 hm] at hc; cases hc
    by_cases e : y = x
    · subst e; simp
    · have e' : (y == x) = false := beq_eq_false_iff_ne.2 e
      rw [e', Bool.or_false]
      cases h2 : (List.take k l ++ [y]).contains x
      · rfl
      · have := List.contains_iff_mem.1 h2
        rcases List.mem_append.1 this with h3 | h3
        · exact absurd h3 ‹¬ x ∈ l.take k›
        · simp at h3; exact absurd h3.symm e
  · have := List.contains_iff_mem.1 hc
    rw [Bool.true_or]
    exact List.contains_iff_mem.2 (List.mem_append.2 (.inl this))
set_option maxRecDepth 20000 in
set_option maxHeartbeats 4000000 in
theorem topBad_walk (va : Value) (l : List Act) (w : World) (ha : ActsR w.heap.size w va l) :
    Calls Try.prog 4 #[va] w fun e w' => e = .returned (.bool true) ∧ Below w.heap.size w w' := by
  have HWO := Lib.hid (works_any w)
  have HFI := Lib.hid (fun W (hW : Below w.heap.size w W) => filled_any w.heap.size va l W (acts_below ha hW) hW.size)
  clear ha
  cases hg : filG l
  · have HF0 := Lib.hid (fun W hW => fil_no hg (HFI.out W hW))
    clear hg HFI
    go_enter Try.func4, Try.ntmps4
    go_wp2_with (first
      | (go_at_call 6; refine HWO.out.mono ?_; rintro e w1 ⟨rfl, hb1⟩)
      | (go_at_call 7; refine (HF0.out w1 hb1).mono ?_; rintro e w2 ⟨rfl, rfl⟩))
    go_ret
    exact ⟨rfl, hb1⟩
  have HF1 := Lib.hid (fun W hW => fil_yes hg (HFI.out W hW))
  have hl80 := filG_len hg
  clear hg HFI
  go_enter Try.func4, Try.ntmps4
  go_wp2_with (first
    | (go_at_call 6; refine HWO.out.mono ?_; rintro e w1 ⟨rfl, hb1⟩)
    | (go_at_call 7; refine (HF1.out w1 hb1).mono ?_; rintro e w2 ⟨p, q, rfl, c, s, F, hst, hrw, hFw, hpw, hb2⟩; have hb12 := hb1.trans (hb2.mono hb1.size)))
  have HB2 := Lib.hid (And.intro hb2 hb1.size)
  have HBW : Hid (∀ W, Below w1.heap.size w1 W → Below w.heap.size w W) := Lib.hid fun W hW => hb1.trans (hW.mono hb1.size)
  have HS2 := Lib.hid hst
  clear hst hrw hFw hpw hb2 hb1 hb12 HWO HF1
  have hb2z : Below w2.heap.size w2 (w2.alloc (.cells (arrB fun _ => false) 41)) := (Below.refl _ _).alloc (Nat.le_refl _) _
  have HR3 : Hid (BR w2.heap.size w2 c 0 (w2.alloc (.cells (arrB fun _ => false) 41))) := ⟨hb2z, by
    rw [arrB_congr (g := fun _ => false) (fun b _ => by simp)]
    exact Blk.new _ _ _⟩
  rw [arrB_zero] at HR3
  clear hb2z
  generalize (w2.alloc (.cells _ 41)) = w3 at *
  have HBD := Lib.hid (fun (n : Nat) (hn : n < 24) W (hW : Below w2.heap.size w2 W) => bad_any w1.heap.size p c (n : Int) W (HS2.out.ch.below hW) (by omega) (by omega))
  have HMA := Lib.hid (fun W (hW : Below w2.heap.size w2 W) => sman_st (HS2.out.below hW))
  go_wp2_with fail
  generalize hg : w2.heap.size = g at *
  go_loopw [7] (fun i wr => ∃ n : Nat, n ≤ 24 ∧ i = .int .i64 (n : Int) ∧ Hid (BR g w2 c n wr)) (fun i _ => (24 - intOf i).toNat)
  case atStart => exact ⟨0, by omega, rfl, HR3.out⟩
  case round =>
    clear HR3
    obtain ⟨n, hn, rfl, hr⟩ := hrel
    by_cases hlt : n < 24
    · have g1 : (n : Int) < 24 := by omega
      have g0 : (0 : Int) ≤ (n : Int) := by omega
      have y0 := (hr.out.a.cell n).trans (arrB_get _ hlt)
      have f0 := hr.out.a.frozen n
      have HB1 := Lib.hid (HBD.out n hlt wr hr.out.bel)
      rw [Int.toNat_natCast] at HB1
      have HX := Lib.hid hr.out.store
      clear hr
      go_wp2_with (go_at_call 13; refine HB1.out.mono ?_; rintro e w5 ⟨rfl, rfl⟩)
      go_roundw
      case rel => exact ⟨n + 1, by omega, by go_num, HX.out⟩
      case measure => simp [intOf] <;> omega
    · obtain rfl : n = 24 := by omega
      have HE := Lib.hid hr.out.end_
      have HBE := Lib.hid hr.out.bel
      have HM1 := Lib.hid (HMA.out wr hr.out.bel)
      clear hr
      go_wp2_with fail
      refine HM1.out.mono ?_
      rintro e w6 ⟨A3, c3, A4, c4, rfl, hn6, ho6, hs6, hb6⟩
      have hb7 : Below w6.heap.size w6 (w6.alloc (.cells #[.int .i64 s.m.ep, .int .i64 s.m.log, .slice A3 s.m.nw.length c3, .slice A4 s.m.od.length c4] 38)) := (Below.refl _ _).alloc (Nat.le_refl _) _
      have HB7 : Hid (Below g w2 (w6.alloc (.cells #[.int .i64 s.m.ep, .int .i64 s.m.log, .slice A3 s.m.nw.length c3, .slice A4 s.m.od.length c4] 38))) := by
        have hsz := HBE.out.size
        have h1 : g ≤ wr.heap.size := by omega
        have h2 := hb6.size
        exact (HBE.out.trans (hb6.mono h1)).trans (hb7.mono (by omega))
      have HE7 : Hid (Blk (w6.alloc (.cells #[.int .i64 s.m.ep, .int .i64 s.m.log, .slice A3 s.m.nw.length c3, .slice A4 s.m.od.length c4] 38)) g 41 (arrB (fun b => (c.b b).bad))) := (HE.out.below hb6 HE.out.lt).alloc _
      have HG7 : Hid (Blk (w6.alloc (.cells #[.int .i64 s.m.ep, .int .i64 s.m.log, .slice A3 s.m.nw.length c3, .slice A4 s.m.od.length c4] 38)) w6.heap.size 38 #[.int .i64 s.m.ep, .int .i64 s.m.log, .slice A3 s.m.nw.length c3, .slice A4 s.m.od.length c4]) := Blk.new _ _ _
      have HN7 := Lib.hid (hn6.below hb7)
      have HS7 := Lib.hid (hs6.below hb7)
      have HFL7 := Lib.hid (flush_st (hs6.below hb7) (by omega))
      clear hn6 ho6 hs6 hb6 hb7 HM1 HE HBE HMA HBD
      go_wp2_with fail
      generalize (w6.alloc _) = w7 at *
      generalize hgm : w6.heap.size = g8 at *
      clear hgm
      refine HFL7.out.mono ?_
      rintro e w8 ⟨c8, s8, F8, rfl, hs8, hr8, hF8, hf8, _, ⟨gl, hlg, hll, hlb⟩, hnwb⟩
      have HE8 : Hid (Blk w8 g 41 (arrB (fun b => (c.b b).bad))) := Blk.fr HE7.out hf8 (.inr (.inr (by decide)))
      have HG8 : Hid (Blk w8 g8 38 #[.int .i64 s.m.ep, .int .i64 s.m.log, .slice A3 s.m.nw.length c3, .slice A4 s.m.od.length c4]) := Blk.fr HG7.out hf8 (.inr (.inr (by decide)))
      have HN8 := Lib.hid (HN7.out.fr hf8)
      have HSZ7 : Hid (w1.heap.size ≤ w7.heap.size) := Nat.le_of_lt (Nat.lt_of_le_of_lt HS7.out.st.base HS7.out.st.lt)
      have HB27 : Hid (Below w1.heap.size w1 w7) := HB2.out.1.trans (HB7.out.mono (by rw [← hg]; exact HB2.out.1.size))
      have HB8 : Hid (Below w1.heap.size w1 w8) := FrQ.below HB27.out (Nat.le_refl _) hf8
      have hglr := hs8.ok.inv.body.rng s8.m.log (by simp [Man.all])
      have HRG : Hid (∀ b ∈ s8.m.nw, ∃ n : Nat, b = (n : Int) ∧ n < 24 ∧ (s.m.nw.contains b = true ∨ (c.b n).bad = false)) := by
        intro b hb
        have h1 := hs8.ok.inv.body.rng b (by simp [Man.all, hb])
        obtain ⟨n, rfl⟩ := Int.eq_ofNat_of_zero_le (show 0 ≤ b by omega)
        refine ⟨n, rfl, by omega, ?_⟩
        rcases hnwb _ hb with h2 | h2
        · exact .inl (List.contains_iff_mem.2 h2)
        · exact .inr h2
      have hgl24 : gl < 24 := by omega
      have HM8 := sman_st hs8
      rw [hlg] at HM8
      have HM8 := Lib.hid HM8
      have HLB := Lib.hid hlb
      have hnl8 := hs8.ok.inv.body.nwl
      have hnl := HS7.out.ok.inv.body.nwl
      clear hs8 hr8 hF8 hf8 hlg hll hlb hnwb hglr HFL7 HE7 HG7 HN7 HS7 HB7 HB27 HSZ7 hg
      go_wp2_with fail
      refine HM8.out.mono ?_
      rintro e w9 ⟨A5, c5, A6, c6, rfl, hn9, ho9, hs9, hb9⟩
      have hb10 : Below w9.heap.size w9 (w9.alloc (.cells #[.int .i64 s8.m.ep, .int .i64 gl, .slice A5 s8.m.nw.length c5, .slice A6 s8.m.od.length c6] 38)) := (Below.refl _ _).alloc (Nat.le_refl _) _
      have HB10 : Hid (Below w1.heap.size w1 (w9.alloc (.cells #[.int .i64 s8.m.ep, .int .i64 gl, .slice A5 s8.m.nw.length c5, .slice A6 s8.m.od.length c6] 38))) := (HB8.out.trans (hb9.mono HB8.out.size)).trans (hb10.mono (HB8.out.trans (hb9.mono HB8.out.size)).size)
      have HE10 : Hid (Blk (w9.alloc (.cells #[.int .i64 s8.m.ep, .int .i64 gl, .slice A5 s8.m.nw.length c5, .slice A6 s8.m.od.length c6] 38)) g 41 (arrB (fun b => (c.b b).bad))) := (HE8.out.below hb9 HE8.out.lt).alloc _
      have HG10 : Hid (Blk (w9.alloc (.cells #[.int .i64 s8.m.ep, .int .i64 gl, .slice A5 s8.m.nw.length c5, .slice A6 s8.m.od.length c6] 38)) g8 38 #[.int .i64 s.m.ep, .int .i64 s.m.log, .slice A3 s.m.nw.length c3, .slice A4 s.m.od.length c4]) := (HG8.out.below hb9 HG8.out.lt).alloc _
      have HM10 : Hid (Blk (w9.alloc (.cells #[.int .i64 s8.m.ep, .int .i64 gl, .slice A5 s8.m.nw.length c5, .slice A6 s8.m.od.length c6] 38)) w9.heap.size 38 #[.int .i64 s8.m.ep, .int .i64 gl, .slice A5 s8.m.nw.length c5, .slice A6 s8.m.od.length c6]) := Blk.new _ _ _
      have HN10 := Lib.hid ((HN8.out.below hb9).below hb10)
      have HX10 := Lib.hid (hn9.below hb10)
      clear hn9 ho9 hs9 hb9 hb10 HM8 HE8 HG8 HN8 HB8
      generalize hW : (w9.alloc (.cells #[.int .i64 s8.m.ep, .int .i64 gl, .slice A5 s8.m.nw.length c5, .slice A6 s8.m.od.length c6] 38)) = W at *
      have z0 : W.cell? ⟨g, gl, none⟩ = some (.bool false) := by
        have := (HE10.out.cell gl).trans (arrB_get _ hgl24)
        rw [HLB.out] at this
        exact this
      have z1 : W.cell? ⟨w9.heap.size, 1, none⟩ = some (.int .i64 gl) := HM10.out.cell 1
      have z2 : W.cell? ⟨w9.heap.size, 2, none⟩ = some (.slice A5 s8.m.nw.length c5) := HM10.out.cell 2
      have z3 : W.cell? ⟨g8, 2, none⟩ = some (.slice A3 s.m.nw.length c3) := HG10.out.cell 2
      have g4 : (0 : Int) ≤ (gl : Int) := by omega
      have g5 : (gl : Int) < 24 := by omega
      obtain ⟨_, _, e5, _, _, hc5⟩ := HX10.out.form
      cases e5
      obtain ⟨_, _, e3, _, _, hc3⟩ := HN10.out.form
      cases e3
      have HC5 := Lib.hid hc5
      have HC3 := Lib.hid hc3
      have HBI : Hid (∀ n, n < 24 → W.cell? ⟨g, n, none⟩ = some (.bool (c.b n).bad)) := fun n hn => (HE10.out.cell n).trans (arrB_get _ hn)
      clear hc5 hc3 HM10 HG10 HE10 HN10 HX10
      go_wp2_with fail
      generalize hgm : w9.heap.size = g9 at *
      clear hW hgm
      go_loopw [10] (fun i wr => ∃ n m : Nat, i = .int .i64 (n : Int) ∧ n ≤ s8.m.nw.length ∧ wr = W.drewN m) (fun i _ => s8.m.nw.length - (intOf i).toNat)
      case atStart => exact ⟨0, 0, rfl, Nat.zero_le _, rfl⟩
      case round =>
        obtain ⟨n, m, rfl, hn, rfl⟩ := hrel
        by_cases hlt : n < s8.m.nw.length
        · obtain ⟨x, hx, _, _⟩ := getElem?_of_lt hlt
          obtain ⟨b5, o5, rfl, hb5, y5⟩ := HC5.out n x hx
          obtain ⟨xn, rfl, hxn, hxb⟩ := HRG.out x (List.mem_of_getElem? hx)
          have g1 : (0 : Int) ≤ (n : Int) := by omega
          have g2 : (n : Int) < (s8.m.nw.length : Int) := by omega
          have g6 : (0 : Int) ≤ (xn : Int) := by omega
          have g7 : (xn : Int) < 24 := by omega
          have HXB := Lib.hid hxb
          have yb := HBI.out xn hxn
          clear hx hxb
          go_wp2_with fail
          go_loopw [11, 12] (fun od i wr => ∃ k m : Nat, i = .int .i64 (k : Int) ∧ k ≤ s.m.nw.length ∧ od = .bool ((s.m.nw.take k).contains (xn : Int)) ∧ wr = W.drewN m) (fun _ i _ => s.m.nw.length - (intOf i).toNat)
          case atStart => exact ⟨0, m, rfl, Nat.zero_le _, by simp, rfl⟩
          case round =>
            obtain ⟨k, m, rfl, hk, rfl, rfl⟩ := hrel
            by_cases hkl : k < s.m.nw.length
            · obtain ⟨y, hy, htk, _⟩ := getElem?_of_lt hkl
              obtain ⟨b3, o3, rfl, hb3', y3⟩ := HC3.out k y hy
              have g8' : (0 : Int) ≤ (k : Int) := by omega
              have g9' : (k : Int) < (s.m.nw.length : Int) := by omega
              have hct := cont_take (x := (xn : Int)) htk
              cases hc : (s.m.nw.take k).contains (xn : Int)
              · rw [hc, Bool.false_or] at hct
                have HCT := Lib.hid hct
                clear hy htk hct hc
                go_wp2_with fail
                go_quiet (fail)
                go_wp2_with fail
                go_roundw
                case rel => exact ⟨k + 1, m + nq, by go_num, by omega, by rw [HCT.out], by simp [World.drewN_drewN]⟩
                case measure => simp [intOf] <;> omega
              · rw [hc, Bool.true_or] at hct
                have HCT := Lib.hid hct
                clear hy htk hct hc
                go_wp2_with fail
                go_quiet (fail)
                go_wp2_with fail
                go_roundw
                case rel => exact ⟨k + 1, m + nq, by go_num, by omega, by rw [HCT.out], by simp [World.drewN_drewN]⟩
                case measure => simp [intOf] <;> omega
            · obtain rfl : k = s.m.nw.length := by omega
              have t55 : decide ((s.m.nw.length : Int) < (s.m.nw.length : Int)) = false := by simp
              rw [List.take_length]
              cases hc : s.m.nw.contains (xn : Int)
              · have hbf : (c.b xn).bad = false := HXB.out.resolve_left (by rw [hc]; simp)
                rw [hbf] at yb
                clear hc hbf
                go_wp2_with fail
                go_roundw
                case rel => exact ⟨n + 1, m, by go_num, by omega, rfl⟩
                case measure => simp [intOf] <;> omega
              · clear hc
                go_wp2_with fail
                go_roundw
                case rel => exact ⟨n + 1, m, by go_num, by omega, rfl⟩
                case measure => simp [intOf] <;> omega
        · obtain rfl : n = s8.m.nw.length := by omega
          have t48 : decide ((s8.m.nw.length : Int) < (s8.m.nw.length : Int)) = false := by simp
          go_wp2_with fail
          go_ret
          exact ⟨rfl, HBW.out _ (below_drewN' HB10.out m)⟩

-- CLOSING

set_option maxRecDepth 100000 in
theorem topBad_holds : Rows.TopBadSaid :=
  OpenClaim.holds_of_wide 4 Try.f4 rfl rfl rfl rfl rfl rfl rfl ⟨rfl, rfl, rfl, rfl, rfl⟩ rfl rfl rfl rfl rfl (by kernel_rfl) Try.func4 (by kernel_rfl)
    (of_decide_eq_true (by kernel_rfl)) (by unfold Func.isWrapper; first | (rw [if_pos (by decide +kernel)]; kernel_rfl) | (rw [if_neg (by decide +kernel)]; exact ⟨rfl, rfl⟩))
    (fun os started H enc _ => close_lifted Rows.topBadSpec 4 Try.f4 os started H enc (by kernel_rfl) Try.func4 (by kernel_rfl) rfl
      (fun ds hd => by
        rw [Try.params4] at hd
        match ds, hd with
        | [d1], _ => rfl)
      (by kernel_rfl)
      (ChangeSpec.witness6 (enc := enc) (C := Try.checked) false ⟨#[], #[.slice none 0 0], []⟩ 8 (by kernel_rfl) (by kernel_rfl) (by kernel_rfl) (by kernel_rfl))
      (fun W base args ds p hval hA => by
        rw [Try.params4] at hA hval
        obtain ⟨v0, d0, hargs, rfl, h0⟩ := trodAll_one hA
        obtain rfl : args = #[v0] := by cases args; simp_all
        obtain ⟨l0, hl0⟩ := acts_of (hval 0 _ v0 rfl rfl) h0
        exact topBad_walk v0 l0 W hl0))
#print axioms topBad_holds
end Go.Proofs.Ytaepdbkfaoiimad
