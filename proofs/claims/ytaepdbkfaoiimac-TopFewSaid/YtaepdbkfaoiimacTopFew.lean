/- TopFew returns true at every input, and leaves it as it was. Conditions: none. -/
import Derived.Test.YtaepdbkfaoiimacMh
set_option linter.unusedVariables false
set_option linter.unusedSimpArgs false
namespace Go.Proofs.Ytaepdbkfaoiimac
open Go.ChangeShapes Go.WideShapes Go.ChangeAt Go.RowKit Go.WideMaps Go.WideElems
open Go.ChangeMaps (open_string shut_string)
attribute [local go_sem ↓] eql_err eql_nilerr neq_err neq_nilerr guard_err guard_nilerr guardn_err guardn_nilerr
theorem all_at {c : Chip} {s : SM} (hi : Inv c s) {n : Nat} {b : Int} (hn : 0 < n) (h : s.m.all[n]? = some b) : ∃ l, TabAt c b.toNat l ∧ 0 < l.length ∧ 2 ≤ b ∧ b < 24 := by
  obtain ⟨m, rfl⟩ : ∃ m, n = m + 1 := ⟨n - 1, by omega⟩
  have h1 : (s.m.nw ++ s.m.od)[m]? = some b := by simpa [Man.all] using h
  obtain ⟨l, h2, h3⟩ := tabsAt_at hi.body.tabs _ b h1
  have hr := hi.body.rng b (List.mem_of_getElem? h)
  exact ⟨l, h3, by have := tabF_parts h3.ok; omega, by omega, by omega⟩
theorem all_ne {c : Chip} {s : SM} (hi : Inv c s) {i k : Nat} {x y : Int} (hk : k < i) (hx : s.m.all[k]? = some x) (hy : s.m.all[i]? = some y) : x ≠ y := by
  have hnd := (fault_zero.1 hi.body.fault).2.2.2
  intro e
  subst e
  have h1 := (List.getElem?_eq_some_iff.1 hx).1
  have := (List.getElem?_inj h1 hnd).1 (hx.trans hy.symm)
  omega
set_option maxRecDepth 20000 in
set_option maxHeartbeats 4000000 in
theorem topFew_walk (va : Value) (l : List Act) (w : World) (ha : ActsR w.heap.size w va l) :
    Calls Try.prog 9 #[va] w fun e w' => e = .returned (.bool true) ∧ Below w.heap.size w w' := by
  have HWO := Lib.hid (works_any w)
  have HFI := Lib.hid (fun W (hW : Below w.heap.size w W) => filled_any w.heap.size va l W (acts_below ha hW) hW.size)
  clear ha
  cases hg : filG l
  · have HF0 := Lib.hid (fun W hW => fil_no hg (HFI.out W hW))
    clear hg HFI
    go_enter Try.func9, Try.ntmps9
    go_wp2_with (first
      | (go_at_call 11; refine HWO.out.mono ?_; rintro e w1 ⟨rfl, hb1⟩)
      | (go_at_call 12; refine (HF0.out w1 hb1).mono ?_; rintro e w2 ⟨rfl, rfl⟩))
    go_ret
    exact ⟨rfl, hb1⟩
  have HF1 := Lib.hid (fun W hW => fil_yes hg (HFI.out W hW))
  have hl80 := filG_len hg
  clear hg HFI
  go_enter Try.func9, Try.ntmps9
  go_wp2_with (first
    | (go_at_call 11; refine HWO.out.mono ?_; rintro e w1 ⟨rfl, hb1⟩)
    | (go_at_call 12; refine (HF1.out w1 hb1).mono ?_; rintro e w2 ⟨p, q, rfl, c, s, F, hst, hrw, hFw, hpw, hb2⟩))
  have hnl := hst.ok.nw
  have hol := hst.ok.inv.body.odl
  have HMA := Lib.hid (sman_any w1.heap.size q p s F w2 hst.st (by omega) (by omega))
  have HB2 := Lib.hid (And.intro hb2 hb1.size)
  have HB01 := Lib.hid hb1
  have HS2 := Lib.hid hst
  have HAT := Lib.hid (fun n b hn hb => all_at (n := n) (b := b) hst.ok.inv hn hb)
  have HNE := Lib.hid (fun i k x y hk hx hy => all_ne (i := i) (k := k) (x := x) (y := y) hst.ok.inv hk hx hy)
  have HRG := Lib.hid hst.ok.inv.body.rng
  have HUP := Lib.hid hst.ok.inv.up
  clear hst hrw hFw hpw hb2 hb1 HWO HF1
  refine HMA.out.mono ?_
  rintro e w3 ⟨A3, c3, A4, c4, rfl, hn3, ho3, hb3⟩
  have hg3 := Blk.new w3 52 #[.int .i64 s.m.ep, .int .i64 s.m.log, .slice A3 s.m.nw.length c3, .slice A4 s.m.od.length c4]
  have hb34 : Below w3.heap.size w3 (w3.alloc (.cells #[.int .i64 s.m.ep, .int .i64 s.m.log, .slice A3 s.m.nw.length c3, .slice A4 s.m.od.length c4] 52)) := (Below.refl _ _).alloc (Nat.le_refl _) _
  have HB4 : Hid (Below w1.heap.size w1 (w3.alloc (.cells #[.int .i64 s.m.ep, .int .i64 s.m.log, .slice A3 s.m.nw.length c3, .slice A4 s.m.od.length c4] 52))) := (HB2.out.1.trans (hb3.mono HB2.out.1.size)).trans (hb34.mono (HB2.out.1.trans (hb3.mono HB2.out.1.size)).size)
  have HS4 : Hid (StS w1.heap.size (w3.alloc (.cells #[.int .i64 s.m.ep, .int .i64 s.m.log, .slice A3 s.m.nw.length c3, .slice A4 s.m.od.length c4] 52)) q p l.length (weakN l) c s F) := (HS2.out.below hb3).below hb34
  have HG4 := Lib.hid hg3
  have HN4 := Lib.hid (hn3.below hb34)
  have HO4 := Lib.hid (ho3.below hb34)
  have t28 : decide ((3 : Int) ≤ (s.m.nw.length : Int)) = false := decide_eq_false (by omega)
  have t33 : decide ((3 : Int) < (s.m.od.length : Int)) = false := decide_eq_false (by omega)
  clear hn3 ho3 hb3 hg3 hb34 HMA
  have x0 := HG4.out.cell 0
  have x1 := HG4.out.cell 1
  have x2 := HG4.out.cell 2
  have x3 := HG4.out.cell 3
  simp at x0 x1 x2 x3
  go_wp2_with fail
  generalize hW : (w3.alloc (.cells #[.int .i64 s.m.ep, .int .i64 s.m.log, .slice A3 s.m.nw.length c3, .slice A4 s.m.od.length c4] 52)) = W at *
  generalize hgg : w3.heap.size = g at *
  clear hW
  have HC : Hid (∀ w' : World, Below W.heap.size W w' → ((w'.cell? ⟨g, 1, none⟩ = some (.int .i64 s.m.log) ∧ w'.cell? ⟨g, 2, none⟩ = some (.slice A3 s.m.nw.length c3) ∧ w'.cell? ⟨g, 3, none⟩ = some (.slice A4 s.m.od.length c4)) ∧ Below W.heap.size W w')) := by
    intro w' hb
    have h := HG4.out.below hb HG4.out.lt
    have y1 := h.cell 1
    have y2 := h.cell 2
    have y3 := h.cell 3
    simp at y1 y2 y3
    exact ⟨⟨y1, y2, y3⟩, hb⟩
  have HB1 : Hid (Below W.heap.size W W.drew) := (Below.refl _ _).drew
  have HBI : Hid (Below W.heap.size W (W.alloc (.cells #[.int .i64 s.m.log] 3)).drew) := ((Below.refl _ _).alloc (Nat.le_refl _) _).drew
  have HN2 : Hid (Ints w1.heap.size (W.alloc (.cells #[.int .i64 s.m.log] 3)).drew (.slice A3 s.m.nw.length c3) s.m.nw) := HN4.out.below HBI.out
  have HO2 : Hid (∀ w', Below W.heap.size W w' → Ints w1.heap.size w' (.slice A4 s.m.od.length c4) s.m.od) := fun w' hb => HO4.out.below hb
  have HQ : Hid ((W.alloc (.cells #[.int .i64 s.m.log] 3)).drew.ownsRow W.heap.size 3 1 (.slice (some ⟨W.heap.size, 0, none⟩) 1 1) 1 [.int .i64 s.m.log]) := own_one ((Blk.new W 3 #[.int .i64 s.m.log]).drewN 1) (Nat.le_refl _)
  have T1 : Hid (1 + s.m.nw.length ≤ maxLen ∧ (1 + s.m.nw.length) * 8 ≤ 140737488355328 ∧ W.heap.size ≤ (W.alloc (.cells #[.int .i64 s.m.log] 3)).drew.heap.size) := ⟨by unfold maxLen; omega, by omega, HBI.out.size⟩
  have T2 : Hid (1 + s.m.nw.length + s.m.od.length ≤ maxLen ∧ (1 + s.m.nw.length + s.m.od.length) * 8 ≤ 140737488355328) := ⟨by unfold maxLen; omega, by omega⟩
  obtain ⟨i0, hi, hz0, hz1, hz2⟩ := info_parts info_int
  clear x0 x1 x2 x3
  go_region_held3 (fun w' => ((w'.cell? ⟨g, 1, none⟩ = some (.int .i64 s.m.log) ∧ w'.cell? ⟨g, 2, none⟩ = some (.slice A3 s.m.nw.length c3) ∧ w'.cell? ⟨g, 3, none⟩ = some (.slice A4 s.m.od.length c4)) ∧ Below W.heap.size W w'))
    ((first
      | exact HC.out _ hB6
      | exact HC.out _ hB5
      | exact HC.out _ HB1.out
      | exact HC.out _ HBI.out))
    ((first
      | (refine step_append_rd rfl (.tmp 37) (.tmp 39) 50 rfl W.heap.size 3 i0 (.int .i64 0) 1 8 Try.underlying50 hi hz0 hz1 hz2 rfl (by decide) (.slice (some ⟨W.heap.size, 0, none⟩) 1 1) 1 [.int .i64 s.m.log] rfl HQ.out w1.heap.size 3 (.slice A3 s.m.nw.length c3) s.m.nw.length (s.m.nw.map (.int .i64)) rfl HN2.out ints_one T1.out.1 T1.out.2.1 T1.out.2.2 ?_; intro v4 w4 hown4 hg4 hat4; have hB5 : Below W.heap.size W w4 := below_own HBI.out (Nat.le_refl _) HQ.out hg4; obtain ⟨A5, c5, rfl⟩ := rd_form' (Rd.of_own (B := 0) hown4))
      | (refine step_append_rd rfl (.tmp 40) (.tmp 42) 50 rfl W.heap.size 3 i0 (.int .i64 0) 1 8 Try.underlying50 hi hz0 hz1 hz2 rfl (by decide) (.slice A5 (1 + s.m.nw.length) c5) (1 + s.m.nw.length) ([.int .i64 s.m.log] ++ s.m.nw.map (.int .i64)) rfl hown4 w1.heap.size 3 (.slice A4 s.m.od.length c4) s.m.od.length (s.m.od.map (.int .i64)) rfl (HO2.out _ hB5) ints_one T2.out.1 T2.out.2 hB5.size ?_; intro v5 w5 hown5 hg5 hat5; have hB6 : Below W.heap.size W w5 := below_own hB5 (Nat.le_refl _) hown4 hg5)))
  have HI : Hid (Ints W.heap.size w5 v5 s.m.all) := by
    have := Rd.of_own (B := W.heap.size) hown5
    have e : (1 + s.m.nw.length + s.m.od.length) = s.m.all.length := by simp [Man.all]; omega
    rw [e] at this
    have e2 : [Value.int .i64 s.m.log] ++ s.m.nw.map (.int .i64) ++ s.m.od.map (.int .i64) = s.m.all.map (.int .i64) := by simp [Man.all]
    rw [e2] at this
    exact this
  have HBL : Hid (Below W.heap.size W w5) := hB6
  obtain ⟨A6, c6, rfl, q1, q2, hcell⟩ := HI.out.form
  have hlen : s.m.all.length ≤ 10 := by simp [Man.all]; omega
  have HC5 := Lib.hid hcell
  clear hcell hown4 hown5 hg4 hg5 hat4 hat5 hB5 hB6 T1 T2 HC HB1 HBI HN2 HO2 HQ hi hz0 hz1 hz2 HI HG4 HN4 HO4
  generalize s.m.all = al at *
  go_wp2_with fail
  go_loopw [8] (fun i wr => ∃ n : Nat, n ≤ al.length ∧ i = .int .i64 n ∧ Hid (Below w5.heap.size w5 wr)) (fun i _ => al.length - (intOf i).toNat)
  case atStart => exact ⟨0, Nat.zero_le _, rfl, Below.refl _ _⟩
  case round =>
    obtain ⟨n, hn, rfl, hbl⟩ := hrel
    by_cases hlt : n < al.length
    · obtain ⟨x, hx, _, _⟩ := getElem?_of_lt hlt
      obtain ⟨b, o, rfl, hb, d0⟩ := HC5.out n x hx
      have d1 := (hbl.out.cell (p := ⟨b, o + n, none⟩) hb).trans d0
      have hr := HRG.out x (List.mem_of_getElem? hx)
      have g1 : (0 : Int) ≤ (n : Int) := by omega
      have g2 : (n : Int) < (al.length : Int) := by omega
      have t54 : decide (x < 2) = false := decide_eq_false (by omega)
      have t60 : decide ((24 : Int) ≤ x) = false := decide_eq_false (by omega)
      have HX := Lib.hid hx
      have HD := Lib.hid d0
      clear hx d0
      obtain ⟨wo, hwo⟩ : ∃ wo : World, wo = wr := ⟨_, rfl⟩
      go_wp2_with fail
      go_loopw [9] (fun i wr => ∃ m : Nat, m ≤ n ∧ i = .int .i64 m ∧ Hid (Below w5.heap.size w5 wr)) (fun i _ => n - (intOf i).toNat)
      case atStart => exact ⟨0, Nat.zero_le _, rfl, hbl.out⟩
      case round =>
        obtain ⟨m, hm, rfl, hbl'⟩ := hrel
        by_cases hmn : m < n
        · have hml : m < al.length := by omega
          obtain ⟨y, hy, _, _⟩ := getElem?_of_lt hml
          obtain ⟨b', o', e', hb', z0⟩ := HC5.out m y hy
          cases e'
          have z1 := (hbl'.out.cell (p := ⟨b, o + m, none⟩) hb).trans z0
          have z2 := (hbl'.out.cell (p := ⟨b, o + n, none⟩) hb).trans HD.out
          have hne := HNE.out n m y x hmn hy HX.out
          have t75 : (y == x) = false := by rw [beq_eq_false_iff_ne]; exact hne
          have g3 : (0 : Int) ≤ (m : Int) := by omega
          have g4 : (m : Int) < (al.length : Int) := by omega
          have t64 : decide ((m : Int) < (n : Int)) = true := decide_eq_true (by omega)
          clear hy z0 hne
          go_wp2_with fail
          go_quiet (fail)
          go_wp2_with fail
          go_roundw
          case rel => exact ⟨m + 1, by omega, by go_num, below_drewN' hbl'.out _⟩
          case measure => simp [intOf] <;> omega
        · have t64 : decide ((m : Int) < (n : Int)) = false := decide_eq_false (by omega)
          have z2 := (hbl'.out.cell (p := ⟨b, o + n, none⟩) hb).trans HD.out
          cases n with
          | zero =>
            go_wp2_with fail
            go_roundw
            case rel => exact ⟨1, by omega, by go_num, hbl'.out⟩
            case measure => simp [intOf] <;> omega
          | succ n' =>
            obtain ⟨lx, htab, hpos, hx2, hx24⟩ := HAT.out (n' + 1) x (by omega) HX.out
            obtain ⟨bn, rfl⟩ := Int.eq_ofNat_of_zero_le (show 0 ≤ x by omega)
            rw [Int.toNat_natCast] at htab
            have HTA := Lib.hid (taball_any w1.heap.size p bn c lx wr ((HS4.out.below HBL.out).below hbl'.out).ch (by omega) HUP.out htab)
            have g5 : (0 : Int) < (n' : Int) + 1 := by omega
            have g6 : (0 : Int) ≤ (n' : Int) + 1 := by omega
            have g7 : (n' : Int) + 1 < (al.length : Int) := by omega
            have t92 : ((lx.length : Int) == 0) = false := by rw [beq_eq_false_iff_ne]; omega
            clear htab hpos
            go_wp2_with fail
            refine HTA.out.mono ?_
            rintro e w6 ⟨v6, rfl, hv6, hb6⟩
            obtain ⟨A7, c7, rfl, _, _, _⟩ := hv6.form
            have HB6 := Lib.hid (hbl'.out.trans (hb6.mono hbl'.out.size))
            clear hv6 hb6 HTA
            go_wp2_with fail
            go_roundw
            case rel => exact ⟨n' + 1 + 1, by omega, by go_num, HB6.out⟩
            case measure => simp [intOf] <;> omega
    · have t47 : decide ((n : Int) < (al.length : Int)) = false := decide_eq_false (by omega)
      go_wp2_with fail
      go_ret
      have hz := (HB4.out.trans (HBL.out.mono HB4.out.size)).trans (hbl.out.mono (HB4.out.trans (HBL.out.mono HB4.out.size)).size)
      exact ⟨rfl, HB01.out.trans (hz.mono HB01.out.size)⟩

-- CLOSING

set_option maxRecDepth 100000 in
theorem topFew_holds : Rows.TopFewSaid :=
  OpenClaim.holds_of_wide 9 Try.f9 rfl rfl rfl rfl rfl rfl rfl ⟨rfl, rfl, rfl, rfl, rfl⟩ rfl rfl rfl rfl rfl (by kernel_rfl) Try.func9 (by kernel_rfl)
    (of_decide_eq_true (by kernel_rfl)) (by unfold Func.isWrapper; first | (rw [if_pos (by decide +kernel)]; kernel_rfl) | (rw [if_neg (by decide +kernel)]; exact ⟨rfl, rfl⟩))
    (fun os started H enc _ => close_lifted Rows.topFewSpec 9 Try.f9 os started H enc (by kernel_rfl) Try.func9 (by kernel_rfl) rfl
      (fun ds hd => by
        rw [Try.params9] at hd
        match ds, hd with
        | [d1], _ => rfl)
      (by kernel_rfl)
      (ChangeSpec.witness6 (enc := enc) (C := Try.checked) false ⟨#[], #[.slice none 0 0], []⟩ 8 (by kernel_rfl) (by kernel_rfl) (by kernel_rfl) (by kernel_rfl))
      (fun W base args ds p hval hA => by
        rw [Try.params9] at hA hval
        obtain ⟨v0, d0, hargs, rfl, h0⟩ := trodAll_one hA
        obtain rfl : args = #[v0] := by cases args; simp_all
        obtain ⟨l0, hl0⟩ := acts_of (hval 0 _ v0 rfl rfl) h0
        exact topFew_walk v0 l0 W hl0))
#print axioms topFew_holds
end Go.Proofs.Ytaepdbkfaoiimac
