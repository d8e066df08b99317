/- TopOthers returns true at every input, and leaves it as it was. Conditions: none. -/
import Derived.Test.YtaepdbkfaoiimacMf
set_option linter.unusedVariables false
set_option linter.unusedSimpArgs false
namespace Go.Proofs.Ytaepdbkfaoiimac
open Go.ChangeShapes Go.WideShapes Go.ChangeAt Go.RowKit Go.WideMaps Go.WideElems
open Go.ChangeMaps (open_string shut_string)
attribute [local go_sem ↓] eql_err eql_nilerr neq_err neq_nilerr guard_err guard_nilerr guardn_err guardn_nilerr
set_option maxRecDepth 20000 in
set_option maxHeartbeats 4000000 in
theorem topOthers_walk (va vb : Value) (l : List Act) (batch : List Ent) (key : ByteArray) (w : World) (ha : ActsR w.heap.size w va l) (hb : Ents w.heap.size w vb batch) (hks : key.size ≤ 9223372036854775807) :
    Calls Try.prog 4 #[va, vb, .string key] w fun e w' => e = .returned (.bool true) ∧ Below w.heap.size w w' := by
  obtain ⟨A, cp, rfl, q1, q2, hcell⟩ := hb.form
  have HC := Lib.hid hcell
  have HWO := Lib.hid (works_any w)
  have HFI := Lib.hid (fun W (hW : Below w.heap.size w W) => filled_any w.heap.size va l W (acts_below ha hW) hW.size)
  have HLE := Lib.hid (fun W (hW : Below w.heap.size w W) => lightE_any w.heap.size _ batch 6 W (hb.below hW))
  have HEN := Lib.hid (fun W (hW : Below w.heap.size w W) => hb.below hW)
  clear hcell ha hb
  cases hg : filG l
  · have HF0 := Lib.hid (fun W hW => fil_no hg (HFI.out W hW))
    clear hg HFI
    go_enter Try.func4, Try.ntmps4
    go_wp2_with (first
      | (go_at_call 11; refine HWO.out.mono ?_; rintro e w1 ⟨rfl, hb1⟩)
      | (go_at_call 12; refine (HF0.out w1 hb1).mono ?_; rintro e w2 ⟨rfl, rfl⟩))
    go_ret
    exact ⟨rfl, hb1⟩
  have HF1 := Lib.hid (fun W hW => fil_yes hg (HFI.out W hW))
  have hl80 := filG_len hg
  clear hg HFI
  cases hle : lightE 6 batch
  · rw [hle] at HLE
    clear hle
    go_enter Try.func4, Try.ntmps4
    go_wp2_with (first
      | (go_at_call 11; refine HWO.out.mono ?_; rintro e w1 ⟨rfl, hb1⟩)
      | (go_at_call 12; refine (HF1.out w1 hb1).mono ?_; rintro e w2 ⟨p, q, rfl, c, s, F, hst, hrw, hFw, hpw, hb2⟩; have hb12 := hb1.trans (hb2.mono hb1.size))
      | (go_at_call 13; refine (HLE.out w2 hb12).mono ?_; rintro e w3 ⟨rfl, rfl⟩))
    go_ret
    exact ⟨rfl, hb12⟩
  rw [hle] at HLE
  by_cases hk : key.size ≤ 20
  case neg =>
    have t36 : decide ((20 : Int) < (key.size : Int)) = true := decide_eq_true (by omega)
    clear hle hk
    go_enter Try.func4, Try.ntmps4
    go_wp2_with (first
      | (go_at_call 11; refine HWO.out.mono ?_; rintro e w1 ⟨rfl, hb1⟩)
      | (go_at_call 12; refine (HF1.out w1 hb1).mono ?_; rintro e w2 ⟨p, q, rfl, c, s, F, hst, hrw, hFw, hpw, hb2⟩; have hb12 := hb1.trans (hb2.mono hb1.size))
      | (go_at_call 13; refine (HLE.out w2 hb12).mono ?_; rintro e w3 ⟨rfl, rfl⟩))
    go_ret
    exact ⟨rfl, hb12⟩
  have t36 : decide ((20 : Int) < (key.size : Int)) = false := decide_eq_false (by omega)
  clear hle
  go_enter Try.func4, Try.ntmps4
  go_wp2_with (first
    | (go_at_call 11; refine HWO.out.mono ?_; rintro e w1 ⟨rfl, hb1⟩)
    | (go_at_call 12; refine (HF1.out w1 hb1).mono ?_; rintro e w2 ⟨p, q, rfl, c, s, F, hst, hrw, hFw, hpw, hb2⟩; have hb12 := hb1.trans (hb2.mono hb1.size))
    | (go_at_call 13; refine (HLE.out w2 hb12).mono ?_; rintro e w3 ⟨rfl, rfl⟩))
  have HS2 := Lib.hid hst
  have HB12 := Lib.hid hb12
  have HB2 := Lib.hid (And.intro hb2 hb1.size)
  have HB01 := Lib.hid hb1
  have HEB : Hid (Ents w1.heap.size w2 (.slice A batch.length cp) batch) := ents_up (HEN.out w2 hb12) hb1.size
  clear hst hrw hFw hpw hb2 hb1 hb12 HLE HWO HF1 HEN t36
  go_loop [10] (fun i => ∃ n : Nat, n ≤ batch.length ∧ i = .int .i64 n ∧ Hid (∀ i x, i < n → batch[i]? = some x → x.k ≠ key)) (fun i => batch.length - (intOf i).toNat)
  case atStart => exact ⟨0, Nat.zero_le _, rfl, fun i x h => absurd h (by omega)⟩
  case round =>
    obtain ⟨n, hn, rfl, hno⟩ := hrel
    by_cases hlt : n < batch.length
    · obtain ⟨x, hx, _, _⟩ := getElem?_of_lt hlt
      obtain ⟨bb, oo, rfl, hbb, y1, y2, y3⟩ := HC.out n x hx
      have d1 := (HB12.out.cell (p := ⟨bb, oo + n * 3, none⟩) hbb).trans y1
      have g1 : (0 : Int) ≤ (n : Int) := by omega
      have g2 : (n : Int) < (batch.length : Int) := by omega
      have HX := Lib.hid hx
      clear hx y1 y2 y3
      by_cases hkk : x.k = key
      · have t50 : (x.k.toList == key.toList) = true := by rw [beq_iff_eq, hkk]
        clear hkk
        go_wp2_with fail
        go_ret
        exact ⟨rfl, HB12.out⟩
      · have t50 : (x.k.toList == key.toList) = false := by rw [beq_eq_false_iff_ne]; intro h; exact hkk ((toList_inj _ _).1 h)
        have HN : Hid (∀ i x, i < n + 1 → batch[i]? = some x → x.k ≠ key) := by
          intro i z hi hz
          by_cases e : i = n
          · subst e; rw [HX.out] at hz; cases hz; exact hkk
          · exact hno.out i z (by omega) hz
        clear hkk
        go_wp2_with fail
        go_round
        case rel => exact ⟨n + 1, by omega, by go_num, HN.out⟩
        case measure => simp [intOf] <;> omega
    · have hall : ∀ e ∈ batch, e.k ≠ key := fun e he => by
        obtain ⟨i, hi⟩ := List.getElem?_of_mem he
        exact hno.out i e (by have := (List.getElem?_eq_some_iff.1 hi).1; omega) hi
      have t41 : decide ((n : Int) < (batch.length : Int)) = false := decide_eq_false (by omega)
      have HG := Lib.hid (get_st HS2.out key hks)
      have HEQ := Lib.hid (get_others (l := batch) HS2.out.rise (rows_alive s) hall)
      clear hall hno
      go_wp2_with fail
      refine HG.out.mono ?_
      rintro e w3 ⟨rfl, hs3, hb3⟩
      have HW := Lib.hid (write_st hs3 (by omega) (HEB.out.below hb3))
      have HB3 : Hid (Below w1.heap.size w1 w3) := HB2.out.1.trans (hb3.mono HB2.out.1.size)
      clear hs3 hb3 HG
      go_wp2_with fail
      refine HW.out.mono ?_
      intro e w4 hd
      obtain ⟨c4, s4, F4, rfl, hs4, hr4, hb4⟩ := hd.st HB3.out (Nat.le_refl _)
      have hg4 := get_st hs4 key hks
      rw [hr4, HEQ.out] at hg4
      have HG4 := Lib.hid hg4
      have HB4 := Lib.hid hb4
      clear hd hs4 hr4 hb4 hg4 HW
      generalize ((getE s.rows key).getD Ent.zero).v = V at *
      generalize (getE s.rows key).isSome = I at *
      go_wp2_with fail
      refine HG4.out.mono ?_
      rintro e w5 ⟨rfl, _, hb5⟩
      have HB5 : Hid (Below w.heap.size w w5) := by
        have h1 := HB4.out.trans (hb5.mono HB4.out.size)
        exact HB01.out.trans (h1.mono HB01.out.size)
      clear hb5 HG4
      go_wp2_with fail
      go_ret
      exact ⟨by simp, HB5.out⟩

-- CLOSING

set_option maxRecDepth 100000 in
theorem topOthers_holds : Rows.TopOthersSaid :=
  OpenClaim.holds_of_wide 4 Try.f4 rfl rfl rfl rfl rfl rfl rfl ⟨rfl, rfl, rfl, rfl, rfl⟩ rfl rfl rfl rfl rfl (by kernel_rfl) Try.func4 (by kernel_rfl)
    (of_decide_eq_true (by kernel_rfl)) (by unfold Func.isWrapper; first | (rw [if_pos (by decide +kernel)]; kernel_rfl) | (rw [if_neg (by decide +kernel)]; exact ⟨rfl, rfl⟩))
    (fun os started H enc _ => close_lifted Rows.topOthersSpec 4 Try.f4 os started H enc (by kernel_rfl) Try.func4 (by kernel_rfl) rfl
      (fun ds hd => by
        rw [Try.params4] at hd
        match ds, hd with
        | [d1, d2, d3], _ => rfl)
      (by kernel_rfl)
      (ChangeSpec.witness6 (enc := enc) (C := Try.checked) false ⟨#[], #[.slice none 0 0, .slice none 0 0, .string ByteArray.empty], []⟩ 8 (by kernel_rfl) (by kernel_rfl) (by kernel_rfl) (by kernel_rfl))
      (fun W base args ds p hval hA => by
        rw [Try.params4] at hA hval
        obtain ⟨v0, v1, v2, d0, d1, d2, p0, p1, p2, hargs, rfl, rfl, h0, h1, h2⟩ := trodAll_three hA
        obtain rfl : args = #[v0, v1, v2] := by cases args; simp_all
        obtain ⟨l0, hl0⟩ := acts_of (hval 0 _ v0 rfl rfl) h0
        obtain ⟨l1, hl1⟩ := ents_of (hval 1 _ v1 rfl rfl) h1
        obtain ⟨s2, rfl, rfl, rfl, hs2⟩ := open_string Try.underlying9 (hval 2 _ v2 rfl rfl) h2
        exact topOthers_walk v0 v1 l0 l1 s2 W hl0 hl1 (by unfold maxLen at hs2; omega)))
#print axioms topOthers_holds
end Go.Proofs.Ytaepdbkfaoiimac
