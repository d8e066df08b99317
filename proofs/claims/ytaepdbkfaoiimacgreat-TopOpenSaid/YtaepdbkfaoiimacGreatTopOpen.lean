/- TopOpen returns true at every input, and leaves it as it was. Conditions: none. -/
import Derived.Test.YtaepdbkfaoiimacGreatStoU
import Derived.Test.YtaepdbkfaoiimacGreatMg
set_option linter.unusedVariables false
set_option linter.unusedSimpArgs false
namespace Go.Proofs.YtaepdbkfaoiimacGreat
open Go.ChangeShapes Go.WideShapes Go.ChangeAt Go.RowKit Go.WideMaps Go.WideElems
open Go.ChangeMaps (open_string shut_string)
attribute [local go_sem ↓] eql_err eql_nilerr neq_err neq_nilerr guard_err guard_nilerr guardn_err guardn_nilerr
set_option maxRecDepth 20000 in
set_option maxHeartbeats 4000000 in
theorem topOpen_walk (va : Value) (l : List Act) (w : World) (ha : ActsR w.heap.size w va l) :
    Calls Tryz.prog 6 #[va] w fun e w' => e = .returned (.bool true) ∧ Below w.heap.size w w' := by
  have HWO := Lib.hid (works_any w)
  have HFI := Lib.hid (fun W (hW : Below w.heap.size w W) => filled_any w.heap.size va l W (acts_below ha hW) hW.size)
  clear ha
  cases hg : filG l
  · have HF0 := Lib.hid (fun W hW => fil_no hg (HFI.out W hW))
    clear hg HFI
    go_enter Tryz.func6, Tryz.ntmps6
    go_wp2_with (first
      | (go_at_call 7; refine HWO.out.mono ?_; rintro e w1 ⟨rfl, hb1⟩)
      | (go_at_call 8; refine (HF0.out w1 hb1).mono ?_; rintro e w2 ⟨rfl, rfl⟩))
    go_ret
    exact ⟨rfl, hb1⟩
  have HF1 := Lib.hid (fun W hW => fil_yes hg (HFI.out W hW))
  have hl80 := filG_len hg
  clear hg HFI
  go_enter Tryz.func6, Tryz.ntmps6
  go_wp2_with (first
    | (go_at_call 7; refine HWO.out.mono ?_; rintro e w1 ⟨rfl, hb1⟩)
    | (go_at_call 8; refine (HF1.out w1 hb1).mono ?_; rintro e w2 ⟨p, q, rfl, c, s, F, hst, hrw, hFw, hpw, hb2⟩; have hb12 := hb1.trans (hb2.mono hb1.size)))
  have HB2 := Lib.hid (And.intro hb2 hb1.size)
  have HBW : Hid (∀ W, Below w1.heap.size w1 W → Below w.heap.size w W) := Lib.hid fun W hW => hb1.trans (hW.mono hb1.size)
  have HS2 := Lib.hid hst
  clear hst hrw hFw hpw hb2 hb1 hb12 HWO HF1
  have HOP := Lib.hid (open_st HS2.out)
  refine HOP.out.mono ?_
  rintro e w3 ⟨q2, F2, rfl, hs3, hb3, _, _⟩
  have HB3 : Hid (Below w1.heap.size w1 w3) := HB2.out.1.trans (hb3.mono HB2.out.1.size)
  have HS3 := Lib.hid (HS2.out.below hb3)
  have HT3 := Lib.hid hs3
  have HR3 := Lib.hid (rows_st (HS2.out.below hb3))
  clear hs3 hb3 HOP HS2
  go_wp2_with fail
  refine HR3.out.mono ?_
  rintro e w4 ⟨v4, rfl, hv4, hs4, hb4⟩
  have HT4 := Lib.hid (HT3.out.below hb4)
  have HR4 := Lib.hid (rows_st HT4.out)
  have HV4 := Lib.hid hv4
  have HS4 := Lib.hid hs4
  have HB4 := Lib.hid (HB3.out.trans (hb4.mono HB3.out.size))
  clear hv4 hs4 hb4 HR3 HT3 HS3
  go_wp2_with fail
  refine HR4.out.mono ?_
  rintro e w5 ⟨v5, rfl, hv5, ht5, hb5⟩
  have HSA : Hid (Calls Tryz.prog 16 #[v4, v5] w5 fun e w' => e = .returned (.bool true) ∧ ∃ n, w' = w5.drewN n) := by
    refine (same_any w1.heap.size v4 v5 s.rows s.rows w5 (HV4.out.below hb5) hv5).mono ?_
    rintro e w' ⟨rfl, n, rfl⟩
    exact ⟨by simp, n, rfl⟩
  have HS5 := Lib.hid (HS4.out.below hb5)
  have HT5 := Lib.hid ht5
  have HB5 := Lib.hid (HB4.out.trans (hb5.mono HB4.out.size))
  clear hv5 ht5 hb5 HR4 HT4 HS4 HV4
  go_wp2_with fail
  refine HSA.out.mono ?_
  rintro e w6 ⟨rfl, n, rfl⟩
  have HM6 := Lib.hid (sman_st (StS.drawN HS5.out n))
  have HT6 := Lib.hid (StS.drawN HT5.out n)
  have HB6 := Lib.hid (below_drewN' HB5.out n)
  generalize w5.drewN n = w6 at *
  clear HSA HS5 HT5 HB5
  go_wp2_with fail
  refine HM6.out.mono ?_
  rintro e w7 ⟨A3, c3, A4, c4, rfl, hn7, ho7, hs7, hb7⟩
  have HM7 := Lib.hid (sman_st (HT6.out.below hb7))
  have HN7 := Lib.hid (And.intro hn7 ho7)
  have HB7 := Lib.hid (HB6.out.trans (hb7.mono HB6.out.size))
  clear hn7 ho7 hs7 hb7 HM6 HT6
  go_wp2_with fail
  refine HM7.out.mono ?_
  rintro e w8 ⟨A5, c5, A6, c6, rfl, hn8, ho8, _, hb8⟩
  have HSM := Lib.hid (sameman_any w1.heap.size _ _ s.m s.m w8 ⟨_, _, rfl, HN7.out.1.below hb8, HN7.out.2.below hb8⟩ ⟨_, _, rfl, hn8, ho8⟩)
  have HB8 := Lib.hid (HB7.out.trans (hb8.mono HB7.out.size))
  have HSS : Hid (sameM s.m s.m = true) := by simp [Hid, sameM]
  rw [HSS.out] at HSM
  clear hn8 ho8 hb8 HM7 HN7
  go_wp2_with fail
  refine HSM.out.mono ?_
  rintro e w9 ⟨rfl, hb9⟩
  have HB9 := Lib.hid (HB8.out.trans (hb9.mono HB8.out.size))
  clear hb9 HSM
  go_wp2_with fail
  go_ret
  exact ⟨rfl, HBW.out _ HB9.out⟩

-- CLOSING

set_option maxRecDepth 100000 in
theorem topOpen_holds : Rows.TopOpenSaid :=
  OpenClaim.holds_of_wide 6 Tryz.f6 rfl rfl rfl rfl rfl rfl rfl ⟨rfl, rfl, rfl, rfl, rfl⟩ rfl rfl rfl rfl rfl (by kernel_rfl) Tryz.func6 (by kernel_rfl)
    (of_decide_eq_true (by kernel_rfl)) (by unfold Func.isWrapper; first | (rw [if_pos (by decide +kernel)]; kernel_rfl) | (rw [if_neg (by decide +kernel)]; exact ⟨rfl, rfl⟩))
    (fun os started H enc _ => close_lifted Rows.topOpenSpec 6 Tryz.f6 os started H enc (by kernel_rfl) Tryz.func6 (by kernel_rfl) rfl
      (fun ds hd => by
        rw [Tryz.params6] at hd
        match ds, hd with
        | [d1], _ => rfl)
      (by kernel_rfl)
      (ChangeSpec.witness6 (enc := enc) (C := Tryz.checked) false ⟨#[], #[.slice none 0 0], []⟩ 8 (by kernel_rfl) (by kernel_rfl) (by kernel_rfl) (by kernel_rfl))
      (fun W base args ds p hval hA => by
        rw [Tryz.params6] at hA hval
        obtain ⟨v0, d0, hargs, rfl, h0⟩ := trodAll_one hA
        obtain rfl : args = #[v0] := by cases args; simp_all
        obtain ⟨l0, hl0⟩ := acts_of (hval 0 _ v0 rfl rfl) h0
        exact topOpen_walk v0 l0 W hl0))
#print axioms topOpen_holds
end Go.Proofs.YtaepdbkfaoiimacGreat
