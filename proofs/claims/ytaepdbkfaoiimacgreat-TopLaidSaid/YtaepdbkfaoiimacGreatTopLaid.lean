/- TopLaid returns true at every input, and leaves it as it was. Conditions: none. -/
import Derived.Test.YtaepdbkfaoiimacGreatStoU
set_option linter.unusedVariables false
set_option linter.unusedSimpArgs false
namespace Go.Proofs.YtaepdbkfaoiimacGreat
open Go.ChangeShapes Go.WideShapes Go.ChangeAt Go.RowKit Go.WideMaps Go.WideElems
open Go.ChangeMaps (open_string shut_string)
attribute [local go_sem ↓] eql_err eql_nilerr neq_err neq_nilerr guard_err guard_nilerr guardn_err guardn_nilerr
theorem run_mfield1 (a b c d : Value) (w : World) : (Instr.field 54 (.agg #[a, b, c, d]) 1).run Tryz.prog w = .ok b w := by
  simp [Instr.field, run_underlying Tryz.underlying54, run_underlying Tryz.underlying3, part, asAgg, isAgg, go_sem]
theorem run_mfield2 (a b c d : Value) (w : World) : (Instr.field 54 (.agg #[a, b, c, d]) 2).run Tryz.prog w = .ok c w := by
  simp [Instr.field, run_underlying Tryz.underlying54, run_underlying Tryz.underlying52, part, asAgg, isAgg, go_sem]
set_option maxRecDepth 20000 in
set_option maxHeartbeats 4000000 in
theorem topLaid_walk (va : Value) (l : List Act) (compact : Bool) (w : World) (ha : ActsR w.heap.size w va l) :
    Calls Tryz.prog 5 #[va, .bool compact] w fun e w' => e = .returned (.bool true) ∧ Below w.heap.size w w' := by
  have HWO := Lib.hid (works_any w)
  have HFI := Lib.hid (fun W (hW : Below w.heap.size w W) => filled_any w.heap.size va l W (acts_below ha hW) hW.size)
  clear ha
  cases hg : filG l
  · have HF0 := Lib.hid (fun W hW => fil_no hg (HFI.out W hW))
    clear hg HFI
    go_enter Tryz.func5, Tryz.ntmps5
    go_wp2_with (first
      | (go_at_call 7; refine HWO.out.mono ?_; rintro e w1 ⟨rfl, hb1⟩)
      | (go_at_call 8; refine (HF0.out w1 hb1).mono ?_; rintro e w2 ⟨rfl, rfl⟩))
    go_ret
    exact ⟨rfl, hb1⟩
  have HF1 := Lib.hid (fun W hW => fil_yes hg (HFI.out W hW))
  have hl80 := filG_len hg
  clear hg HFI
  cases compact
  case true =>
    go_enter Tryz.func5, Tryz.ntmps5
    go_wp2_with (first
      | (go_at_call 7; refine HWO.out.mono ?_; rintro e w1 ⟨rfl, hb1⟩)
      | (go_at_call 8; refine (HF1.out w1 hb1).mono ?_; rintro e w2 ⟨p, q, rfl, c, s, F, hst, hrw, hFw, hpw, hb2⟩; have hb12 := hb1.trans (hb2.mono hb1.size)))
    have HB2 := Lib.hid (And.intro hb2 hb1.size)
    have HBW : Hid (∀ W, Below w1.heap.size w1 W → Below w.heap.size w W) := Lib.hid fun W hW => hb1.trans (hW.mono hb1.size)
    have HS2 := Lib.hid hst
    clear hst hrw hFw hpw hb2 hb1 hb12 HWO HF1
    have HR2 := Lib.hid (rows_st HS2.out)
    clear HS2
    refine HR2.out.mono ?_
    rintro e w3 ⟨v3, rfl, hv3, hs3, hb3⟩
    have HB3 : Hid (Below w1.heap.size w1 w3) := HB2.out.1.trans (hb3.mono HB2.out.1.size)
    have HV3 := Lib.hid hv3
    have hf1 := run_mfield1
    have hf2 := run_mfield2
    have HCO := Lib.hid (comp_st hs3 (by omega))
    have HS3 := Lib.hid hs3
    clear hv3 hs3 hb3 HR2 HB2
    go_wp2_with fail
    refine HCO.out.mono ?_
    rintro e w4 ⟨c4, s4, F4, rfl, hs4, hr4, hF4, hf4, _, hn4, _⟩
    have HV4 := Lib.hid (HV3.out.fr hf4)
    have HB4 := Lib.hid (HB3.out.trans (FrQ.below (Below.refl _ _) HB3.out.size hf4))
    have HR4 := Lib.hid hr4
    have HN4 : Hid (s4.m.nw.length = 0) := by rw [hn4]; rfl
    have HM4 := Lib.hid (sman_st hs4)
    clear hs4 hr4 hF4 hf4 hn4 HCO HV3 HS3
    rw [HN4.out] at HM4
    go_wp2_with fail
    refine HM4.out.mono ?_
    rintro e w5 ⟨A3, c3, A4, c5, rfl, _, _, hs5, hb5⟩
    have HV5 := Lib.hid (HV4.out.below hb5)
    have HB5 := Lib.hid (HB4.out.trans (hb5.mono HB4.out.size))
    have HR5 := Lib.hid (rows_st hs5)
    clear hs5 hb5 HM4 HV4 HB4
    go_wp2_with fail
    refine HR5.out.mono ?_
    rintro e w6 ⟨v6, rfl, hv6, hs6, hb6⟩
    rw [HR4.out] at hv6
    have HSA : Hid (Calls Tryz.prog 16 #[v6, v3] w6 fun e w' => e = .returned (.bool true) ∧ ∃ n, w' = w6.drewN n) := by
      refine (same_any w1.heap.size v6 v3 s.rows s.rows w6 hv6 (HV5.out.below hb6)).mono ?_
      rintro e w' ⟨rfl, n, rfl⟩
      exact ⟨by simp, n, rfl⟩
    have HB6 := Lib.hid (HB5.out.trans (hb6.mono HB5.out.size))
    clear hv6 hs6 hb6 HR5 HV5
    go_wp2_with fail
    refine HSA.out.mono ?_
    rintro e w7 ⟨rfl, n, rfl⟩
    go_wp2_with fail
    go_ret
    exact ⟨rfl, HBW.out _ (below_drewN' HB6.out n)⟩
  case false =>
    go_enter Tryz.func5, Tryz.ntmps5
    go_wp2_with (first
      | (go_at_call 7; refine HWO.out.mono ?_; rintro e w1 ⟨rfl, hb1⟩)
      | (go_at_call 8; refine (HF1.out w1 hb1).mono ?_; rintro e w2 ⟨p, q, rfl, c, s, F, hst, hrw, hFw, hpw, hb2⟩; have hb12 := hb1.trans (hb2.mono hb1.size)))
    have HB2 := Lib.hid (And.intro hb2 hb1.size)
    have HBW : Hid (∀ W, Below w1.heap.size w1 W → Below w.heap.size w W) := Lib.hid fun W hW => hb1.trans (hW.mono hb1.size)
    have HS2 := Lib.hid hst
    clear hst hrw hFw hpw hb2 hb1 hb12 HWO HF1
    have HR2 := Lib.hid (rows_st HS2.out)
    clear HS2
    refine HR2.out.mono ?_
    rintro e w3 ⟨v3, rfl, hv3, hs3, hb3⟩
    have HB3 : Hid (Below w1.heap.size w1 w3) := HB2.out.1.trans (hb3.mono HB2.out.1.size)
    have HV3 := Lib.hid hv3
    have hf1 := run_mfield1
    have hf2 := run_mfield2
    have HCO := Lib.hid (flush_st hs3 (by omega))
    have HS3 := Lib.hid hs3
    clear hv3 hs3 hb3 HR2 HB2
    go_wp2_with fail
    refine HCO.out.mono ?_
    rintro e w4 ⟨c4, s4, F4, rfl, hs4, hr4, hF4, hf4, _, ⟨g, hg, hgl, _⟩, _⟩
    have HV4 := Lib.hid (HV3.out.fr hf4)
    have HB4 := Lib.hid (HB3.out.trans (FrQ.below (Below.refl _ _) HB3.out.size hf4))
    have HR4 := Lib.hid hr4
    have HM4 := Lib.hid (sman_st hs4)
    have hgr := hs4.ok.inv.body.rng s4.m.log (by simp [Man.all])
    have HG4 : Hid (∀ W, StS w1.heap.size W q p (l.length + 1) (weakN l) c4 s4 F4 → Calls Tryz.prog 23 #[.pointer (some ⟨p, 0, none⟩), .int .i64 g] W fun e w' => e = .returned (.int .i64 0) ∧ W = w') := by
      intro W hW
      have := next_any w1.heap.size p c4 g W hW.ch (by omega) (by omega)
      rw [Int.toNat_natCast, hgl] at this
      exact this
    clear hs4 hr4 hF4 hf4 hgl hgr HCO HV3 HS3
    rw [hg] at HM4
    go_wp2_with fail
    refine HM4.out.mono ?_
    rintro e w5 ⟨A3, c3, A4, c5, rfl, _, _, hs5, hb5⟩
    have HV5 := Lib.hid (HV4.out.below hb5)
    have HB5 := Lib.hid (HB4.out.trans (hb5.mono HB4.out.size))
    have HR5 := Lib.hid (rows_st hs5)
    have HG5 := Lib.hid (HG4.out w5 hs5)
    clear hs5 hb5 HM4 HV4 HB4 HG4
    go_wp2_with (go_at_call 23; refine HG5.out.mono ?_; rintro e wq ⟨rfl, rfl⟩)
    refine HR5.out.mono ?_
    rintro e w6 ⟨v6, rfl, hv6, hs6, hb6⟩
    rw [HR4.out] at hv6
    have HSA : Hid (Calls Tryz.prog 16 #[v6, v3] w6 fun e w' => e = .returned (.bool true) ∧ ∃ n, w' = w6.drewN n) := by
      refine (same_any w1.heap.size v6 v3 s.rows s.rows w6 hv6 (HV5.out.below hb6)).mono ?_
      rintro e w' ⟨rfl, n, rfl⟩
      exact ⟨by simp, n, rfl⟩
    have HB6 := Lib.hid (HB5.out.trans (hb6.mono HB5.out.size))
    clear hv6 hs6 hb6 HR5 HV5
    go_wp2_with fail
    refine HSA.out.mono ?_
    rintro e w7 ⟨rfl, n, rfl⟩
    go_wp2_with fail
    go_ret
    exact ⟨rfl, HBW.out _ (below_drewN' HB6.out n)⟩

-- CLOSING

set_option maxRecDepth 100000 in
theorem topLaid_holds : Rows.TopLaidSaid :=
  OpenClaim.holds_of_wide 5 Tryz.f5 rfl rfl rfl rfl rfl rfl rfl ⟨rfl, rfl, rfl, rfl, rfl⟩ rfl rfl rfl rfl rfl (by kernel_rfl) Tryz.func5 (by kernel_rfl)
    (of_decide_eq_true (by kernel_rfl)) (by unfold Func.isWrapper; first | (rw [if_pos (by decide +kernel)]; kernel_rfl) | (rw [if_neg (by decide +kernel)]; exact ⟨rfl, rfl⟩))
    (fun os started H enc _ => close_lifted Rows.topLaidSpec 5 Tryz.f5 os started H enc (by kernel_rfl) Tryz.func5 (by kernel_rfl) rfl
      (fun ds hd => by
        rw [Tryz.params5] at hd
        match ds, hd with
        | [d1, d2], _ => rfl)
      (by kernel_rfl)
      (ChangeSpec.witness6 (enc := enc) (C := Tryz.checked) false ⟨#[], #[.slice none 0 0, .bool false], []⟩ 8 (by kernel_rfl) (by kernel_rfl) (by kernel_rfl) (by kernel_rfl))
      (fun W base args ds p hval hA => by
        rw [Tryz.params5] at hA hval
        obtain ⟨v0, v1, d0, d1, p0, p1, hargs, rfl, rfl, h0, h1⟩ := trodAll_two hA
        obtain rfl : args = #[v0, v1] := by cases args; simp_all
        obtain ⟨l0, hl0⟩ := acts_of (hval 0 _ v0 rfl rfl) h0
        obtain ⟨b1, rfl, rfl, rfl⟩ := open_bool Tryz.underlying4 (hval 1 _ v1 rfl rfl) h1
        exact topLaid_walk v0 l0 b1 W hl0))
#print axioms topLaid_holds
end Go.Proofs.YtaepdbkfaoiimacGreat
