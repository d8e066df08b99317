/- TopRefuse returns true at every input, and leaves it as it was. Conditions: none. -/
import Derived.Test.YtaepdbkfaoiimacMf
set_option linter.unusedVariables false
set_option linter.unusedSimpArgs false
namespace Go.Proofs.Ytaepdbkfaoiimac
open Go.ChangeShapes Go.WideShapes Go.ChangeAt Go.RowKit Go.WideMaps Go.WideElems
open Go.ChangeMaps (open_string shut_string)
attribute [local go_sem ↓] eql_err eql_nilerr neq_err neq_nilerr guard_err guard_nilerr guardn_err guardn_nilerr
theorem StS.drewN {B q p k j : Nat} {w : World} {c : Chip} {s : SM} {F : List Nat} (h : StS B w q p k j c s F) (n : Nat) : StS B (w.drewN n) q p k j c s F := ⟨h.st.drewN n, h.ch.drewN n, h.ok⟩
set_option maxRecDepth 20000 in
set_option maxHeartbeats 4000000 in
theorem topRefuse_walk (va vb : Value) (l : List Act) (batch : List Ent) (w : World) (ha : ActsR w.heap.size w va l) (hb : Ents w.heap.size w vb batch) :
    Calls Try.prog 5 #[va, vb] w fun e w' => e = .returned (.bool true) ∧ Below w.heap.size w w' := by
  obtain ⟨A, cp, rfl, q1, q2, hcell⟩ := hb.form
  have HWO := Lib.hid (works_any w)
  have HFI := Lib.hid (fun W (hW : Below w.heap.size w W) => filled_any w.heap.size va l W (acts_below ha hW) hW.size)
  have HLE := Lib.hid (fun W (hW : Below w.heap.size w W) => lightE_any w.heap.size _ batch 8 W (hb.below hW))
  have HEN := Lib.hid (fun W (hW : Below w.heap.size w W) => hb.below hW)
  clear hcell ha hb
  cases hg : filG l
  · have HF0 := Lib.hid (fun W hW => fil_no hg (HFI.out W hW))
    clear hg HFI
    go_enter Try.func5, Try.ntmps5
    go_wp2_with (first
      | (go_at_call 11; refine HWO.out.mono ?_; rintro e w1 ⟨rfl, hb1⟩)
      | (go_at_call 12; refine (HF0.out w1 hb1).mono ?_; rintro e w2 ⟨rfl, rfl⟩))
    go_ret
    exact ⟨rfl, hb1⟩
  have HF1 := Lib.hid (fun W hW => fil_yes hg (HFI.out W hW))
  have hl80 := filG_len hg
  clear hg HFI
  cases hle : lightE 8 batch
  · rw [hle] at HLE
    clear hle
    go_enter Try.func5, Try.ntmps5
    go_wp2_with (first
      | (go_at_call 11; refine HWO.out.mono ?_; rintro e w1 ⟨rfl, hb1⟩)
      | (go_at_call 12; refine (HF1.out w1 hb1).mono ?_; rintro e w2 ⟨p, q, rfl, c, s, F, hst, hrw, hFw, hpw, hb2⟩; have hb12 := hb1.trans (hb2.mono hb1.size))
      | (go_at_call 13; refine (HLE.out w2 hb12).mono ?_; rintro e w3 ⟨rfl, rfl⟩))
    go_ret
    exact ⟨rfl, hb12⟩
  rw [hle] at HLE
  clear hle
  go_enter Try.func5, Try.ntmps5
  go_wp2_with (first
    | (go_at_call 11; refine HWO.out.mono ?_; rintro e w1 ⟨rfl, hb1⟩)
    | (go_at_call 12; refine (HF1.out w1 hb1).mono ?_; rintro e w2 ⟨p, q, rfl, c, s, F, hst, hrw, hFw, hpw, hb2⟩; have hb12 := hb1.trans (hb2.mono hb1.size))
    | (go_at_call 13; refine (HLE.out w2 hb12).mono ?_; rintro e w3 ⟨rfl, rfl⟩))
  have HR2 := Lib.hid (rows_st hst)
  have HB2 := Lib.hid (And.intro hb2 hb1.size)
  have HB01 := Lib.hid hb1
  have HEB : Hid (Ents w1.heap.size w2 (.slice A batch.length cp) batch) := ents_up (HEN.out w2 hb12) hb1.size
  have HRI := Lib.hid (And.intro hst.rise (rows_alive s))
  clear hst hrw hFw hpw hb2 hb1 hb12 HLE HWO HF1 HEN
  refine HR2.out.mono ?_
  rintro e w3 ⟨v3, rfl, hv3, hs3, hb3⟩
  have HB3 : Hid (Below w1.heap.size w1 w3) := HB2.out.1.trans (hb3.mono HB2.out.1.size)
  have HCK := Lib.hid (scheck_any w1.heap.size q p c s F _ batch w3 hs3.st hs3.ch hs3.ok.inv (HEB.out.below hb3))
  have HS3 := Lib.hid hs3
  have HV3 := Lib.hid hv3
  have HE3 := Lib.hid (HEB.out.below hb3)
  clear hv3 hs3 hb3 HR2
  go_wp2_with fail
  refine HCK.out.mono ?_
  rintro e w4 ⟨rfl, hb4⟩
  rw [checkM_eq]
  have hs4 := HS3.out.below hb4
  have HB4 := Lib.hid (HB3.out.trans (hb4.mono HB3.out.size))
  have HW := Lib.hid (write_st hs4 (by omega) (HE3.out.below hb4))
  have HV4 := Lib.hid (HV3.out.below hb4)
  clear hs4 hb4 HCK
  go_wp2_with fail
  refine HW.out.mono ?_
  intro e w5 hd
  obtain ⟨c5, s5, F5, rfl, hs5, hr5, hb5⟩ := hd.st HB4.out (Nat.le_refl _)
  obtain ⟨_, _, _, _, _, _, _, hf5⟩ := hd
  have HV5 := Lib.hid (HV4.out.fr hf5)
  have HS5 := Lib.hid hs5
  have HR5 := Lib.hid hr5
  have HB5 := Lib.hid hb5
  have HBW : Hid (∀ W, Below w1.heap.size w1 W → Below w.heap.size w W) := fun W hW => HB01.out.trans (hW.mono HB01.out.size)
  clear hs5 hr5 hb5 hf5 HW HV4 HV3 HE3 HS3 HEB
  have HN := Lib.hid (number_any (checkR s.rows batch))
  by_cases hck : checkR s.rows batch = 0
  · rw [hck] at HN ⊢
    rw [show errV 0 = Value.nilIface from rfl] at HN ⊢
    clear hck
    go_wp2_with (go_at_call 18; refine (HN.out _).mono ?_; rintro e w6 ⟨rfl, rfl⟩)
    go_ret
    exact ⟨rfl, HBW.out _ HB5.out⟩
  · have HRW : Hid (rowsW s.rows batch = s.rows) := by rw [Hid, rowsW, if_neg hck]
    have he : errV (checkR s.rows batch) = .iface 68 (.int .i64 (checkR s.rows batch)) := if_neg hck
    rw [he] at HN ⊢
    have HOP := Lib.hid (open_any w1.heap.size p c5 s5 w5 HS5.out.ch HS5.out.ok.inv)
    clear he hck
    generalize checkR s.rows batch = n at *
    rw [HRW.out] at HR5
    generalize s.rows = r at *
    go_wp2_with (first
      | (go_at_call 18; refine (HN.out _).mono ?_; rintro e w6 ⟨rfl, rfl⟩)
      | (go_at_call 19; refine HOP.out.mono ?_; rintro e w7 ⟨q2, F7, rfl, hs7, hb7, hq7, hF7⟩))
    have hst7 : StS w1.heap.size w7 q2 p _ _ c5 s5 F7 := ⟨hs7, HS5.out.ch.below hb7, HS5.out.ok⟩
    have HR7 := Lib.hid (rows_st (HS5.out.below hb7))
    have HV7 := Lib.hid (HV5.out.below hb7)
    have HB7 := Lib.hid (HB5.out.trans (hb7.mono HB5.out.size))
    have HS7 := Lib.hid hst7
    clear hs7 hb7 hq7 hF7 hst7 HOP HN
    refine HR7.out.mono ?_
    rintro e w8 ⟨v8, rfl, hv8, _, hb8⟩
    rw [HR5.out] at hv8
    have HSA : Hid (Calls Try.prog 20 #[v8, v3] w8 fun e w' => e = .returned (.bool true) ∧ ∃ n, w' = w8.drewN n) := by
      refine (same_any w1.heap.size v8 v3 r r w8 hv8 (HV7.out.below hb8)).mono ?_
      rintro e w' ⟨rfl, n, rfl⟩
      exact ⟨by simp, n, rfl⟩
    have HB8 := Lib.hid (HB7.out.trans (hb8.mono HB7.out.size))
    have HV8 := Lib.hid (HV7.out.below hb8)
    have HS8 := Lib.hid (HS7.out.below hb8)
    clear hv8 hb8 HR7
    go_wp2_with fail
    refine HSA.out.mono ?_
    rintro e w9 ⟨rfl, m, rfl⟩
    have HR9 := Lib.hid (rows_st (StS.drewN HS8.out m))
    have HB9 : Hid (Below w1.heap.size w1 (w8.drewN m)) := below_drewN' HB8.out m
    clear HSA
    go_wp2_with fail
    refine HR9.out.mono ?_
    rintro e w10 ⟨v10, rfl, hv10, _, hb10⟩
    rw [HR5.out] at hv10
    have HSB : Hid (Calls Try.prog 20 #[v10, v3] w10 fun e w' => e = .returned (.bool true) ∧ ∃ n, w' = w10.drewN n) := by
      refine (same_any w1.heap.size v10 v3 r r w10 hv10 ((HV8.out.drewN m).below hb10)).mono ?_
      rintro e w' ⟨rfl, n, rfl⟩
      exact ⟨by simp, n, rfl⟩
    have HB10 := Lib.hid (HB9.out.trans (hb10.mono HB9.out.size))
    clear hv10 hb10 HR9
    go_wp2_with fail
    refine HSB.out.mono ?_
    rintro e w11 ⟨rfl, m2, rfl⟩
    go_wp2_with fail
    go_ret
    exact ⟨rfl, HBW.out _ (below_drewN' HB10.out m2)⟩

-- CLOSING

set_option maxRecDepth 100000 in
theorem topRefuse_holds : Rows.TopRefuseSaid :=
  OpenClaim.holds_of_wide 5 Try.f5 rfl rfl rfl rfl rfl rfl rfl ⟨rfl, rfl, rfl, rfl, rfl⟩ rfl rfl rfl rfl rfl (by kernel_rfl) Try.func5 (by kernel_rfl)
    (of_decide_eq_true (by kernel_rfl)) (by unfold Func.isWrapper; first | (rw [if_pos (by decide +kernel)]; kernel_rfl) | (rw [if_neg (by decide +kernel)]; exact ⟨rfl, rfl⟩))
    (fun os started H enc _ => close_lifted Rows.topRefuseSpec 5 Try.f5 os started H enc (by kernel_rfl) Try.func5 (by kernel_rfl) rfl
      (fun ds hd => by
        rw [Try.params5] at hd
        match ds, hd with
        | [d1, d2], _ => rfl)
      (by kernel_rfl)
      (ChangeSpec.witness6 (enc := enc) (C := Try.checked) false ⟨#[], #[.slice none 0 0, .slice none 0 0], []⟩ 8 (by kernel_rfl) (by kernel_rfl) (by kernel_rfl) (by kernel_rfl))
      (fun W base args ds p hval hA => by
        rw [Try.params5] at hA hval
        obtain ⟨v0, v1, d0, d1, p0, p1, hargs, rfl, rfl, h0, h1⟩ := trodAll_two hA
        obtain rfl : args = #[v0, v1] := by cases args; simp_all
        obtain ⟨l0, hl0⟩ := acts_of (hval 0 _ v0 rfl rfl) h0
        obtain ⟨l1, hl1⟩ := ents_of (hval 1 _ v1 rfl rfl) h1
        exact topRefuse_walk v0 v1 l0 l1 W hl0 hl1))
#print axioms topRefuse_holds
end Go.Proofs.Ytaepdbkfaoiimac
