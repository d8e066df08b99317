/- TopText: returns true, at any entries. Conditions: none. -/
import Derived.Test.YtaepdbkfaoiimabDoorBatQ
import Derived.Test.YtaepdbkfaoiimabDoorCloseD
import Derived.Test.YtaepdbkfaoiimabDoorOpen
import Derived.Test.YtaepdbkfaoiimabDoorTie
import Derived.Test.YtaepdbkfaoiimabDoorCards
set_option linter.unusedVariables false
set_option linter.unusedSimpArgs false
namespace Go.Proofs.YtaepdbkfaoiimabDoor
open Go.ChangeShapes Go.WideShapes Go.ChangeAt Go.RowKit Go.WideElems Go.WideMaps
open Go.ChangeMaps (open_string shut_string)
def demoA : List Ent := [⟨⟨#[97]⟩, ⟨#[]⟩, false⟩]
theorem demoA_f : textF demoA = 0 := by
  have h1 : faultE ⟨⟨#[97]⟩, ⟨#[]⟩, false⟩ = 0 := fault0 (by rw [b_toList, b_toList]; simp) (by decide)
  have w1 : wordF ⟨⟨#[97]⟩, ⟨#[]⟩, false⟩ = 0 := wordF_ok h1 (by decide) (by decide)
  rw [textF_in (by decide)]
  exact wf_zero.2 (by
    intro e he
    simp only [demoA, List.mem_cons, List.not_mem_nil, or_false] at he
    subst he
    exact w1)
theorem demoA_s : textS demoA = ⟨#[97, 61]⟩ := by
  rw [textS_acc demoA_f]
  decide +kernel
theorem textS_size {l : List Ent} (h : textF l = 0) : (textS l).size ≤ 104 := by
  have h4 : ¬(l.length = 0 ∨ 4 < l.length) := fun hz => by rw [textF_many hz] at h; cases h
  have h2 := wf_zero.1 ((textF_in h4).symm.trans h)
  rw [textS_acc h]
  have := accS_size h2
  omega
set_option maxRecDepth 20000 in
set_option maxHeartbeats 8000000 in
theorem topText_walk (v : Value) (l : List Ent) (w : World) (hl : Ents w.heap.size w v l) (hm : MaxL w) :
    Calls Tryd.prog 3 #[v] w fun e w' => e = .returned (.bool true) ∧ Below w.heap.size w w' := by
  have hA : Ents w.heap.size (w.alloc (.cells #[.string ⟨#[97]⟩, .string ⟨#[]⟩, .bool false] 28)) (.slice (some ⟨w.heap.size, 0, none⟩) 1 1) demoA :=
    ⟨rd_lit3 _ _ _ rfl _ _ _, by intro e he; simp [demoA] at he; subst he; exact ⟨by decide, by decide⟩⟩
  have h1 := btext_any w.heap.size _ demoA _ hA
  rw [demoA_f, demoA_s] at h1
  have hba : Below w.heap.size w (w.alloc (.cells #[.string ⟨#[97]⟩, .string ⟨#[]⟩, .bool false] 28)) := (Below.refl _ _).alloc (Nat.le_refl _) _
  have HL := Lib.hid (hl.below hba)
  have HM := Lib.hid (hm.below hba)
  have HB := Lib.hid hba
  have H1 := Lib.hid h1
  clear h1 hl hm hA hba
  go_enter Tryd.func3, Tryd.ntmps3
  go_wp2_with fail
  refine H1.out.mono ?_
  rintro e w1 ⟨rfl, hb1⟩
  have HL1 := Lib.hid (HL.out.below hb1)
  have HM1 := Lib.hid (HM.out.below hb1)
  have HB1 := Lib.hid (HB.out.trans (hb1.mono HB.out.size))
  clear hb1 HL HM HB H1
  rw [show errV 0 = .nilIface from rfl]
  go_wp2_with fail
  refine (lightE_any w.heap.size v l 8 _ HL1.out).mono ?_
  rintro e w2 ⟨rfl, rfl⟩
  cases hli : lightE 8 l
  · go_wp2_with fail
    go_ret
    exact ⟨rfl, HB1.out⟩
  go_wp2_with fail
  refine (btext_any w.heap.size v l _ HL1.out).mono ?_
  rintro e w2 ⟨rfl, hb2⟩
  have HL2 := Lib.hid (HL1.out.below hb2)
  have HM2 := Lib.hid (HM1.out.below hb2)
  have HB2 := Lib.hid (HB1.out.trans (hb2.mono HB1.out.size))
  clear hb2 HL1 HM1 HB1
  by_cases hf : textF l = 0
  · have hsz := textS_size hf
    have hp := bparse_any w.heap.size (textS l) w2 (by omega) HM2.out
    rw [(ofL_text hf).1, (ofL_text hf).2] at hp
    have HP := Lib.hid hp
    rw [hf, show errV 0 = .nilIface from rfl]
    clear hp hf
    generalize textS l = ts at *
    go_wp2_with fail
    refine HP.out.mono ?_
    rintro e w3 ⟨v3, rfl, hv3, hb3⟩
    have HV3 := Lib.hid hv3
    have HL3 := Lib.hid (HL2.out.below hb3)
    have HB3 := Lib.hid (HB2.out.trans (hb3.mono HB2.out.size))
    clear hv3 hb3 HL2 HM2 HB2
    rw [show errV 0 = .nilIface from rfl]
    go_wp2_with fail
    refine (same_any w.heap.size v3 v l l _ HV3.out HL3.out).mono ?_
    rintro e w7 ⟨rfl, n7, rfl⟩
    go_wp2_with fail
    go_ret
    exact ⟨ret_bool (by simp), below_drewN' HB3.out n7⟩
  · have he : errV (textF l) = .iface 34 (.int .i64 (textF l)) := by unfold errV; rw [if_neg hf]
    rw [he, textS_bad hf, show ByteArray.empty = ⟨#[]⟩ from rfl]
    generalize textF l = tf at *
    clear hf he
    go_wp2_with fail
    go_ret
    exact ⟨rfl, HB2.out⟩

-- CLOSING

set_option maxRecDepth 100000 in
theorem topText_row : Rows.TopTextSaid :=
  OpenClaim.holds_of_wide 3 Tryd.f3 rfl rfl rfl rfl rfl rfl rfl ⟨rfl, rfl, rfl, rfl, rfl⟩ rfl rfl rfl rfl rfl (by kernel_rfl) Tryd.func3 (by kernel_rfl)
    (of_decide_eq_true (by kernel_rfl)) (by unfold Func.isWrapper; first | (rw [if_pos (by decide +kernel)]; kernel_rfl) | (rw [if_neg (by decide +kernel)]; exact ⟨rfl, rfl⟩))
    (fun os started H enc _ => close_laidH Rows.topTextSpec 3 Tryd.f3 (fun w => laidMetH Tryd.prog Rows.topTextRow.laid w) os started H enc (by kernel_rfl) Tryd.func3 (by kernel_rfl) rfl
      (fun ds hd => by
        rw [Tryd.params3] at hd
        match ds, hd with
        | [d1], _ => rfl)
      (by kernel_rfl)
      (ChangeSpec.witness_shaped (enc := enc) (C := Tryd.checked) (os := os) (X := fun w _ => laidMetH Tryd.prog Rows.topTextRow.laid w) false (World.laidAll Tryd.prog os Rows.topTextRow.laid) #[.slice none 0 0] 8 (World.laidAll_os _ _ _)
        (World.shaped_of_ZipB (by kernel_rfl) (by kernel_rfl)) (by kernel_rfl) (by kernel_rfl) (by kernel_rfl)
        (by rw [MakeChecks.laidMetH_plain _ _ _ (by kernel_rfl)]; exact laidMet_laidAll _ (by kernel_rfl) (by kernel_rfl)))
      (fun W base args ds p hsh hval hA => by
        rw [Tryd.params3] at hA hval
        obtain ⟨v0, d0, hargs, rfl, h0⟩ := trodAll_one hA
        obtain rfl : args = #[v0] := by cases args; simp_all
        obtain ⟨l0, hl0⟩ := ents_of (hval 0 _ v0 rfl rfl) h0
        exact topText_walk v0 l0 W hl0 (Tryd.laysM146.s1_3 W hsh)))
theorem topText_holds : Rows.TopTextCardSaid :=
  Claim7.holds_tied_plain_at .later [] [.data, .pinned] true (true, "6b8400147132665bcd82fbbf9a72d5e55795aabf799933fd5f0462f571fd47c0") false topText_row (fun _ h => by cases h) (by kernel_rfl) (fun _ h => by cases h) topText_row_tie rfl ⟨rfl, rfl⟩ (by kernel_rfl) rfl
    (fun f fn hf hfn => by
      obtain rfl : f = 3 := Option.some.inj ((show Tryd.prog.funcNamed "tidegate/tidegatetop.TopText" = some 3 by kernel_rfl).symm.trans hf) |>.symm
      obtain rfl : fn = Tryd.f3 := (Option.some.inj (Tryd.func3.symm.trans hfn)).symm
      exact ⟨by kernel_rfl, fun j t ht => by
        rw [Tryd.params3] at ht
        have hm : t ∈ [22] := by simpa using Array.mem_of_getElem? ht
        have hall : ([22].all fun u => !Tryd.prog.wantsStandIn u) = true := by kernel_rfl
        exact (show Tryd.prog.wantsStandIn t = false by simpa using List.all_eq_true.1 hall t hm)⟩)
    (by kernel_rfl)
#print axioms topText_holds
end Go.Proofs.YtaepdbkfaoiimabDoor
