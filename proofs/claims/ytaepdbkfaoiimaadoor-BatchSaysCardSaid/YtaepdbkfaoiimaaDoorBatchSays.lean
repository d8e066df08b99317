/- BatchSays: returns true, at any entries and any text. Conditions: none. -/
import Derived.Test.YtaepdbkfaoiimaaDoorBatQ
import Derived.Test.YtaepdbkfaoiimaaDoorCloseD
import Derived.Test.YtaepdbkfaoiimaaDoorOpen
import Derived.Test.YtaepdbkfaoiimaaDoorTie
import Derived.Test.YtaepdbkfaoiimaaDoorCards
set_option linter.unusedVariables false
set_option linter.unusedSimpArgs false
namespace Go.Proofs.YtaepdbkfaoiimaaDoor
open Go.ChangeShapes Go.WideShapes Go.ChangeAt Go.RowKit Go.WideElems Go.WideMaps
open Go.ChangeMaps (open_string shut_string)
def demoB : ByteArray := ⟨#[97, 61, 120, 32, 98]⟩
def demoL : List Ent := [⟨⟨#[97]⟩, ⟨#[120]⟩, false⟩, ⟨⟨#[98]⟩, ⟨#[]⟩, true⟩]
theorem demo_of : entsOf demoB = demoL := by decide +kernel
theorem demo_f : textF demoL = 0 := by
  have h1 : faultE ⟨⟨#[97]⟩, ⟨#[120]⟩, false⟩ = 0 := fault0 (by rw [b_toList]; simp) (by decide)
  have h2 : faultE ⟨⟨#[98]⟩, ⟨#[]⟩, true⟩ = 0 := fault0 (by rw [b_toList, b_toList]; simp) (by decide)
  have w1 : wordF ⟨⟨#[97]⟩, ⟨#[120]⟩, false⟩ = 0 := wordF_ok h1 (by decide) (by decide)
  have w2 : wordF ⟨⟨#[98]⟩, ⟨#[]⟩, true⟩ = 0 := wordF_ok h2 (by decide) (by decide)
  rw [textF_in (by decide)]
  exact wf_zero.2 (by
    intro e he
    simp only [demoL, List.mem_cons, List.not_mem_nil, or_false] at he
    rcases he with rfl | rfl
    · exact w1
    · exact w2)
theorem demo_ok : ofF demoB = 0 ∧ ofL demoB = demoL := by
  unfold ofF ofL
  rw [demo_of, if_pos demo_f, if_pos demo_f]
  exact ⟨rfl, rfl⟩
theorem demo_lit (B : Nat) (w : World) (g : Nat) (hg : w.heap.size = g) : Ents B (w.alloc (.cells #[.string ⟨#[97]⟩, .string ⟨#[120]⟩, .bool false, .string ⟨#[98]⟩, .string ⟨#[]⟩, .bool true] 46)) (.slice (some ⟨g, 0, none⟩) 2 2) demoL := by
  subst hg
  have hb := Blk.new w 46 #[.string ⟨#[97]⟩, .string ⟨#[120]⟩, .bool false, .string ⟨#[98]⟩, .string ⟨#[]⟩, .bool true]
  refine ⟨⟨rfl, _, _, rfl, Nat.le_refl _, by omega, fun _ => ⟨_, _, rfl, .inr ⟨_, _, hb⟩, hb.lt, fun j u hu => ?_⟩⟩, fun e he => ?_⟩
  · rw [hb.cell, Nat.zero_add]
    match j, hu with
    | 0, hu => exact hu
    | 1, hu => exact hu
    | 2, hu => exact hu
    | 3, hu => exact hu
    | 4, hu => exact hu
    | 5, hu => exact hu
  · simp only [demoL, List.mem_cons, List.not_mem_nil, or_false] at he
    rcases he with rfl | rfl <;> exact ⟨by decide, by decide⟩
set_option maxHeartbeats 4000000 in
theorem batches_any (w : World) (hm : MaxL w) :
    Calls Tryd.prog 8 #[] w fun e w' => e = .returned (.bool true) ∧ Below w.heap.size w w' := by
  have h1 := bparse_any w.heap.size demoB w (by decide) hm
  rw [demo_ok.1, demo_ok.2] at h1
  have H1 := Lib.hid h1
  have H2 : Hid (∀ W, Calls Tryd.prog 5 #[.nilIface, .int .i64 0] W fun d w' => d = .returned (.bool true) ∧ W = w') := fun W => same_err 0 0 W
  clear h1 hm
  go_enter Tryd.func8, Tryd.ntmps8
  go_wp2_with fail
  refine H1.out.mono ?_
  rintro e w1 ⟨v1, rfl, hv1, hb1⟩
  have HV1 := Lib.hid hv1
  have HB1 := Lib.hid hb1
  have HL1 := Lib.hid (demo_lit w.heap.size w1 w1.heap.size rfl)
  have hba : Below w1.heap.size w1 (w1.alloc (.cells #[.string ⟨#[97]⟩, .string ⟨#[120]⟩, .bool false, .string ⟨#[98]⟩, .string ⟨#[]⟩, .bool true] 46)) := (Below.refl _ _).alloc (Nat.le_refl _) _
  have HS := Lib.hid (same_any w.heap.size v1 _ _ demoL _ (hv1.below hba) HL1.out)
  have HBA := Lib.hid (hb1.trans (hba.mono hb1.size))
  clear hv1 hb1 hba H1
  rw [show errV 0 = .nilIface from rfl]
  go_wp2_with fail
  refine (H2.out _).mono ?_
  rintro e w2 ⟨rfl, rfl⟩
  go_wp2_with fail
  refine HS.out.mono ?_
  rintro e w3 ⟨rfl, n, rfl⟩
  go_wp2_with fail
  go_ret
  exact ⟨ret_bool (by simp), below_drewN' HBA.out n⟩
set_option maxRecDepth 20000 in
set_option maxHeartbeats 8000000 in
theorem batchSays_walk (v : Value) (l : List Ent) (s : ByteArray) (w : World) (hl : Ents w.heap.size w v l) (hm : MaxL w) :
    Calls Tryd.prog 4 #[v, .string s] w fun e w' => e = .returned (.bool true) ∧ Below w.heap.size w w' := by
  have HL := Lib.hid hl
  have HM := Lib.hid hm
  have HBT := Lib.hid (batches_any w hm)
  clear hl hm
  go_enter Tryd.func4, Tryd.ntmps4
  go_wp2_with fail
  refine HBT.out.mono ?_
  rintro e w1 ⟨rfl, hb1⟩
  have HL1 := Lib.hid (HL.out.below hb1)
  have HM1 := Lib.hid (HM.out.below hb1)
  have HB1 := Lib.hid hb1
  clear hb1 HL HM HBT
  go_wp2_with fail
  refine (lightE_any w.heap.size v l 8 _ HL1.out).mono ?_
  rintro e w2 ⟨rfl, rfl⟩
  cases hli : lightE 8 l
  · go_wp2_with fail
    go_ret
    exact ⟨rfl, HB1.out⟩
  by_cases hs : 120 < s.size
  · have t1 : decide ((120 : Int) < (s.size : Int)) = true := decide_eq_true (by omega)
    clear hs
    go_wp2_with fail
    go_ret
    exact ⟨rfl, HB1.out⟩
  have t1 : decide ((120 : Int) < (s.size : Int)) = false := decide_eq_false (by omega)
  go_wp2_with fail
  refine (btext_any w.heap.size v l _ HL1.out).mono ?_
  rintro e w2 ⟨rfl, hb2⟩
  have HL2 := Lib.hid (HL1.out.below hb2)
  have HM2 := Lib.hid (HM1.out.below hb2)
  have HB2 := Lib.hid (HB1.out.trans (hb2.mono HB1.out.size))
  clear hb2 HL1 HM1 HB1
  generalize hts : textS l = ts
  generalize htf : textF l = tf
  go_wp2_with fail
  refine (rtext_any w.heap.size v l _ HL2.out).mono ?_
  rintro e w3 ⟨rfl, hb3⟩
  rw [hts, htf]
  have HM3 := Lib.hid (HM2.out.below hb3)
  have HB3 := Lib.hid (HB2.out.trans (hb3.mono HB2.out.size))
  clear hb3 HL2 HM2 HB2 hts htf
  go_wp2_with fail
  refine (bparse_any w.heap.size s _ (by omega) HM3.out).mono ?_
  rintro e w4 ⟨v4, rfl, hv4, hb4⟩
  have HV4 := Lib.hid hv4
  have HB4 := Lib.hid (HB3.out.trans (hb4.mono HB3.out.size))
  clear hv4 hb4 HM3 HB3
  generalize hof : ofF s = f4
  generalize hol : ofL s = l4 at *
  go_wp2_with fail
  refine (rof_any w.heap.size s _ (by omega)).mono ?_
  rintro e w5 ⟨v5, rfl, hv5, hb5⟩
  rw [hof]
  rw [hol] at hv5
  have HV4' := Lib.hid (HV4.out.below hb5)
  have HV5 := Lib.hid hv5
  have HB5 := Lib.hid (HB4.out.trans (hb5.mono HB4.out.size))
  clear hv5 hb5 HV4 HB4 hof hol
  go_wp2_with fail
  refine (same_err tf tf _).mono ?_
  rintro e w6 ⟨rfl, rfl⟩
  rw [show decide (tf = tf) = true by simp]
  go_wp2_with fail
  refine (same_any w.heap.size v4 v5 l4 l4 _ HV4'.out HV5.out).mono ?_
  rintro e w7 ⟨rfl, n7, rfl⟩
  rw [show decide (l4 = l4) = true by simp]
  go_wp2_with fail
  refine (same_err f4 f4 _).mono ?_
  rintro e w8 ⟨rfl, rfl⟩
  go_wp2_with fail
  go_ret
  exact ⟨ret_bool (by simp), below_drewN' HB5.out n7⟩

-- CLOSING

set_option maxRecDepth 100000 in
theorem batchSays_row : Rows.BatchSaysSaid :=
  OpenClaim.holds_of_wide 4 Tryd.f4 rfl rfl rfl rfl rfl rfl rfl ⟨rfl, rfl, rfl, rfl, rfl⟩ rfl rfl rfl rfl rfl (by kernel_rfl) Tryd.func4 (by kernel_rfl)
    (of_decide_eq_true (by kernel_rfl)) (by unfold Func.isWrapper; first | (rw [if_pos (by decide +kernel)]; kernel_rfl) | (rw [if_neg (by decide +kernel)]; exact ⟨rfl, rfl⟩))
    (fun os started H enc _ => close_laidH Rows.batchSaysSpec 4 Tryd.f4 (fun w => laidMetH Tryd.prog Rows.batchSaysRow.laid w) os started H enc (by kernel_rfl) Tryd.func4 (by kernel_rfl) rfl
      (fun ds hd => by
        rw [Tryd.params4] at hd
        match ds, hd with
        | [d1, d2], _ => rfl)
      (by kernel_rfl)
      (ChangeSpec.witness_shaped (enc := enc) (C := Tryd.checked) (os := os) (X := fun w _ => laidMetH Tryd.prog Rows.batchSaysRow.laid w) false (World.laidAll Tryd.prog os Rows.batchSaysRow.laid) #[.slice none 0 0, .string ByteArray.empty] 8 (World.laidAll_os _ _ _)
        (World.shaped_of_ZipB (by kernel_rfl) (by kernel_rfl)) (by kernel_rfl) (by kernel_rfl) (by kernel_rfl)
        (by rw [MakeChecks.laidMetH_plain _ _ _ (by kernel_rfl)]; exact laidMet_laidAll _ (by kernel_rfl) (by kernel_rfl)))
      (fun W base args ds p hsh hval hA => by
        rw [Tryd.params4] at hA hval
        obtain ⟨v0, v1, d0, d1, p0, p1, hargs, rfl, rfl, h0, h1⟩ := trodAll_two hA
        obtain rfl : args = #[v0, v1] := by cases args; simp_all
        obtain ⟨l0, hl0⟩ := ents_of (hval 0 _ v0 rfl rfl) h0
        obtain ⟨s1, rfl, rfl, rfl, hs1⟩ := open_string Tryd.underlying9 (hval 1 _ v1 rfl rfl) h1
        exact batchSays_walk v0 l0 s1 W hl0 (Tryd.laysM146.s1_3 W hsh)))
theorem batchSays_holds : Rows.BatchSaysCardSaid :=
  Claim7.holds_tied_plain_at .later [] [.data, .pinned] true (true, "1f781f5758dd9fc3b453468a6e962d8bb713860d4ac394348cc1f245ba5dea51") true batchSays_row (fun _ h => by cases h) (by kernel_rfl) (fun _ h => by cases h) batchSays_row_tie rfl ⟨rfl, rfl⟩ (by kernel_rfl) rfl
    (fun f fn hf hfn => by
      obtain rfl : f = 4 := Option.some.inj ((show Tryd.prog.funcNamed "tidegate/tidegatelaw.BatchSays" = some 4 by kernel_rfl).symm.trans hf) |>.symm
      obtain rfl : fn = Tryd.f4 := (Option.some.inj (Tryd.func4.symm.trans hfn)).symm
      exact ⟨by kernel_rfl, fun j t ht => by
        rw [Tryd.params4] at ht
        have hm : t ∈ [31, 9] := by simpa using Array.mem_of_getElem? ht
        have hall : ([31, 9].all fun u => !Tryd.prog.wantsStandIn u) = true := by kernel_rfl
        exact (show Tryd.prog.wantsStandIn t = false by simpa using List.all_eq_true.1 hall t hm)⟩)
    (by kernel_rfl)
#print axioms batchSays_holds
end Go.Proofs.YtaepdbkfaoiimaaDoor
