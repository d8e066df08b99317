/- Changes as a text: package batch computes the plain functions. Conditions: texts of at most a million bytes; the library's variable MaxLen holds an int. -/
import Derived.Test.YtaepdbkfaoiimabDoorParse
import Derived.Test.YtaepdbkfaoiimabDoorBat0
import Derived.Test.YtaepdbkfaoiimabDoorBatR
import Derived.Test.YtaepdbkfaoiimabDoorShelf
set_option linter.unusedVariables false
set_option linter.unusedSimpArgs false
set_option linter.unnecessarySimpa false
namespace Go.Proofs.YtaepdbkfaoiimabDoor
open Go.RowKit
attribute [local go_sem] bt_idx bt_wrap
set_option maxHeartbeats 4000000 in
theorem badRune_any (x : Nat) (w : World) : Calls Tryd.prog 14 #[.int .i32 (x : Int)] w fun e w' => e = .returned (.bool (!plainN x)) ∧ w' = w := by
  by_cases h : (97 ≤ x ∧ x ≤ 122) ∨ (48 ≤ x ∧ x ≤ 57)
  · rw [plainN_t h]
    by_cases h1 : x < 97
    · have t1 : decide ((x : Int) < 97) = true := decide_eq_true (by omega)
      have t3 : decide ((x : Int) < 48) = false := decide_eq_false (by omega)
      have t4 : decide ((57 : Int) < (x : Int)) = false := decide_eq_false (by omega)
      clear h
      go_enter Tryd.func14, Tryd.ntmps14
      go_wp2_with fail
      go_ret
      exact ⟨rfl, rfl⟩
    · have t1 : decide ((x : Int) < 97) = false := decide_eq_false (by omega)
      have t2 : decide ((122 : Int) < (x : Int)) = false := decide_eq_false (by omega)
      clear h
      go_enter Tryd.func14, Tryd.ntmps14
      go_wp2_with fail
      go_ret
      exact ⟨rfl, rfl⟩
  · rw [plainN_f (by omega)]
    by_cases h1 : x < 97
    · have t1 : decide ((x : Int) < 97) = true := decide_eq_true (by omega)
      by_cases h3 : x < 48
      · have t3 : decide ((x : Int) < 48) = true := decide_eq_true (by omega)
        clear h
        go_enter Tryd.func14, Tryd.ntmps14
        go_wp2_with fail
        go_ret
        exact ⟨rfl, rfl⟩
      · have t3 : decide ((x : Int) < 48) = false := decide_eq_false (by omega)
        have t4 : decide ((57 : Int) < (x : Int)) = true := decide_eq_true (by omega)
        clear h
        go_enter Tryd.func14, Tryd.ntmps14
        go_wp2_with fail
        go_ret
        exact ⟨rfl, rfl⟩
    · have t1 : decide ((x : Int) < 97) = false := decide_eq_false (by omega)
      have t2 : decide ((122 : Int) < (x : Int)) = true := decide_eq_true (by omega)
      have t3 : decide ((x : Int) < 48) = false := decide_eq_false (by omega)
      have t4 : decide ((57 : Int) < (x : Int)) = true := decide_eq_true (by omega)
      clear h
      go_enter Tryd.func14, Tryd.ntmps14
      go_wp2_with fail
      go_ret
      exact ⟨rfl, rfl⟩
theorem badRune_at (w : World) : PredAt Tryd.prog 14 #[] encR (fun x => !plainN x) w := fun W x _ =>
  (badRune_any x W).mono fun e w' ⟨he, hw⟩ => ⟨he, 0, hw⟩
theorem word_any (s : ByteArray) (w : World) :
    Calls Tryd.prog 9 #[.string s] w fun e w' => e = .returned (.bool (plainW s.data.toList)) ∧ Below w.heap.size w w' := by
  have h := Tryd.strings_ContainsFunc 14 #[] (enters_of Tryd.func14 (by kernel_rfl) rfl) (fun x => !plainN x) s w (badRune_at w)
  rw [contains_plain] at h
  have H := Lib.hid h
  clear h
  generalize plainW s.data.toList = p at *
  go_enter Tryd.func9, Tryd.ntmps9
  go_wp2_with fail
  refine H.out.mono ?_
  rintro e w1 ⟨rfl, hb⟩
  go_wp2_with fail
  go_ret
  exact ⟨ret_bool (by cases p <;> rfl), hb⟩
theorem below_cells {w w' : World} {y : Ent} {b : Nat} (hk : Blk w b 28 #[.string y.k, .string y.v, .bool y.g]) (hb : Below w.heap.size w w') : Blk w' b 28 #[.string y.k, .string y.v, .bool y.g] := hk.below hb hk.lt
set_option maxRecDepth 20000 in
set_option maxHeartbeats 8000000 in
theorem btext_any (B : Nat) (v : Value) (l : List Ent) (w : World) (hl : Ents B w v l) :
    Calls Tryd.prog 4 #[v] w fun d w' => d = .returned (.tuple #[.string (textS l), errV (textF l)]) ∧ Below w.heap.size w w' := by
  obtain ⟨A, c, rfl, hc, hc2, hcell⟩ := hl.form
  have HC := Lib.hid hcell
  clear hcell hl
  by_cases hz : l.length = 0 ∨ 4 < l.length
  · have HF := Lib.hid (textF_many hz)
    have HS := Lib.hid (textS_bad (l := l) (by rw [HF.out]; decide))
    by_cases h0 : l.length = 0
    · have t1 : ((l.length : Int) == 0) = true := by rw [h0]; rfl
      clear hz h0
      go_enter Tryd.func4, Tryd.ntmps4
      go_wp2_with fail
      exact bodyPost_ret (v := .tuple #[.string ByteArray.empty, .iface 34 (.int .i64 2)]) (by simp [results, Tryd.results4, go_sem] <;> rfl) rfl ⟨by rw [HF.out, HS.out]; rfl, Below.refl _ _⟩
    · have t1 : ((l.length : Int) == 0) = false := by rw [beq_eq_false_iff_ne]; omega
      have t2 : decide ((4 : Int) < (l.length : Int)) = true := decide_eq_true (by omega)
      clear hz h0
      go_enter Tryd.func4, Tryd.ntmps4
      go_wp2_with fail
      exact bodyPost_ret (v := .tuple #[.string ByteArray.empty, .iface 34 (.int .i64 2)]) (by simp [results, Tryd.results4, go_sem] <;> rfl) rfl ⟨by rw [HF.out, HS.out]; rfl, Below.refl _ _⟩
  have HW := Lib.hid (textF_in hz)
  have t1 : ((l.length : Int) == 0) = false := by rw [beq_eq_false_iff_ne]; omega
  have t2 : decide ((4 : Int) < (l.length : Int)) = false := decide_eq_false (by omega)
  have hl4 : l.length ≤ 4 := by omega
  have hl0 : 0 < l.length := by omega
  have HL0 := Lib.hid hl0
  clear hz hl0
  go_enter Tryd.func4, Tryd.ntmps4
  go_wp2_with fail
  go_loopw [4, 20] (fun u i wr => ∃ k : Nat, i = .int .i64 (k : Int) ∧ k ≤ l.length ∧ Hid (wr.ownsRow w.heap.size 9 1 u k (((l.take k).map chgB).map .string)) ∧ Hid (∀ x ∈ l.take k, wordF x = 0) ∧ Below w.heap.size w wr) (fun _ i _ => l.length - (intOf i).toNat)
  case atStart => exact ⟨0, rfl, Nat.zero_le _, World.ownsRow_nil _ _ _ _, fun x hx => by simp at hx, Below.refl _ _⟩
  case round =>
    obtain ⟨k, rfl, hk, hown, hok, hbl⟩ := hrel
    by_cases hlt : k < l.length
    · obtain ⟨y, hy, hty, _⟩ := getElem?_of_lt hlt
      obtain ⟨b, o, rfl, hb, c1, c2, c3⟩ := HC.out k y hy
      have d1 := (hbl.cell (p := ⟨b, o + k * 3, none⟩) hb).trans c1
      have d2 := (hbl.cell (p := ⟨b, o + k * 3 + 1, none⟩) hb).trans c2
      have d3 := (hbl.cell (p := ⟨b, o + k * 3 + 2, none⟩) hb).trans c3
      have HY := Lib.hid hy
      have HTY := Lib.hid hty
      clear c1 c2 c3 hy hty
      have g1 : (0 : Int) ≤ (k : Int) := by omega
      have g2 : (k : Int) < (l.length : Int) := by omega
      have hbs := hbl.size
      have HBS := Lib.hid hbs
      have HBA := Lib.hid (hbl.alloc hbs (.cells #[.string y.k, .string y.v, .bool y.g] 28))
      have HKA := Lib.hid (Blk.new wr 28 #[.string y.k, .string y.v, .bool y.g])
      have HOA := Lib.hid (own_alloc hown.out (.cells #[.string y.k, .string y.v, .bool y.g] 28))
      have hsA : (wr.alloc (.cells #[.string y.k, .string y.v, .bool y.g] 28)).heap.size = wr.heap.size + 1 := by simp
      have HSA := Lib.hid hsA
      clear hbl hown hsA hbs
      go_wp2_with fail
      refine (check_any y _).mono ?_
      rintro d w2 ⟨rfl, hb2⟩
      have HB2 := Lib.hid (HBA.out.trans (hb2.mono HBA.out.size))
      have HK2 := Lib.hid (below_cells HKA.out hb2)
      have HO2 := Lib.hid (own_below HOA.out hb2)
      have e0 := HK2.out.cell 0
      have e1 := HK2.out.cell 1
      have e2 := HK2.out.cell 2
      simp at e0 e1 e2
      clear d1 d2 d3 hb2 HBA HKA HOA
      generalize wr.heap.size = nb at *
      by_cases hf : faultE y = 0
      · have he : errV (faultE y) = .nilIface := by rw [hf]; rfl
        rw [he]
        have hz := faultE_zero hf
        have HF := Lib.hid hf
        have z1 : y.k.size ≤ 8 := hz.2.2.1
        have z2 : y.v.size ≤ 16 := hz.2.2.2
        clear he hz hf
        go_wp2_with fail
        refine (word_any y.k _).mono ?_
        rintro d w3 ⟨rfl, hb3⟩
        have HB3 := Lib.hid (HB2.out.trans (hb3.mono HB2.out.size))
        have HK3 := Lib.hid (below_cells HK2.out hb3)
        have HO3 := Lib.hid (own_below HO2.out hb3)
        have f0 := HK3.out.cell 0
        have f1 := HK3.out.cell 1
        have f2 := HK3.out.cell 2
        simp at f0 f1 f2
        clear e0 e1 e2 hb3 HB2 HK2 HO2
        cases hpk : plainW y.k.data.toList
        · have h3 := wordF_three HF.out (by rw [hpk]; rfl)
          have HT : Hid (textF l = 3) := by rw [Hid, HW.out, wf_at hok.out HY.out (by rw [h3]; decide), h3]
          have HS := Lib.hid (textS_bad (l := l) (by rw [HT.out]; decide))
          clear h3
          go_wp2_with fail
          exact bodyPost_ret (v := .tuple #[.string ByteArray.empty, .iface 34 (.int .i64 3)]) (by simp [results, Tryd.results4, go_sem] <;> rfl) rfl ⟨by rw [HT.out, HS.out]; rfl, HB3.out⟩
        have HPK := Lib.hid hpk
        clear hpk
        go_wp2_with fail
        refine (word_any y.v _).mono ?_
        rintro d w4 ⟨rfl, hb4⟩
        have HB4 := Lib.hid (HB3.out.trans (hb4.mono HB3.out.size))
        have HK4 := Lib.hid (below_cells HK3.out hb4)
        have HO4 := Lib.hid (own_below HO3.out hb4)
        have e0 := HK4.out.cell 0
        have e1 := HK4.out.cell 1
        have e2 := HK4.out.cell 2
        simp at e0 e1 e2
        clear f0 f1 f2 hb4 HB3 HK3 HO3
        cases hpv : plainW y.v.data.toList
        · have h3 := wordF_three HF.out (by rw [hpv]; simp)
          have HT : Hid (textF l = 3) := by rw [Hid, HW.out, wf_at hok.out HY.out (by rw [h3]; decide), h3]
          have HS := Lib.hid (textS_bad (l := l) (by rw [HT.out]; decide))
          clear h3
          go_wp2_with fail
          exact bodyPost_ret (v := .tuple #[.string ByteArray.empty, .iface 34 (.int .i64 3)]) (by simp [results, Tryd.results4, go_sem] <;> rfl) rfl ⟨by rw [HT.out, HS.out]; rfl, HB4.out⟩
        have h0 := wordF_ok HF.out HPK.out hpv
        have hok2 : Hid (∀ x ∈ l.take (k + 1), wordF x = 0) := by
          intro x hx
          rw [HTY.out] at hx
          rcases List.mem_append.1 hx with hx | hx
          · exact hok.out x hx
          · simp at hx; subst hx; exact h0
        clear h0 hok hpv
        have hchg : ∀ g : Bool, y.g = g → Hid (chgB y = if g then y.k else y.k ++ (bq ++ y.v)) := fun g hg => by subst hg; rfl
        have HNX : Hid (((l.take (k + 1)).map chgB).map Value.string = ((l.take k).map chgB).map Value.string ++ [.string (chgB y)]) := by rw [Hid, HTY.out]; simp
        obtain ⟨i0, hinf, hz0, hz1, hz2⟩ := info_parts info_strS
        have HI := Lib.hid hinf
        have Z0 := Lib.hid hz0
        have Z1 := Lib.hid hz1
        have Z2 := Lib.hid hz2
        clear hinf hz0 hz1 hz2
        have hbs4 := HB4.out.size
        have hownA : Hid (∀ cs : ByteArray, (w4.alloc (.cells #[.string cs] 9)).ownsRow w.heap.size 9 1 u4 k (((l.take k).map chgB).map .string)) := fun cs => own_alloc HO4.out _
        have hbA : Hid (∀ cs : ByteArray, Below w.heap.size w (w4.alloc (.cells #[.string cs] 9))) := fun cs => HB4.out.alloc HB4.out.size _
        cases hg : y.g
        · have HCH := hchg false hg
          rw [hg] at e2
          have sq : (⟨#[61]⟩ : ByteArray).size = 1 := rfl
          have s2 : ((⟨#[61]⟩ : ByteArray) ++ y.v).size = 1 + y.v.size := by rw [ByteArray.size_append]; rfl
          clear hchg hg
          go_wp2_with (at_builtin; go_loud (refine wpList_append_rd _ rfl (.tmp 54) (.tmp 56) 35 rfl w.heap.size 9 i0 _ 1 16 Tryd.underlying35 HI.out Z0.out Z1.out Z2.out rfl (by decide) u4 _ _ rfl (hownA.out _) B 9 _ 1 _ rfl (rd_lit1S _ _ _ rfl _) (by simp [Value.oneCell']) (by unfold maxLen; omega) (by omega) (by simp; omega) ?_); intro v1 w5 hown1 hg1 hat1)
          have hown2 : Hid (w5.ownsRow w.heap.size 9 1 v1 (k + 1) (((l.take (k + 1)).map chgB).map .string)) := by
            rw [Hid, HNX.out, HCH.out]; exact hown1
          have hb5 := below_own (hbA.out _) (Nat.le_refl _) (hownA.out _) hg1
          clear hg1 hat1 hown1
          go_roundw
          case rel => exact ⟨k + 1, by go_num, by omega, hown2, hok2, hb5⟩
          case measure => simp [intOf] <;> omega
        · have HCH := hchg true hg
          rw [hg] at e2
          clear hchg hg
          go_wp2_with (at_builtin; go_loud (refine wpList_append_rd _ rfl (.tmp 54) (.tmp 56) 35 rfl w.heap.size 9 i0 _ 1 16 Tryd.underlying35 HI.out Z0.out Z1.out Z2.out rfl (by decide) u4 _ _ rfl (hownA.out _) B 9 _ 1 _ rfl (rd_lit1S _ _ _ rfl _) (by simp [Value.oneCell']) (by unfold maxLen; omega) (by omega) (by simp; omega) ?_); intro v1 w5 hown1 hg1 hat1)
          have hown2 : Hid (w5.ownsRow w.heap.size 9 1 v1 (k + 1) (((l.take (k + 1)).map chgB).map .string)) := by
            rw [Hid, HNX.out, HCH.out]; exact hown1
          have hb5 := below_own (hbA.out _) (Nat.le_refl _) (hownA.out _) hg1
          clear hg1 hat1 hown1
          go_roundw
          case rel => exact ⟨k + 1, by go_num, by omega, hown2, hok2, hb5⟩
          case measure => simp [intOf] <;> omega
      · have h3 := wordF_fault hf
        have HT : Hid (textF l = faultE y) := by rw [Hid, HW.out, wf_at hok.out HY.out (by rw [h3]; exact hf), h3]
        have HS := Lib.hid (textS_bad (l := l) (by rw [HT.out]; exact hf))
        have he : errV (faultE y) = .iface 34 (.int .i64 (faultE y)) := by unfold errV; rw [if_neg hf]
        rw [he]
        have HE := Lib.hid he
        clear he h3 hok hf
        go_wp2_with fail
        exact bodyPost_ret (v := .tuple #[.string ByteArray.empty, .iface 34 (.int .i64 (faultE y))]) (by simp [results, Tryd.results4, go_sem] <;> rfl) rfl ⟨by rw [HT.out, HS.out, HE.out], HB2.out⟩
    · have hkl : k = l.length := by omega
      subst hkl
      have HT : Hid (textF l = 0) := by
        rw [Hid, HW.out]
        have h := hok.out
        rw [List.take_length] at h
        exact wf_zero.2 h
      have HLEN := chgs_len (by have h := hok.out; rwa [List.take_length] at h)
      rw [List.take_length] at hown
      have hr := Rd.of_own (B := 0) hown.out
      obtain ⟨hr1, A', c', rfl, hr3, hr4, hr5⟩ := hr
      obtain ⟨b', o', rfl, _, hb', hcc⟩ := hr5 HL0.out
      have hlm : (l.map chgB).length = l.length := List.length_map _
      have hj := Tryd.strings_Join b' o' c' (l.map chgB) ⟨#[32]⟩ wr (fun j x hx => hcc j _ (by rw [List.getElem?_map, hx]; rfl)) hb' (by omega) (by omega) (by
        rw [List.map_map]
        have e : l.map ((fun x : ByteArray => x.data.toList) ∘ chgB) = l.map chg := List.map_congr_left fun e _ => chgB_data e
        rw [e]
        have : (chgs l).length ≤ 140737488355328 := by omega
        exact this)
      have e : (l.map chgB).map (fun x => x.data.toList) = l.map chg := by
        rw [List.map_map]
        exact List.map_congr_left fun e _ => chgB_data e
      rw [hlm, e] at hj
      have HS : Hid (textS l = ⟨(Lib.join (l.map chg) [32]).toArray⟩) := if_pos HT.out
      have HJ := Lib.hid hj
      clear hj e hlm hcc hr1 hr3 hr4 hr5 hown hok HLEN
      go_wp2_with fail
      refine HJ.out.mono ?_
      rintro d w3 ⟨rfl, hb3⟩
      have HB3 := Lib.hid (hbl.trans (hb3.mono hbl.size))
      clear hb3
      go_wp2_with fail
      exact bodyPost_ret (v := .tuple #[.string ⟨(Lib.join (l.map chg) [32]).toArray⟩, .nilIface]) (by simp [results, Tryd.results4, go_sem] <;> rfl) rfl ⟨by rw [HT.out, HS.out]; rfl, HB3.out⟩
end Go.Proofs.YtaepdbkfaoiimabDoor
