/- Changes as a text: the reference's BatchOf computes the plain one. Conditions: texts of at most a million bytes. -/
import Derived.Test.YtaepdbkfaoiimaaDoorBatR
set_option linter.unusedVariables false
set_option linter.unusedSimpArgs false
set_option linter.unnecessarySimpa false
namespace Go.Proofs.YtaepdbkfaoiimaaDoor
open Go.RowKit
attribute [local go_sem] bt_idx bt_wrap
def wEnts (xs : List ByteArray) : List Ent := xs.map fun x => entW x.data.toList
theorem wEnts_next {xs : List ByteArray} {k : Nat} {x : ByteArray} (h : xs.take (k + 1) = xs.take k ++ [x]) : wEnts (xs.take (k + 1)) = wEnts (xs.take k) ++ [entW x.data.toList] := by
  unfold wEnts; rw [h, List.map_append]; rfl
set_option maxRecDepth 20000 in
set_option maxHeartbeats 8000000 in
theorem rof_any (B : Nat) (s : ByteArray) (w : World) (hs : s.size ≤ 1000000) :
    Calls Tryd.prog 13 #[.string s] w fun d w' => ∃ v, d = .returned (.tuple #[v, .int .i64 (ofF s)]) ∧ Ents B w' v (ofL s) ∧ Below w.heap.size w w' := by
  go_enter Tryd.func13, Tryd.ntmps13
  go_wp2_with fail
  refine (split_any B s _ hs).mono ?_
  rintro d w1 ⟨v1, rfl, hv1, hb1⟩
  obtain ⟨A, c, rfl, hc, hc2, hcell⟩ := hv1.form
  have hn := splB_len s
  have HSUB : Hid (∀ x ∈ splB s, x.size ≤ s.size) := fun x hx => splB_sub hx
  have HE : Hid (entsOf s = wEnts (splB s)) := entsOf_splB s
  have HC := Lib.hid hcell
  have HB1 := Lib.hid hb1
  have HOK := Lib.hid (entsOf_ok hs)
  generalize splB s = xs at *
  clear hcell hb1 hv1
  go_wp2_with fail
  go_loopw [5, 6] (fun u i wr => ∃ k : Nat, i = .int .i64 (k : Int) ∧ k ≤ xs.length ∧ Hid (wr.ownsRow w1.heap.size 46 3 u k ((wEnts (xs.take k)).flatMap Ent.cells)) ∧ Below w1.heap.size w1 wr) (fun _ i _ => xs.length - (intOf i).toNat)
  case atStart => exact ⟨0, rfl, Nat.zero_le _, World.ownsRow_nil _ _ _ _, Below.refl _ _⟩
  case round =>
    obtain ⟨k, rfl, hk, hown, hbl⟩ := hrel
    have hbs := hbl.size
    by_cases hlt : k < xs.length
    · obtain ⟨x, hx, htk, _⟩ := getElem?_of_lt hlt
      obtain ⟨b, o, rfl, hb, c1⟩ := HC.out k x hx
      have d1 := (hbl.cell (p := ⟨b, o + k, none⟩) hb).trans c1
      have hxs := HSUB.out x (List.mem_of_getElem? hx)
      have HNX : Hid (wEnts (xs.take (k + 1)) = wEnts (xs.take k) ++ [entW x.data.toList]) := wEnts_next htk
      have g1 : (0 : Int) ≤ (k : Int) := by omega
      have g2 : (k : Int) < (xs.length : Int) := by omega
      clear hx htk c1
      obtain ⟨i0, hinf, hz0, hz1, hz2⟩ := info_parts info_entry
      have HI := Lib.hid hinf
      have Z0 := Lib.hid hz0
      have Z1 := Lib.hid hz1
      have Z2 := Lib.hid hz2
      clear hinf hz0 hz1 hz2
      have HBK := Lib.hid (Blk.new wr 46 #[.string x, .string ⟨#[]⟩, .bool true])
      have HO3 := Lib.hid (own_alloc hown.out (.cells #[.string x, .string ⟨#[]⟩, .bool true] 46))
      have HB3 := Lib.hid (hbl.alloc hbs (.cells #[.string x, .string ⟨#[]⟩, .bool true] 46))
      have hd3 := (((Below.refl wr.heap.size wr).alloc (Nat.le_refl _) (.cells #[.string x, .string ⟨#[]⟩, .bool true] 46)).cell (cell_lt d1)).trans d1
      have hls := own_lt hown.out
      have HLS := Lib.hid hls
      clear hls
      go_wp2_with fail
      have hsz3 : (wr.alloc (.cells #[.string x, .string ⟨#[]⟩, .bool true] 46)).heap.size = wr.heap.size + 1 := by simp
      generalize wr.alloc (.cells #[.string x, .string ⟨#[]⟩, .bool true] 46) = w3 at *
      have hnb : w1.heap.size ≤ wr.heap.size := hbs
      have HS3 := Lib.hid hsz3
      generalize wr.heap.size = nb at *
      clear d1 hown hbl
      go_loop [8] (fun y => ∃ j : Nat, y = .int .i64 (j : Int) ∧ j ≤ x.size ∧ Hid ((61 : UInt8) ∉ x.data.toList.take j)) (fun y => x.size - (intOf y).toNat)
      case atStart => exact ⟨0, rfl, Nat.zero_le _, by simp [Hid]⟩
      case round =>
        obtain ⟨j, rfl, hj, hno⟩ := hrel
        by_cases hjl : j < x.size
        · have j1 : (0 : Int) ≤ (j : Int) := by omega
          have j2 : (j : Int) < (x.size : Int) := by omega
          obtain ⟨c', hc', hcb⟩ := bt_get hjl
          by_cases h61 : bt x j = 61
          · have hc61 : c' = 61 := by
              apply UInt8.toNat_inj.1
              rw [← hcb, h61]; rfl
            have HEW := Lib.hid (entW_at hno.out (by rw [hc', hc61]))
            have t1 : ((bt x j : Int) == 61) = true := by rw [beq_iff_eq]; omega
            have k0 := HBK.out.cell 0
            have k1 := HBK.out.cell 1
            have k2 := HBK.out.cell 2
            have f0 := HBK.out.frozen 0
            have f1 := HBK.out.frozen 1
            have f2 := HBK.out.frozen 2
            simp at k0 k1 k2 f0 f1 f2
            have j3 : (j : Int) + 1 ≤ (x.size : Int) := by omega
            have j4 : (0 : Int) ≤ (j : Int) + 1 := by omega
            clear hc' hcb hc61 h61 hno
            go_wp2_with fail
            go_region
            have hb4 := (((HB3.out.setCell (p := ⟨nb, 0, none⟩) hnb (.string (x.extract 0 j))).setCell (p := ⟨nb, 1, none⟩) hnb (.string (x.extract (j + 1) x.size))).setCell (p := ⟨nb, 2, none⟩) hnb (.bool false)).drew
            have hk4 : Blk (((w3.setCell ⟨nb, 0, none⟩ (.string (x.extract 0 j))).setCell ⟨nb, 1, none⟩ (.string (x.extract (j + 1) x.size))).setCell ⟨nb, 2, none⟩ (.bool false)).drew nb 46 #[.string (x.extract 0 j), .string (x.extract (j + 1) x.size), .bool false] := ((HBK.out.set_ 0 _).set_ 1 _).set_ 2 _
            have ho4 : (((w3.setCell ⟨nb, 0, none⟩ (.string (x.extract 0 j))).setCell ⟨nb, 1, none⟩ (.string (x.extract (j + 1) x.size))).setCell ⟨nb, 2, none⟩ (.bool false)).drew.ownsRow w1.heap.size 46 3 u5 k ((wEnts (xs.take k)).flatMap Ent.cells) :=
              World.ownsRow.drew (ownsRow_setCell_other (ownsRow_setCell_other (ownsRow_setCell_other HO3.out (a := ⟨nb, 0, none⟩) HLS.out _) (a := ⟨nb, 1, none⟩) HLS.out _) (a := ⟨nb, 2, none⟩) HLS.out _)
            have hs4 : (((w3.setCell ⟨nb, 0, none⟩ (.string (x.extract 0 j))).setCell ⟨nb, 1, none⟩ (.string (x.extract (j + 1) x.size))).setCell ⟨nb, 2, none⟩ (.bool false)).drew.heap.size = nb + 1 := by simp [World.setCell, World.drew, hsz3]
            generalize (((w3.setCell ⟨nb, 0, none⟩ (.string (x.extract 0 j))).setCell ⟨nb, 1, none⟩ (.string (x.extract (j + 1) x.size))).setCell ⟨nb, 2, none⟩ (.bool false)).drew = w4 at *
            have e0 := hk4.cell 0
            have e1 := hk4.cell 1
            have e2 := hk4.cell 2
            simp at e0 e1 e2
            have hownA := Lib.hid (own_alloc ho4 (.cells #[.string (x.extract 0 j), .string (x.extract (j + 1) x.size), .bool false] 46))
            have hbA := Lib.hid (hb4.alloc (by omega) (.cells #[.string (x.extract 0 j), .string (x.extract (j + 1) x.size), .bool false] 46))
            have HS4 := Lib.hid hs4
            clear hb4 hk4 ho4 k0 k1 k2 f0 f1 f2 hd3 hsz3 HBK HO3 HB3
            go_wp2_with (at_builtin; go_loud (refine wpList_append_rd _ rfl (.tmp 54) (.tmp 56) 31 rfl w1.heap.size 46 i0 _ 3 40 Tryd.underlying31 HI.out Z0.out Z1.out Z2.out rfl (by decide) u5 _ _ rfl hownA.out B 46 _ 1 _ rfl (rd_lit3 _ _ _ HS4.out _ _ _) (ent_one3 _ _ _) (by unfold maxLen; omega) (by omega) (by simp; omega) ?_); intro v1' w5 hown1 hg1 hat1)
            have hown2 : Hid (w5.ownsRow w1.heap.size 46 3 v1' (k + 1) ((wEnts (xs.take (k + 1))).flatMap Ent.cells)) := by
              rw [Hid, HNX.out, HEW.out, List.flatMap_append]; exact hown1
            have hb5 := below_own hbA.out (Nat.le_refl _) hownA.out hg1
            clear hg1 hat1 hown1
            go_roundw
            case rel => exact ⟨k + 1, by go_num, by omega, hown2, hb5⟩
            case measure => simp [intOf] <;> omega
          · have hc61 : c' ≠ 61 := by
              intro e
              subst e
              exact h61 hcb
            have HNO : Hid ((61 : UInt8) ∉ x.data.toList.take (j + 1)) := by
              have := take_step (l := x.data.toList) (a := 0) (Nat.zero_le _) (by simpa using hno.out) hc' hc61
              simpa [Hid] using this
            have t1 : ((bt x j : Int) == 61) = false := by rw [beq_eq_false_iff_ne]; omega
            clear hc' hcb hc61 h61 hno
            go_wp2_with fail
            go_round
            case rel => exact ⟨j + 1, by go_num, by omega, HNO⟩
            case measure => simp [intOf] <;> omega
        · have hge : j = x.size := by omega
          subst hge
          have HEW : Hid (entW x.data.toList = ⟨x, ByteArray.empty, true⟩) := by
            have h := hno.out
            rw [List.take_of_length_le (by rw [Array.length_toList]; exact Nat.le_refl _)] at h
            exact entW_none h
          clear hno
          have k0 := HBK.out.cell 0
          have k1 := HBK.out.cell 1
          have k2 := HBK.out.cell 2
          simp at k0 k1 k2
          have hownA := Lib.hid (own_alloc HO3.out (.cells #[.string x, .string ⟨#[]⟩, .bool true] 46))
          have hbA := Lib.hid (HB3.out.alloc (by omega) (.cells #[.string x, .string ⟨#[]⟩, .bool true] 46))
          go_wp2_with (at_builtin; go_loud (refine wpList_append_rd _ rfl (.tmp 54) (.tmp 56) 31 rfl w1.heap.size 46 i0 _ 3 40 Tryd.underlying31 HI.out Z0.out Z1.out Z2.out rfl (by decide) u5 _ _ rfl hownA.out B 46 _ 1 _ rfl (rd_lit3 _ _ _ HS3.out _ _ _) (ent_one3 _ _ _) (by unfold maxLen; omega) (by omega) (by simp; omega) ?_); intro v1' w5 hown1 hg1 hat1)
          have hown2 : Hid (w5.ownsRow w1.heap.size 46 3 v1' (k + 1) ((wEnts (xs.take (k + 1))).flatMap Ent.cells)) := by
            rw [Hid, HNX.out, HEW.out, List.flatMap_append]; exact hown1
          have hb5 := below_own hbA.out (Nat.le_refl _) hownA.out hg1
          clear hg1 hat1 hown1
          go_roundw
          case rel => exact ⟨k + 1, by go_num, by omega, hown2, hb5⟩
          case measure => simp [intOf] <;> omega
    · have hge : k = xs.length := by omega
      subst hge
      rw [List.take_length] at hown
      have hents : Ents B wr u5 (entsOf s) := ⟨by have := Rd.of_own (B := B) hown.out; rw [HE.out]; unfold wEnts at this ⊢; rw [List.length_map]; exact this, HOK.out⟩
      have HEN := Lib.hid hents
      clear hents
      go_wp2_with fail
      refine (rtext_any B _ (entsOf s) _ HEN.out).mono ?_
      rintro d w4 ⟨rfl, hb4⟩
      have HB4 := Lib.hid (HB1.out.trans ((hbl.mono HB1.out.size).trans (hb4.mono (by have := HB1.out.size; omega))))
      by_cases hf : textF (entsOf s) = 0
      · have HF : Hid (ofF s = 0 ∧ ofL s = entsOf s) := by
          unfold ofF ofL
          rw [if_pos hf, if_pos hf]
          exact ⟨rfl, rfl⟩
        have t1 : decide ((0 : Int) < (textF (entsOf s) : Int)) = false := decide_eq_false (by omega)
        have t2 : decide (0 < textF (entsOf s)) = false := decide_eq_false (by omega)
        have HEN4 := Lib.hid (HEN.out.below hb4)
        clear hf hb4
        go_wp2_with fail
        exact bodyPost_ret (v := .tuple #[u5, .int .i64 0]) (by simp [results, Tryd.results13, go_sem] <;> rfl) rfl ⟨_, by rw [HF.out.1]; rfl, by rw [HF.out.2]; exact HEN4.out, HB4.out⟩
      · have HF : Hid (ofF s = 4 ∧ ofL s = []) := by
          unfold ofF ofL
          rw [if_neg hf, if_neg hf]
          exact ⟨rfl, rfl⟩
        have t1 : decide ((0 : Int) < (textF (entsOf s) : Int)) = true := decide_eq_true (by omega)
        have t2 : decide (0 < textF (entsOf s)) = true := decide_eq_true (by omega)
        clear hf hb4
        go_wp2_with fail
        exact bodyPost_ret (v := .tuple #[.slice none 0 0, .int .i64 4]) (by simp [results, Tryd.results13, go_sem] <;> rfl) rfl ⟨_, by rw [HF.out.1]; rfl, by rw [HF.out.2]; exact ⟨Rd.nil _ _ _ _, by simp⟩, HB4.out⟩
end Go.Proofs.YtaepdbkfaoiimaaDoor
