/- Changes as a text: batch.Parse computes the plain function. Conditions: texts of at most a million bytes; the library's variable MaxLen holds an int. -/
import Derived.Test.YtaepdbkfaoiimabDoorBatO
import Derived.Test.YtaepdbkfaoiimabDoorBatP
set_option linter.unusedVariables false
set_option linter.unusedSimpArgs false
set_option linter.unnecessarySimpa false
namespace Go.Proofs.YtaepdbkfaoiimabDoor
open Go.RowKit
/-- The library's variable MaxLen holds an int. -/
def MaxL (w : World) : Prop := ∃ m : Int, w.cell? ⟨0, 0, none⟩ = some (.int .i64 m)
theorem MaxL.below {w w' : World} (h : MaxL w) (hb : Below w.heap.size w w') : MaxL w' := by
  obtain ⟨m, hm⟩ := h
  exact ⟨m, (hb.cell (cell_lt hm)).trans hm⟩
theorem MaxL.drewN {w : World} (h : MaxL w) (n : Nat) : MaxL (w.drewN n) := h
theorem map_data_inj : ∀ {xs ys : List ByteArray}, xs.map (fun x => x.data.toList) = ys.map (fun x => x.data.toList) → xs = ys
  | [], [], _ => rfl
  | [], _ :: _, h => by simp at h
  | _ :: _, [], h => by simp at h
  | x :: xs, y :: ys, h => by
    rw [List.map_cons, List.map_cons] at h
    injection h with h1 h2
    rw [b_eq h1, map_data_inj h2]
theorem split_splB (s : ByteArray) : Lib.splitB bsp 0 (Lib.countB s bsp) s = splB s := map_data_inj ((split_words s).trans (splB_data s).symm)
theorem psplit_any (B : Nat) (s : ByteArray) (w : World) (hs : s.size ≤ 1000000) (hm : MaxL w) :
    Calls Tryd.prog 11 #[.string s, .string ⟨#[32]⟩] w fun e w' => ∃ v, e = .returned v ∧ Strs B w' v (splB s) ∧ Below w.heap.size w w' := by
  obtain ⟨m, hm⟩ := hm
  refine (Tryd.strings_Split s ⟨#[32]⟩ m w (by omega) hm (by decide)).mono ?_
  rintro e w' ⟨rfl, rfl⟩
  have hlen := Lib.splitB_all bsp (by decide) 0 _ s rfl
  have e1 : Lib.countB s ⟨#[32]⟩ + 1 = (splB s).length := by rw [← split_splB]; exact hlen.symm
  have e2 : Lib.splitB ⟨#[32]⟩ 0 (Lib.countB s ⟨#[32]⟩) s = splB s := split_splB s
  rw [e1, e2]
  have hn := splB_len s
  have hb := Blk.new w 9 ((splB s).map Value.string).toArray
  refine ⟨_, rfl, ⟨⟨by simp, _, _, rfl, Nat.le_refl _, by omega, fun _ => ⟨_, _, rfl, .inr ⟨_, _, hb⟩, hb.lt, fun j u hu => ?_⟩⟩, fun x hx => by have := splB_sub hx; omega⟩, (Below.refl _ _).alloc (Nat.le_refl _) _⟩
  rw [hb.cell, Nat.zero_add]
  simpa using hu
theorem pcut_any (x : ByteArray) (w : World) (hs : x.size ≤ 1000000) (hm : MaxL w) :
    Calls Tryd.prog 12 #[.string x, .string ⟨#[61]⟩] w fun e w' => e = .returned (.tuple #[.string (entW x.data.toList).k, .string (entW x.data.toList).v, .bool (!(entW x.data.toList).g)]) ∧ ∃ n, w.drewN n = w' := by
  obtain ⟨m, hm⟩ := hm
  refine (Tryd.strings_Cut x ⟨#[61]⟩ m w (by omega) hm).mono ?_
  rintro e w' ⟨rfl, n, rfl⟩
  refine ⟨?_, n, rfl⟩
  rw [entW_cut]
  simp only [Bool.not_not]
  rfl
set_option maxRecDepth 20000 in
set_option maxHeartbeats 8000000 in
theorem bparse_any (B : Nat) (s : ByteArray) (w : World) (hs : s.size ≤ 1000000) (hm : MaxL w) :
    Calls Tryd.prog 6 #[.string s] w fun d w' => ∃ v, d = .returned (.tuple #[v, errV (ofF s)]) ∧ Ents B w' v (ofL s) ∧ Below w.heap.size w w' := by
  have HM := Lib.hid hm
  clear hm
  go_enter Tryd.func6, Tryd.ntmps6
  go_wp2_with fail
  refine (psplit_any B s _ hs HM.out).mono ?_
  rintro d w1 ⟨v1, rfl, hv1, hb1⟩
  obtain ⟨A, c, rfl, hc, hc2, hcell⟩ := hv1.form
  have hn := splB_len s
  have HSUB : Hid (∀ x ∈ splB s, x.size ≤ s.size) := fun x hx => splB_sub hx
  have HE : Hid (entsOf s = wEnts (splB s)) := entsOf_splB s
  have HC := Lib.hid hcell
  have HB1 := Lib.hid hb1
  have HM1 := Lib.hid (HM.out.below hb1)
  have HOK := Lib.hid (entsOf_ok hs)
  generalize splB s = xs at *
  clear hcell hb1 hv1
  go_wp2_with fail
  go_loopw [4, 15] (fun u i wr => ∃ k : Nat, i = .int .i64 (k : Int) ∧ k ≤ xs.length ∧ Hid (wr.ownsRow w1.heap.size 28 3 u k ((wEnts (xs.take k)).flatMap Ent.cells)) ∧ Below w1.heap.size w1 wr) (fun _ i _ => xs.length - (intOf i).toNat)
  case atStart => exact ⟨0, rfl, Nat.zero_le _, World.ownsRow_nil _ _ _ _, Below.refl _ _⟩
  case round =>
    obtain ⟨k, rfl, hk, hown, hbl⟩ := hrel
    have hbs := hbl.size
    by_cases hlt : k < xs.length
    · obtain ⟨x, hx, htk, _⟩ := getElem?_of_lt hlt
      obtain ⟨b, o, rfl, hb, c1⟩ := HC.out k x hx
      have d1 := (hbl.cell (p := ⟨b, o + k, none⟩) hb).trans c1
      have hxs := HSUB.out x (List.mem_of_getElem? hx)
      have HNX : Hid (wEnts (xs.take (k + 1)) = wEnts (xs.take k) ++ [entW x.data.toList]) := wEnts_next htk
      have g1 : (0 : Int) ≤ (k : Int) := by omega
      have g2 : (k : Int) < (xs.length : Int) := by omega
      have HMR := Lib.hid (HM1.out.below hbl)
      clear hx htk c1
      obtain ⟨i0, hinf, hz0, hz1, hz2⟩ := info_parts info_entry
      have HI := Lib.hid hinf
      have Z0 := Lib.hid hz0
      have Z1 := Lib.hid hz1
      have Z2 := Lib.hid hz2
      clear hinf hz0 hz1 hz2
      go_wp2_with fail
      refine (pcut_any x _ (by omega) HMR.out).mono ?_
      rintro d w2 ⟨rfl, n2, rfl⟩
      have HB3 := Lib.hid (below_drewN' hbl n2)
      have HO3 := Lib.hid (own_drewN hown.out n2)
      generalize wr.drewN n2 = w3 at *
      clear hown hbl hbs d1
      generalize entW x.data.toList = y at *
      have hbs3 := HB3.out.size
      have hownA := Lib.hid (own_alloc HO3.out (.cells #[.string y.k, .string y.v, .bool y.g] 28))
      have hbA := Lib.hid (HB3.out.alloc hbs3 (.cells #[.string y.k, .string y.v, .bool y.g] 28))
      go_wp2_with (at_builtin; go_loud (refine wpList_append_rd _ rfl (.tmp 25) (.tmp 31) 22 rfl w1.heap.size 28 i0 _ 3 40 Tryd.underlying22 HI.out Z0.out Z1.out Z2.out rfl (by decide) u4 _ _ rfl hownA.out B 28 _ 1 _ rfl (rd_lit3 _ _ _ rfl _ _ _) (ent_one3 _ _ _) (by unfold maxLen; omega) (by omega) (by simp; omega) ?_); intro v1' w5 hown1 hg1 hat1)
      have hown2 : Hid (w5.ownsRow w1.heap.size 28 3 v1' (k + 1) ((wEnts (xs.take (k + 1))).flatMap Ent.cells)) := by
        rw [Hid, HNX.out, List.flatMap_append]
        simpa [Ent.cells] using hown1
      have hb5 := below_own hbA.out (Nat.le_refl _) hownA.out hg1
      clear hg1 hat1 hown1
      go_roundw
      case rel => exact ⟨k + 1, by go_num, by omega, hown2, hb5⟩
      case measure => simp [intOf] <;> omega
    · have hge : k = xs.length := by omega
      subst hge
      rw [List.take_length] at hown
      have hents : Ents B wr u4 (entsOf s) := ⟨by have := Rd.of_own (B := B) hown.out; rw [HE.out]; unfold wEnts at this ⊢; rw [List.length_map]; exact this, HOK.out⟩
      have HEN := Lib.hid hents
      clear hents
      go_wp2_with fail
      refine (btext_any B _ (entsOf s) _ HEN.out).mono ?_
      rintro d w4 ⟨rfl, hb4⟩
      have HB4 := Lib.hid (HB1.out.trans ((hbl.mono HB1.out.size).trans (hb4.mono (by have := HB1.out.size; omega))))
      by_cases hf : textF (entsOf s) = 0
      · have HF : Hid (ofF s = 0 ∧ ofL s = entsOf s) := by
          unfold ofF ofL
          rw [if_pos hf, if_pos hf]
          exact ⟨rfl, rfl⟩
        have he : errV (textF (entsOf s)) = .nilIface := by rw [hf]; rfl
        rw [he, text_entsOf s hf]
        have HEN4 := Lib.hid (HEN.out.below hb4)
        clear hf hb4 he
        go_wp2_with fail
        exact bodyPost_ret (v := .tuple #[u4, .nilIface]) (by simp [results, Tryd.results6, go_sem] <;> rfl) rfl ⟨_, by rw [HF.out.1]; rfl, by rw [HF.out.2]; exact HEN4.out, HB4.out⟩
      · have HF : Hid (ofF s = 4 ∧ ofL s = []) := by
          unfold ofF ofL
          rw [if_neg hf, if_neg hf]
          exact ⟨rfl, rfl⟩
        have he : errV (textF (entsOf s)) = .iface 34 (.int .i64 (textF (entsOf s))) := by unfold errV; rw [if_neg hf]
        rw [he]
        generalize textS (entsOf s) = ts
        generalize textF (entsOf s) = tf at *
        clear hf hb4 he
        go_wp2_with fail
        exact bodyPost_ret (v := .tuple #[.slice none 0 0, .iface 34 (.int .i64 4)]) (by simp [results, Tryd.results6, go_sem] <;> rfl) rfl ⟨_, by rw [HF.out.1]; rfl, by rw [HF.out.2]; exact ⟨Rd.nil _ _ _ _, by simp⟩, HB4.out⟩
end Go.Proofs.YtaepdbkfaoiimabDoor
