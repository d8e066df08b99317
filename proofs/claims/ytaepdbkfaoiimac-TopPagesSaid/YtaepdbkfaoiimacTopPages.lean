/- TopPages returns true at every input, and leaves it as it was. Conditions: none. -/
import Derived.Test.YtaepdbkfaoiimacPages
import Derived.Test.YtaepdbkfaoiimacStoU
import Derived.Test.YtaepdbkfaoiimacMg
set_option linter.unusedVariables false
set_option linter.unusedSimpArgs false
namespace Go.Proofs.Ytaepdbkfaoiimac
open Go.ChangeShapes Go.WideShapes Go.ChangeAt Go.RowKit Go.WideMaps Go.WideElems
open Go.ChangeMaps (open_string shut_string)
attribute [local go_sem ↓] eql_err eql_nilerr neq_err neq_nilerr guard_err guard_nilerr guardn_err guardn_nilerr
theorem rowsf {c : Chip} {s : SM} (h : Inv c s) : ∀ e ∈ s.rows, faultE e = 0 := by
  intro e he
  obtain ⟨l, hl, hel⟩ := merge_mem (live_mem (show e ∈ liveE (mergeAll (s.mem :: s.tabs)) from he)).1
  rcases List.mem_cons.1 hl with rfl | hl
  · obtain ⟨es, hlog⟩ := h.body.log
    exact hlog.fault e hel
  · exact chkT_all (tabF_parts (tabsAt_ok h.body.tabs l hl)).2.2 e hel
/-- Behind this key stand the rows from the j-th one on. -/
def Behind (r : List Ent) (ky : ByteArray) (j : Nat) : Prop := r.filter (fun e => ltB ky e.k) = r.drop j
theorem own_below' {w w' : World} {b0 e size n : Nat} {v : Value} {xs : List Value} (h : w.ownsRow b0 e size v n xs) (hb : Below w.heap.size w w') : w'.ownsRow b0 e size v n xs := by
  obtain ⟨h1, h2⟩ := h
  refine ⟨h1, h2.imp id ?_⟩
  rintro ⟨g, cap, cur, h3, h4, h5, h6⟩
  exact ⟨g, cap, cur, h3, h4, (hb.block g (heap_lt h5)).trans h5, h6⟩
theorem own_far {wr w5 w6 : World} {b0 b o j n c0 e size : Nat} {A0 : Option Addr} {xs : List Value} (h : wr.ownsRow b0 e size (.slice A0 j c0) n xs) (hg : w5.grownBy w6 (Value.slice A0 j c0).ownBlock) (hb : wr.heap.size ≤ b) (hlt : b < w5.heap.size) :
    w6.cell? ⟨b, o, none⟩ = w5.cell? ⟨b, o, none⟩ := hg.cell_far ⟨b, o, none⟩ hlt (by
  rcases h.2 with ⟨e1, _⟩ | ⟨g, cap, cur, e1, _, hh, _⟩
  · cases e1; simp [Value.ownBlock]
  · cases e1
    have := heap_lt hh
    simp [Value.ownBlock]
    omega)
theorem own_geb {w : World} {B b o n c n' e size : Nat} {xs : List Value} (h : w.ownsRow B e size (.slice (some ⟨b, o, none⟩) n c) n' xs) : B ≤ b := by
  rcases h.2 with ⟨e1, _⟩ | ⟨g, cap, cur, e1, h2, _⟩
  · cases e1
  · cases e1; exact h2
theorem behind_start {r : List Ent} (hf : ∀ e ∈ r, faultE e = 0) : Behind r ByteArray.empty 0 := by
  unfold Behind
  rw [List.drop_zero, List.filter_eq_self]
  intro e he
  have h := (faultE_zero (hf e he)).1
  unfold ltB
  rw [(toList_nil ByteArray.empty).2 rfl]
  cases hk : e.k.toList with
  | nil => exact absurd hk h
  | cons a l => rfl
theorem page_len {r : List Ent} {ky : ByteArray} {j : Nat} (h : Behind r ky j) (n : Nat) : (pageM r ky n).length = min n (r.length - j) := by
  unfold pageM
  rw [h, List.length_take, List.length_drop]
theorem page_at {r : List Ent} {ky : ByteArray} {j : Nat} (h : Behind r ky j) {n i : Nat} (hi : i < n) : (pageM r ky n)[i]? = r[j + i]? := by
  unfold pageM
  rw [h, List.getElem?_take, if_pos hi, List.getElem?_drop]
theorem page_take {r : List Ent} {ky : ByteArray} {j : Nat} (h : Behind r ky j) (n : Nat) : r.take j ++ pageM r ky n = r.take (j + (pageM r ky n).length) := by
  have hl := page_len h n
  rw [hl]
  unfold pageM
  rw [h, List.take_add]
  congr 1
  by_cases hn : n ≤ r.length - j
  · rw [Nat.min_eq_left hn]
  · rw [Nat.min_eq_right (by omega), List.take_of_length_le (by rw [List.length_drop]; omega), List.take_of_length_le (by rw [List.length_drop]; omega)]
set_option maxRecDepth 20000 in
set_option maxHeartbeats 4000000 in
theorem topPages_walk (va : Value) (l : List Act) (many : Int) (w : World) (ha : ActsR w.heap.size w va l) :
    Calls Try.prog 8 #[va, .int .i64 many] w fun e w' => e = .returned (.bool true) ∧ Below w.heap.size w w' := by
  have HWO := Lib.hid (works_any w)
  have HFI := Lib.hid (fun W (hW : Below w.heap.size w W) => filled_any w.heap.size va l W (acts_below ha hW) hW.size)
  clear ha
  cases hg : filG l
  · have HF0 := Lib.hid (fun W hW => fil_no hg (HFI.out W hW))
    clear hg HFI
    go_enter Try.func8, Try.ntmps8
    go_wp2_with (first
      | (go_at_call 11; refine HWO.out.mono ?_; rintro e w1 ⟨rfl, hb1⟩)
      | (go_at_call 12; refine (HF0.out w1 hb1).mono ?_; rintro e w2 ⟨rfl, rfl⟩))
    go_ret
    exact ⟨rfl, hb1⟩
  have HF1 := Lib.hid (fun W hW => fil_yes hg (HFI.out W hW))
  have hl80 := filG_len hg
  clear hg HFI
  go_enter Try.func8, Try.ntmps8
  go_wp2_with (first
    | (go_at_call 11; refine HWO.out.mono ?_; rintro e w1 ⟨rfl, hb1⟩)
    | (go_at_call 12; refine (HF1.out w1 hb1).mono ?_; rintro e w2 ⟨p, q, rfl, c, s, F, hst, hrw, hFw, hpw, hb2⟩; have hb12 := hb1.trans (hb2.mono hb1.size)))
  have HB2 := Lib.hid (And.intro hb2 hb1.size)
  have HBW : Hid (∀ W, Below w1.heap.size w1 W → Below w.heap.size w W) := Lib.hid fun W hW => hb1.trans (hW.mono hb1.size)
  have HS2 := Lib.hid hst
  clear hst hrw hFw hpw hb2 hb1 hb12 HWO HF1
  have HRI := Lib.hid (And.intro HS2.out.rise (rowsf HS2.out.ok.inv))
  have hr40 : s.rows.length ≤ 40 := HS2.out.ok.inv.body.rows
  have a7 := and7 many
  obtain ⟨N, hN, hN1, hN8⟩ : ∃ N : Nat, 1 + many % 8 = (N : Int) ∧ 1 ≤ N ∧ N ≤ 8 := ⟨(1 + many % 8).toNat, by omega, by omega, by omega⟩
  have hw1 : wrap64 (1 + many % 8) = (N : Int) := by rw [hN]; exact w64 _ (by omega) (by omega)
  go_wp2_with fail
  rw [a7, hw1]
  clear a7
  go_loopw [9, 10, 11] (fun af u i wr => ∃ (j m : Nat) (ky : ByteArray), af = .string ky ∧ i = .int .i64 (m : Int) ∧ m ≤ j ∧ j ≤ s.rows.length ∧ Hid (Behind s.rows ky j) ∧ Hid (wr.ownsRow w2.heap.size 34 3 u j ((s.rows.take j).flatMap Ent.cells)) ∧ Hid (Below w2.heap.size w2 wr)) (fun _ _ i _ => 50 - (intOf i).toNat)
  case atStart => exact ⟨0, 0, ByteArray.empty, rfl, rfl, Nat.le_refl _, Nat.zero_le _, behind_start HRI.out.2, World.ownsRow_nil _ _ _ _, Below.refl _ _⟩
  case round =>
    obtain ⟨j, m, ky, rfl, rfl, hm, hj, hbe, hown, hbl⟩ := hrel
    obtain ⟨A0, c0, rfl⟩ := rd_form' (Rd.of_own (B := 0) hown.out)
    have g1 : (m : Int) < 50 := by omega
    have hpl := page_len hbe.out N
    have HPG := Lib.hid (spage_own w1.heap.size q p _ _ c s F ky (N : Int) wr (HS2.out.below hbl.out))
    rw [Int.toNat_natCast] at HPG
    have HPA : Hid (∀ i x, (pageM s.rows ky N)[i]? = some x → i < N → s.rows[j + i]? = some x) := fun i x h hi => (page_at hbe.out hi).symm.trans h
    have HPT := Lib.hid (page_take hbe.out N)
    have HSZ := Lib.hid hbl.out.size
    generalize pageM s.rows ky N = pg at *
    have HPL := Lib.hid hpl
    have HNN := Lib.hid (And.intro hN hw1)
    clear hbe hpl hN hw1
    go_wp2_with fail
    refine HPG.out.mono ?_
    rintro e w5 ⟨v5, rfl, hv5, hb5, ho5⟩
    obtain ⟨A5, c5, rfl, k1, k2, hcell⟩ := hv5.form
    have hpl := HPL.out
    have g2 : decide ((N : Int) < (pg.length : Int)) = false := decide_eq_false (by omega)
    have g2n : ¬ N < pg.length := by omega
    clear hpl
    have HV5 := Lib.hid hv5
    have HC5 := Lib.hid hcell
    have HB5 := Lib.hid (hbl.out.trans (hb5.mono hbl.out.size))
    have HO5 := Lib.hid (own_below' hown.out hb5)
    have HOW := Lib.hid hown.out
    have HO6 := Lib.hid ho5
    have HSR := Lib.hid hb5.size
    clear hv5 hcell hb5 ho5 HPG hown hbl
    by_cases h0 : pg.length = 0
    · have g3 : ((pg.length : Int) == 0) = true := by rw [beq_iff_eq]; omega
      have hjr : j = s.rows.length := by have := HPL.out; omega
      have HR := Lib.hid (rows_st (HS2.out.below HB5.out))
      have HEN : Hid (Ents w1.heap.size w5 (.slice A0 j c0) s.rows) := by
        have h := Rd.of_own (B := w1.heap.size) HO5.out
        rw [hjr, List.take_length] at h
        rw [hjr]
        exact ⟨h, fun e he => by obtain ⟨_, _, q1, q2⟩ := faultE_zero (HRI.out.2 e he); exact ⟨by omega, by omega⟩⟩
      clear hjr HC5 HV5 HPA HPT HO5
      go_wp2_with fail
      refine HR.out.mono ?_
      rintro e w6 ⟨v6, rfl, hv6, hs6, hb6⟩
      have HSA : Hid (Calls Try.prog 20 #[.slice A0 j c0, v6] w6 fun e w' => e = .returned (.bool true) ∧ ∃ n, w' = w6.drewN n) := by
        refine (same_any w1.heap.size _ v6 _ _ w6 (HEN.out.below hb6) hv6).mono ?_
        rintro e w' ⟨rfl, n, rfl⟩
        exact ⟨by simp, n, rfl⟩
      have HB6 : Hid (Below w1.heap.size w1 w6) := (HB2.out.1.trans (HB5.out.mono HB2.out.1.size)).trans (hb6.mono (HB2.out.1.trans (HB5.out.mono HB2.out.1.size)).size)
      clear hv6 hs6 hb6 HR
      go_wp2_with fail
      refine HSA.out.mono ?_
      rintro e w7 ⟨rfl, n, rfl⟩
      go_wp2_with fail
      go_ret
      exact ⟨rfl, HBW.out _ (below_drewN' HB6.out n)⟩
    · have g3 : ((pg.length : Int) == 0) = false := by rw [beq_eq_false_iff_ne]; omega
      have hpl := HPL.out
      obtain ⟨n, hn⟩ : ∃ n, pg.length = n + 1 := ⟨pg.length - 1, by omega⟩
      obtain ⟨x, hx, _, _⟩ := getElem?_of_lt (l := pg) (k := n) (by omega)
      obtain ⟨b, o, rfl, hb, y1, y2, y3⟩ := HC5.out n x hx
      have hxr := HPA.out n x hx (by omega)
      have HBN : Hid (Behind s.rows x.k (j + (n + 1))) := filter_behind HRI.out.1 hxr
      have HTK : Hid (s.rows.take (j + (n + 1)) = s.rows.take j ++ pg) := by rw [Hid, HPT.out, hn]
      have hwn : wrap64 ((pg.length : Int) - 1) = (n : Int) := by rw [show (pg.length : Int) - 1 = (n : Int) by omega]; exact w64 _ (by omega) (by omega)
      have g4 : (0 : Int) ≤ (n : Int) := by omega
      have g5 : (n : Int) < (pg.length : Int) := by omega
      obtain ⟨i0, hi, hz0, hz1, hz2⟩ := info_parts info_entry
      have hge := own_geb HO6.out
      rw [show n = pg.length - 1 by omega] at y1
      have g6 : (0 : Int) ≤ (pg.length : Int) - 1 := by omega
      have g7 : (pg.length : Int) - 1 < (pg.length : Int) := by omega
      have hl40 : pg.length ≤ 8 := by omega
      have hjn : j + (n + 1) ≤ s.rows.length := by omega
      have hn8 : n + 1 ≤ 8 := by omega
      have HN := Lib.hid hn
      clear hx hxr HPA HPT hpl hn
      go_wp2_with (at_builtin; go_loud (refine wpList_append_rd _ rfl (.tmp 50) (.tmp 51) 23 rfl w2.heap.size 34 i0 _ 3 40 Try.underlying23 hi hz0 hz1 hz2 rfl (by decide) _ _ _ rfl HO5.out w1.heap.size 34 _ _ _ rfl HV5.out.1 (ents_one _) (by unfold maxLen; omega) (by omega) HB5.out.size ?_); intro v6 w6 hown6 hg6 hat6; have z1 := (own_far (o := o + (pg.length - 1) * 3) HOW.out hg6 hge hb).trans y1)
      have hb6 := below_own HB5.out (Nat.le_refl _) HO5.out hg6
      have hown2 : Hid (w6.ownsRow w2.heap.size 34 3 v6 (j + (n + 1)) ((s.rows.take (j + (n + 1))).flatMap Ent.cells)) := by
        rw [Hid, HTK.out, List.flatMap_append, ← HN.out]; exact hown6
      clear hi hz0 hz1 hz2 hg6 hat6 hown6
      have HB6 := Lib.hid hb6
      clear hb6
      go_roundw
      case rel => exact ⟨j + (n + 1), m + 1, x.k, rfl, by go_num, by omega, by omega, HBN.out, hown2.out, HB6.out⟩
      case measure => simp [intOf] <;> omega

-- CLOSING

set_option maxRecDepth 100000 in
theorem topPages_holds : Rows.TopPagesSaid :=
  OpenClaim.holds_of_wide 8 Try.f8 rfl rfl rfl rfl rfl rfl rfl ⟨rfl, rfl, rfl, rfl, rfl⟩ rfl rfl rfl rfl rfl (by kernel_rfl) Try.func8 (by kernel_rfl)
    (of_decide_eq_true (by kernel_rfl)) (by unfold Func.isWrapper; first | (rw [if_pos (by decide +kernel)]; kernel_rfl) | (rw [if_neg (by decide +kernel)]; exact ⟨rfl, rfl⟩))
    (fun os started H enc _ => close_lifted Rows.topPagesSpec 8 Try.f8 os started H enc (by kernel_rfl) Try.func8 (by kernel_rfl) rfl
      (fun ds hd => by
        rw [Try.params8] at hd
        match ds, hd with
        | [d1, d2], _ => rfl)
      (by kernel_rfl)
      (ChangeSpec.witness6 (enc := enc) (C := Try.checked) false ⟨#[], #[.slice none 0 0, .int .i64 0], []⟩ 8 (by kernel_rfl) (by kernel_rfl) (by kernel_rfl) (by kernel_rfl))
      (fun W base args ds p hval hA => by
        rw [Try.params8] at hA hval
        obtain ⟨v0, v1, d0, d1, p0, p1, hargs, rfl, rfl, h0, h1⟩ := trodAll_two hA
        obtain rfl : args = #[v0, v1] := by cases args; simp_all
        obtain ⟨l0, hl0⟩ := acts_of (hval 0 _ v0 rfl rfl) h0
        obtain ⟨n1, rfl, rfl, rfl, wn1⟩ := open_int Try.underlying3 (hval 1 _ v1 rfl rfl) h1
        exact topPages_walk v0 l0 n1 W hl0))
#print axioms topPages_holds
end Go.Proofs.Ytaepdbkfaoiimac
