/- TopGone returns true at every input, and leaves it as it was. Conditions: none. -/
import Derived.Test.YtaepdbkfaoiimadStoU
set_option linter.unusedVariables false
set_option linter.unusedSimpArgs false
namespace Go.Proofs.Ytaepdbkfaoiimad
open Go.ChangeShapes Go.WideShapes Go.ChangeAt Go.RowKit Go.WideMaps Go.WideElems
open Go.ChangeMaps (open_string shut_string)
attribute [local go_sem ↓] eql_err eql_nilerr neq_err neq_nilerr guard_err guard_nilerr guardn_err guardn_nilerr
theorem rowsf {c : Chip} {s : SM} (h : Inv c s) : ∀ e ∈ s.rows, faultE e = 0 := by
  intro e he
  obtain ⟨l, hl, hel⟩ := merge_mem (live_mem (show e ∈ liveE (mergeAll (s.mem :: s.tabs)) from he)).1
  rcases List.mem_cons.1 hl with rfl | hl
  · obtain ⟨es, hlog⟩ := h.body.log
    exact hlog.fault e hel
  · exact chkT_all (tabF_parts (tabsAt_ok h.body.tabs l hl)).2.2 e hel
theorem gone_one {x : Ent} {xs : List Ent} (hr : Rises (x :: xs)) (ha : ∀ e ∈ x :: xs, e.g = false) (hf : faultE x = 0) (h40 : (x :: xs).length ≤ 40) :
    checkR (x :: xs) [⟨x.k, ⟨#[]⟩, true⟩] = 0 ∧ rowsW (x :: xs) [⟨x.k, ⟨#[]⟩, true⟩] = xs := by
  obtain ⟨k1, _, k2, _⟩ := faultE_zero hf
  have hfe : faultE ⟨x.k, ⟨#[]⟩, true⟩ = 0 := by
    unfold faultE
    rw [if_neg (by simp [k1]), if_neg (by show ¬ (8 < x.k.size ∨ 16 < (0 : Nat)); omega)]
  have hby : bytesF [⟨x.k, ⟨#[]⟩, true⟩] = 0 := by
    have hs := bytesL_size ([⟨x.k, ⟨#[]⟩, true⟩] : List Ent).length [⟨x.k, ⟨#[]⟩, true⟩] (by intro e he; simp at he; subst he; exact hfe)
    unfold bytesF
    rw [if_pos (by unfold ff; rw [if_pos hfe]; rfl), if_neg (by simp at hs ⊢; omega)]
  have hput : putE (x :: xs) ⟨x.k, ⟨#[]⟩, true⟩ = ⟨x.k, ⟨#[]⟩, true⟩ :: xs := by
    rw [putE_eq _ _ hr, merge2, if_neg (by simp [ltB_irrefl]), if_neg (by simp [ltB_irrefl]), merge2]
  have hlive : liveE ([⟨x.k, ⟨#[]⟩, true⟩].foldl putE (x :: xs)) = xs := by
    show liveE (putE (x :: xs) _) = _
    rw [hput]
    unfold liveE
    rw [List.filter_cons_of_neg (by simp), List.filter_eq_self]
    intro e he
    simp [ha e (by simp [he])]
  have hc : checkR (x :: xs) [⟨x.k, ⟨#[]⟩, true⟩] = 0 := by
    unfold checkR
    rw [if_neg (by simp), if_neg (by simp [hby]), hlive, if_neg (by simp at h40; omega)]
  exact ⟨hc, by rw [rowsW, if_pos hc, hlive]⟩
theorem gone_tabs {s : SM} (hm : s.mem = []) (hr : s.rows = []) : liveE (mergeAll s.tabs) = [] := by
  have : s.rows = liveE (mergeAll (s.mem :: s.tabs)) := rfl
  rw [hr, hm] at this
  have e : mergeAll ([] :: s.tabs) = mergeAll s.tabs := by show merge2 [] (mergeAll s.tabs) = mergeAll s.tabs; cases mergeAll s.tabs <;> simp [merge2]
  rw [e] at this
  exact this.symm
set_option maxRecDepth 20000 in
set_option maxHeartbeats 4000000 in
theorem topGone_walk (va : Value) (l : List Act) (w : World) (ha : ActsR w.heap.size w va l) :
    Calls Try.prog 3 #[va] w fun e w' => e = .returned (.bool true) ∧ Below w.heap.size w w' := by
  have HWO := Lib.hid (works_any w)
  have HFI := Lib.hid (fun W (hW : Below w.heap.size w W) => filled_any w.heap.size va l W (acts_below ha hW) hW.size)
  clear ha
  cases hg : filG l
  · have HF0 := Lib.hid (fun W hW => fil_no hg (HFI.out W hW))
    clear hg HFI
    go_enter Try.func3, Try.ntmps3
    go_wp2_with (first
      | (go_at_call 6; refine HWO.out.mono ?_; rintro e w1 ⟨rfl, hb1⟩)
      | (go_at_call 7; refine (HF0.out w1 hb1).mono ?_; rintro e w2 ⟨rfl, rfl⟩))
    go_ret
    exact ⟨rfl, hb1⟩
  have HF1 := Lib.hid (fun W hW => fil_yes hg (HFI.out W hW))
  have hl80 := filG_len hg
  clear hg HFI
  go_enter Try.func3, Try.ntmps3
  go_wp2_with (first
    | (go_at_call 6; refine HWO.out.mono ?_; rintro e w1 ⟨rfl, hb1⟩)
    | (go_at_call 7; refine (HF1.out w1 hb1).mono ?_; rintro e w2 ⟨p, q, rfl, c, s, F, hst, hrw, hFw, hpw, hb2⟩; have hb12 := hb1.trans (hb2.mono hb1.size)))
  have HB2 := Lib.hid (And.intro hb2 hb1.size)
  have HBW : Hid (∀ W, Below w1.heap.size w1 W → Below w.heap.size w W) := Lib.hid fun W hW => hb1.trans (hW.mono hb1.size)
  have HS2 := Lib.hid hst
  clear hst hrw hFw hpw hb2 hb1 hb12 HWO HF1
  have HR2 := Lib.hid (rows_st HS2.out)
  have HRI := Lib.hid (And.intro HS2.out.rise (And.intro (rows_alive s) (rowsf HS2.out.ok.inv)))
  have hr40 : s.rows.length ≤ 40 := HS2.out.ok.inv.body.rows
  clear HS2
  refine HR2.out.mono ?_
  rintro e w3 ⟨v3, rfl, hv3, hs3, hb3⟩
  have HB3 : Hid (Below w1.heap.size w1 w3) := HB2.out.1.trans (hb3.mono HB2.out.1.size)
  obtain ⟨A3, c3, rfl, _, _, kX⟩ := hv3.form
  have HV3 := Lib.hid hv3
  have HS3 := Lib.hid hs3
  obtain ⟨r, hr⟩ : ∃ r, s.rows = r := ⟨_, rfl⟩
  rw [hr] at HRI hr40 HV3
  have hrl : s.rows.length = r.length := by rw [hr]
  rw [hrl]
  have HRW : Hid (s.rows = r) := hr
  clear hv3 hs3 hb3 kX HR2 HB2 hr hrl
  go_wp2_with fail
  go_loopw [7] (fun i wr => ∃ (k : Nat) (c : Chip) (s : SM) (F : List Nat), i = .int .i64 (k : Int) ∧ k ≤ r.length ∧ Hid (StS w1.heap.size wr q p (l.length + k) (weakN l) c s F) ∧ Hid (s.rows = r.drop k) ∧ Hid (Ents w1.heap.size wr (.slice A3 r.length c3) r) ∧ Hid (Below w1.heap.size w1 wr)) (fun i _ => r.length - (intOf i).toNat)
  case atStart => exact ⟨0, c, s, F, rfl, Nat.zero_le _, HS3.out, by rw [HRW.out]; rfl, HV3.out, HB3.out⟩
  case round =>
    clear HS3 HRW HV3 HB3
    obtain ⟨k, c, s, F, rfl, hk, hst, hrw, hen, hbl⟩ := hrel
    by_cases hlt : k < r.length
    · obtain ⟨x, hx, htk, hdr⟩ := getElem?_of_lt hlt
      obtain ⟨_, _, e1, _, _, hcell⟩ := hen.out.form
      cases e1
      obtain ⟨b, o, rfl, hb, y1, y2, y3⟩ := hcell k x hx
      have g1 : (0 : Int) ≤ (k : Int) := by omega
      have g2 : (k : Int) < (r.length : Int) := by omega
      have hris : Rises (x :: r.drop (k + 1)) := by rw [← hdr]; exact (HRI.out.1 : List.Pairwise _ r).drop (i := k)
      have hxm := List.mem_of_getElem? hx
      have hal : ∀ e ∈ x :: r.drop (k + 1), e.g = false := by rw [← hdr]; exact fun e he => HRI.out.2.1 e (List.mem_of_mem_drop he)
      have hlen : (x :: r.drop (k + 1)).length ≤ 40 := by rw [← hdr, List.length_drop]; omega
      obtain ⟨k1, k2⟩ := gone_one hris hal (HRI.out.2.2 x hxm) hlen
      rw [← hdr, ← hrw.out] at k1 k2
      have hxk := (faultE_zero (HRI.out.2.2 x hxm)).2.2.1
      have hen4 : Ents w1.heap.size (wr.alloc (.cells #[.string x.k, .string ⟨#[]⟩, .bool true] 34)) (.slice (some ⟨wr.heap.size, 0, none⟩) 1 1) [⟨x.k, ⟨#[]⟩, true⟩] := ⟨rd_lit3 _ wr _ rfl x.k ⟨#[]⟩ true, by intro e he; simp at he; subst he; exact ⟨by show x.k.size ≤ _; omega, Nat.zero_le _⟩⟩
      have hb4 : Below wr.heap.size wr (wr.alloc (.cells #[.string x.k, .string ⟨#[]⟩, .bool true] 34)) := (Below.refl _ _).alloc (Nat.le_refl _) _
      have hw4 := write_st (hst.out.below hb4) (by omega) hen4
      rw [k1, k2] at hw4
      have HW4 := Lib.hid hw4
      have HB4 : Hid (Below w1.heap.size w1 (wr.alloc (.cells #[.string x.k, .string ⟨#[]⟩, .bool true] 34))) := hbl.out.trans (hb4.mono hbl.out.size)
      have HE4 := Lib.hid (hen.out.below hb4)
      clear hcell hx htk hdr hris hxm hal hlen k1 k2 hxk hen4 hb4 hw4 hst hrw hen hbl
      go_wp2_with fail
      refine HW4.out.mono ?_
      intro e w5 hd
      obtain ⟨c5, s5, F5, rfl, hs5, hr5, hb5⟩ := hd.st HB4.out (Nat.le_refl _)
      obtain ⟨_, _, _, _, _, _, _, hf5⟩ := hd
      have HNX : Hid (StS w1.heap.size w5 q p (l.length + (k + 1)) (weakN l) c5 s5 F5 ∧ s5.rows = r.drop (k + 1) ∧ Ents w1.heap.size w5 (.slice (some ⟨b, o, none⟩) r.length c3) r ∧ Below w1.heap.size w1 w5) :=
        ⟨hs5, hr5, HE4.out.fr hf5, hb5⟩
      clear hs5 hr5 hb5 hf5 HW4 HE4 HB4
      rw [show errV 0 = Value.nilIface from rfl]
      go_wp2_with fail
      go_roundw
      case rel => exact ⟨k + 1, c5, s5, F5, by go_num, by omega, HNX.out⟩
      case measure => simp [intOf] <;> omega
    · obtain rfl : k = r.length := by omega
      have t30 : decide ((r.length : Int) < (r.length : Int)) = false := by simp
      have hr0 : s.rows = [] := by rw [hrw.out, List.drop_length]
      have HFL := Lib.hid (flush_st hst.out (by omega))
      clear hst hrw hen
      go_wp2_with fail
      refine HFL.out.mono ?_
      rintro e w5 ⟨c5, s5, F5, rfl, hs5, hr5, hF5, hf5, hm5, _⟩
      have HB5 : Hid (Below w1.heap.size w1 w5) := FrQ.below hbl.out (Nat.le_refl _) hf5
      have HCO := Lib.hid (comp_st hs5 (by omega))
      have HT5 : Hid (s5.rows = [] ∧ parts 14 (liveE (mergeAll s5.tabs)) = []) := by
        have h := hr5.trans hr0
        exact ⟨h, by rw [gone_tabs hm5 h]; rfl⟩
      clear hs5 hr5 hF5 hf5 hm5 hbl HFL
      go_wp2_with fail
      refine HCO.out.mono ?_
      rintro e w6 ⟨c6, s6, F6, rfl, hs6, hr6, hF6, hf6, hm6, hn6, ht6⟩
      have HB6 : Hid (Below w1.heap.size w1 w6) := FrQ.below HB5.out (Nat.le_refl _) hf6
      have hn0 : s6.m.nw.length = 0 := by rw [hn6]; rfl
      have ho0 : s6.m.od.length = 0 := by
        have h := tabsAt_len hs6.ok.inv.body.tabs
        rw [ht6, HT5.out.2, hn6] at h
        exact h
      have HR6 : Hid (s6.rows.length = 0) := by rw [hr6, HT5.out.1]; rfl
      have HMA := sman_st hs6
      rw [hn0, ho0] at HMA
      have HMA := Lib.hid HMA
      clear hs6 hr6 hF6 hf6 hm6 hn6 ht6 hn0 ho0 HCO HT5 HB5
      go_wp2_with fail
      refine HMA.out.mono ?_
      rintro e w7 ⟨A4, c4, A5, c5', rfl, _, _, hs7, hb7⟩
      have hb8 : Below w7.heap.size w7 (w7.alloc (.cells #[.int .i64 s6.m.ep, .int .i64 s6.m.log, .slice A4 0 c4, .slice A5 0 c5'] 38)) := (Below.refl _ _).alloc (Nat.le_refl _) _
      have hg8 := Blk.new w7 38 #[.int .i64 s6.m.ep, .int .i64 s6.m.log, .slice A4 0 c4, .slice A5 0 c5']
      have HB7 : Hid (Below w1.heap.size w1 (w7.alloc (.cells #[.int .i64 s6.m.ep, .int .i64 s6.m.log, .slice A4 0 c4, .slice A5 0 c5'] 38))) := (HB6.out.trans (hb7.mono HB6.out.size)).trans (hb8.mono (HB6.out.trans (hb7.mono HB6.out.size)).size)
      have HRO := Lib.hid (rows_st (hs7.below hb8))
      have HG8 := Lib.hid hg8
      clear hs7 hb7 hb8 hg8 HMA HB6
      go_wp2_with fail
      refine HRO.out.mono ?_
      rintro e w9 ⟨v9, rfl, hv9, hs9, hb9⟩
      obtain ⟨A9, c9, rfl, _, _, kX⟩ := hv9.form
      rw [HR6.out]
      have hg9 := HG8.out.below hb9 HG8.out.lt
      have x2 := hg9.cell 2
      have x3 := hg9.cell 3
      simp at x2 x3
      have HB9 := Lib.hid (HB7.out.trans (hb9.mono HB7.out.size))
      clear hv9 hs9 hb9 kX hg9 HRO HG8 HB7
      go_wp2_with fail
      go_ret
      exact ⟨rfl, HBW.out _ HB9.out⟩

-- CLOSING

set_option maxRecDepth 100000 in
theorem topGone_holds : Rows.TopGoneSaid :=
  OpenClaim.holds_of_wide 3 Try.f3 rfl rfl rfl rfl rfl rfl rfl ⟨rfl, rfl, rfl, rfl, rfl⟩ rfl rfl rfl rfl rfl (by kernel_rfl) Try.func3 (by kernel_rfl)
    (of_decide_eq_true (by kernel_rfl)) (by unfold Func.isWrapper; first | (rw [if_pos (by decide +kernel)]; kernel_rfl) | (rw [if_neg (by decide +kernel)]; exact ⟨rfl, rfl⟩))
    (fun os started H enc _ => close_lifted Rows.topGoneSpec 3 Try.f3 os started H enc (by kernel_rfl) Try.func3 (by kernel_rfl) rfl
      (fun ds hd => by
        rw [Try.params3] at hd
        match ds, hd with
        | [d1], _ => rfl)
      (by kernel_rfl)
      (ChangeSpec.witness6 (enc := enc) (C := Try.checked) false ⟨#[], #[.slice none 0 0], []⟩ 8 (by kernel_rfl) (by kernel_rfl) (by kernel_rfl) (by kernel_rfl))
      (fun W base args ds p hval hA => by
        rw [Try.params3] at hA hval
        obtain ⟨v0, d0, hargs, rfl, h0⟩ := trodAll_one hA
        obtain rfl : args = #[v0] := by cases args; simp_all
        obtain ⟨l0, hl0⟩ := acts_of (hval 0 _ v0 rfl rfl) h0
        exact topGone_walk v0 l0 W hl0))
#print axioms topGone_holds
end Go.Proofs.Ytaepdbkfaoiimad
