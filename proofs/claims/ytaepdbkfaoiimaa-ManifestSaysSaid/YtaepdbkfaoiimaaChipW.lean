/- The closures of package chip that a page is written by, and Write. Conditions: none but the sizes of any memory. -/
import Derived.Test.YtaepdbkfaoiimaaChip
set_option linter.unusedVariables false
set_option linter.unusedSimpArgs false
namespace Go.Proofs.Ytaepdbkfaoiimaa
open Go.RowKit

theorem info_page : (Try.prog.info? 150).map (fun i => (i.zero, i.size, i.bytes)) = some (some (.agg #[.string ByteArray.empty, .bool false]), 2, 24) := by kernel_rfl
/-- The cells of block n behind a page more. -/
theorem ChipV.snoc {B : Nat} {w : World} {p : Nat} {V : Nat → Value} {c : Chip} {u : Value} (h : ChipV B w p V c u) {n : Nat} (hn : n < 24) (s : Sheet) {v : Value}
    (hr : Rd B 150 2 w v ((c.b n).l.length + 1) (sheetL (c.b n).l ++ [.string s.d, .bool s.t])) :
    ChipV B (w.setCell ⟨p, n * 4, none⟩ v) p (fun i => if i = n then v else V i) (c.set n { c.b n with l := (c.b n).l ++ [s] }) u := by
  refine h.set_ (b := n) (j := 0) hn (by omega) (fun i hi hne => ?_) ?_ ⟨rfl, rfl⟩ (fun i hi => ?_)
  · simp only [blkL]; rw [Chip.set_far _ _ hne, if_neg hne]
  · simp [blkL]
  · by_cases e : i = n
    · subst e
      rw [Chip.set_same, if_pos rfl]
      rw [sheetL_snoc]
      simpa using hr
    · rw [Chip.set_far _ _ e, if_neg e]
      exact h.rows i hi

theorem rd_at {B T sz n : Nat} {w : World} {xs : List Value} {A : Option Addr} {m cap : Nat} (h : Rd B T sz w (.slice A m cap) n xs) : 0 < n → ∃ b o, A = some ⟨b, o, none⟩ ∧ Kd B T w b ∧ b < w.heap.size ∧ ∀ j u, xs[j]? = some u → w.cell? ⟨b, o + j, none⟩ = some u := by
  obtain ⟨_, A', cap', e, _, _, h5⟩ := h
  cases e
  exact h5
theorem rd_form {B T sz n : Nat} {w : World} {xs : List Value} {v : Value} (h : Rd B T sz w v n xs) : ∃ A cap, v = .slice A n cap := by
  obtain ⟨_, A', cap', e, _⟩ := h
  exact ⟨A', cap', e⟩
theorem blk_ne {w : World} {g : Nat} {T T' : TypeId} {cs cs' : Array Value} (h : Blk w g T cs) (h' : Blk w g T' cs') (hT : T ≠ T') : False := by
  unfold Blk at h h'
  rw [h] at h'
  injection h' with h'
  injection h' with _ e
  exact hT e
set_option maxHeartbeats 4000000 in
theorem write1_any (B p n bx bn bd : Nat) (V : Nat → Value) (c : Chip) (u : Value) (d : ByteArray) (w : World) (hv : ChipV B w p V c u) (hn : n < 24) (hl : (c.b n).l.length < 8)
    (h1 : Blk w bx 146 #[.pointer (some ⟨p, n * 4, none⟩)]) (h2 : Blk w bn 3 #[.int .i64 (c.b n).l.length]) (h3 : Blk w bd 9 #[.string d]) :
    Calls Try.prog 91 #[.pointer (some ⟨bx, 0, none⟩), .pointer (some ⟨bn, 0, none⟩), .pointer (some ⟨bd, 0, none⟩)] w fun e w' =>
      e = .returned (.tuple #[]) ∧ (∃ V', ChipV B w' p V' (doP c (.wr n d)) u) ∧ Fr B (· = p) w w' := by
  have hc := (hv.cell hn).1
  obtain ⟨A, cap, hV, k2, k3, kA, k4⟩ := sheets_form (hv.rows n hn)
  have hrow := hv.rows n hn
  rw [hV] at hc hrow
  have x1 := h1.cell 0
  have x2 := h2.cell 0
  have x3 := h3.cell 0
  simp at x1 x2 x3
  have hfz := hv.blk.frozen (n * 4)
  have HV := Lib.hid hv
  have HR := Lib.hid hrow
  have HK := Lib.hid k4
  have HKA := Lib.hid kA
  have H1 := Lib.hid h1
  have H2 := Lib.hid h2
  have H3 := Lib.hid h3
  have NE : Hid (p ≠ bx ∧ p ≠ bn ∧ p ≠ bd) := ⟨fun e => by have := h1; rw [← e] at this; exact blk_ne hv.blk this (by decide), fun e => by have := h2; rw [← e] at this; exact blk_ne hv.blk this (by decide), fun e => by have := h3; rw [← e] at this; exact blk_ne hv.blk this (by decide)⟩
  clear hv hV h1 h2 h3 hrow k4 kA
  obtain ⟨i0, hi, hz0, hz1, hz2⟩ := info_parts info_page
  have g0 : (0 : Int) ≤ ((c.b n).l.length : Int) := by omega
  have g1 : ((c.b n).l.length : Int) ≤ (cap : Int) := by omega
  have HBA : Hid (Below w.heap.size w (w.alloc (.cells #[.string d, .bool false] 150)).drew) := ((Below.refl w.heap.size w).alloc (Nat.le_refl _) _).drew
  have HNEW : Hid (∀ (j : Nat) (u : Value), [Value.string d, .bool false][j]? = some u → (w.alloc (.cells #[.string d, .bool false] 150)).drew.cell? ((Addr.mk w.heap.size 0 none).add j) = some u) := by
    intro j u hu
    have h := (Blk.drewN (Blk.new w 150 #[.string d, .bool false]) 1).cell (0 + j)
    rw [addr_add]
    refine h.trans ?_
    simpa using hu
  have HX : Hid ((w.alloc (.cells #[.string d, .bool false] 150)).drew.cell? ⟨bx, 0, none⟩ = some (.pointer (some ⟨p, n * 4, none⟩)) ∧ (w.alloc (.cells #[.string d, .bool false] 150)).drew.cell? ⟨bn, 0, none⟩ = some (.int .i64 (c.b n).l.length) ∧ (w.alloc (.cells #[.string d, .bool false] 150)).drew.cell? ⟨bd, 0, none⟩ = some (.string d)) :=
    ⟨(HBA.out.cell (p := ⟨bx, 0, none⟩) H1.out.lt).trans x1, (HBA.out.cell (p := ⟨bn, 0, none⟩) H2.out.lt).trans x2, (HBA.out.cell (p := ⟨bd, 0, none⟩) H3.out.lt).trans x3⟩
  have HOLD : Hid (∀ b, A = some b → ∀ j u, (sheetL (c.b n).l)[j]? = some u → (w.alloc (.cells #[.string d, .bool false] 150)).drew.cell? (b.add j) = some u) := by
    intro b hb j u hu
    have h5 := rd_at HR.out
    have hj : 0 < (c.b n).l.length := by
      have hs := sheetL_len (c.b n).l
      rcases Nat.lt_or_ge j (sheetL (c.b n).l).length with h | h
      · clear h5; omega
      · rw [List.getElem?_eq_none h] at hu; cases hu
    obtain ⟨g, o, e, _, hlt, h6⟩ := h5 hj
    obtain rfl : b = ⟨g, o, none⟩ := Option.some.inj (hb.symm.trans e)
    rw [addr_add]
    exact (HBA.out.cell (p := ⟨g, o + j, none⟩) hlt).trans (h6 j u hu)
  have HN0 : Hid (A = none → (c.b n).l.length = 0 ∧ (c.b n).l.length = 0) := by
    intro e
    rcases HKA.out with h | ⟨b, o, h⟩
    · exact ⟨h, h⟩
    · rw [e] at h; cases h
  go_enter Try.func91, Try.ntmps91
  go_wp2_with fail
  refine wp_region_held_drew (S := fun w' => w'.cell? ⟨bx, 0, none⟩ = some (.pointer (some ⟨p, n * 4, none⟩)) ∧ w'.cell? ⟨bn, 0, none⟩ = some (.int .i64 (c.b n).l.length) ∧ w'.cell? ⟨bd, 0, none⟩ = some (.string d)) (by kernel_rfl) ?_ (fun hHeld => ?_)
  · exact ⟨x1, x2, x3⟩
  refine wpAnyH_take (i := 0) (oi := ⟨some 3, _, _, _, _, _⟩) (v := .pointer (some ⟨p, n * 4, none⟩)) rfl (by kernel_rfl) (by kernel_rfl) (by kernel_rfl) (fun _ _ _ h => h) (Or.inl ⟨by rfl, ?_⟩) (by assumption) ?_
  · intro wS hSw
    go_simp
  simp only [Act.put, List.setIfInBounds_toArray, List.set_cons_zero, List.set_cons_succ]
  refine wpAnyH_take (i := 1) (oi := ⟨some 4, _, _, _, _, _⟩) (v := .pointer (some ⟨p, n * 4, none⟩)) rfl (by kernel_rfl) (by kernel_rfl) (by kernel_rfl) (fun _ _ _ h => h) (Or.inl ⟨by rfl, ?_⟩) (by assumption) ?_
  · intro wS hSw
    go_simp
  simp only [Act.put, List.setIfInBounds_toArray, List.set_cons_zero, List.set_cons_succ]
  refine wpAnyH_take (i := 2) (oi := ⟨some 5, _, _, _, _, _⟩) (v := .pointer (some ⟨p, n * 4, none⟩)) rfl (by kernel_rfl) (by kernel_rfl) (by kernel_rfl) (fun _ _ _ h => h) (Or.inl ⟨by rfl, ?_⟩) (by assumption) ?_
  · intro wS hSw
    go_simp
  simp only [Act.put, List.setIfInBounds_toArray, List.set_cons_zero, List.set_cons_succ]
  refine wpAnyH_take (i := 3) (oi := ⟨some 6, _, _, _, _, _⟩) (v := .pointer (some ⟨p, n * 4, none⟩)) rfl (by kernel_rfl) (by kernel_rfl) (by kernel_rfl) (fun _ _ _ h => h) (Or.inl ⟨by rfl, ?_⟩) (by assumption) ?_
  · intro wS hSw
    go_simp
  simp only [Act.put, List.setIfInBounds_toArray, List.set_cons_zero, List.set_cons_succ]
  refine wpAnyH_take (i := 5) (oi := ⟨some 8, _, _, _, _, _⟩) (v := .int .i64 (c.b n).l.length) rfl (by kernel_rfl) (by kernel_rfl) (by kernel_rfl) (fun _ _ _ h => h) (Or.inl ⟨by rfl, ?_⟩) (by assumption) ?_
  · intro wS hSw
    go_simp
  simp only [Act.put, List.setIfInBounds_toArray, List.set_cons_zero, List.set_cons_succ]
  refine wpAnyH_take (i := 6) (oi := ⟨some 9, _, _, _, _, _⟩) (v := .int .i64 (c.b n).l.length) rfl (by kernel_rfl) (by kernel_rfl) (by kernel_rfl) (fun _ _ _ h => h) (Or.inl ⟨by rfl, ?_⟩) (by assumption) ?_
  · intro wS hSw
    go_simp
  simp only [Act.put, List.setIfInBounds_toArray, List.set_cons_zero, List.set_cons_succ]
  refine wpAnyH_take (i := 8) (oi := ⟨some 11, _, _, _, _, _⟩) (v := .string d) rfl (by kernel_rfl) (by kernel_rfl) (by kernel_rfl) (fun _ _ _ h => h) (Or.inl ⟨by rfl, ?_⟩) (by assumption) ?_
  · intro wS hSw
    go_simp
  simp only [Act.put, List.setIfInBounds_toArray, List.set_cons_zero, List.set_cons_succ]
  refine wpAnyH_take (i := 9) (oi := ⟨some 12, _, _, _, _, _⟩) (v := .agg #[.string d, .bool false]) rfl (by kernel_rfl) (by kernel_rfl) (by kernel_rfl) (fun _ _ _ h => h) (Or.inl ⟨by rfl, ?_⟩) (by assumption) ?_
  · intro wS hSw
    go_simp
  simp only [Act.put, List.setIfInBounds_toArray, List.set_cons_zero, List.set_cons_succ]
  refine wpAnyH_ready (rs := [4, 10]) (by kernel_rfl) (by simp) ?_
  refine AllReadyH.cons (o := ⟨some 7, _, _, _, _, _⟩) rfl (fun K hK => ?_) ?_
  · go_simp
    refine hK.out _ _ ?_ (fun hHeld => ?_)
    · exact hHeld
    clear hK K
    try simp only [Act.put, List.setIfInBounds_toArray, List.set_cons_zero, List.set_cons_succ]
    refine wpAnyH_take (i := 7) (oi := ⟨some 10, _, _, _, _, _⟩) (v := .slice A (c.b n).l.length (c.b n).l.length) rfl (by kernel_rfl) (by kernel_rfl) (by kernel_rfl) (fun _ _ _ h => h) (Or.inl ⟨by rfl, ?_⟩) (by assumption) ?_
    · intro wS hSw
      go_simp
    simp only [Act.put, List.setIfInBounds_toArray, List.set_cons_zero, List.set_cons_succ]
    refine wpAnyH_ready (rs := [10]) (by kernel_rfl) (by simp) ?_
    refine AllReadyH.cons (o := ⟨some 13, _, _, _, _, _⟩) rfl (fun K hK => ?_) ?_
    · go_simp
      refine hK.out _ _ ?_ (fun hHeld => ?_)
      · exact HX.out
      clear hK K
      try simp only [Act.put, List.setIfInBounds_toArray, List.set_cons_zero, List.set_cons_succ]
      refine wpAnyH_ready (rs := [11]) (by kernel_rfl) (by simp) ?_
      refine AllReadyH.cons (o := ⟨some 14, _, _, _, _, _⟩) rfl (fun K hK => ?_) ?_
      refine step_append_grows rfl (.tmp 10) (.tmp 13) 140 rfl 150 i0 _ 2 24 Try.underlying140 hi hz0 hz1 hz2 rfl (by decide) A (c.b n).l.length (c.b n).l.length (sheetL (c.b n).l) (by rfl) HN0.out (sheetL_len _) HOLD.out ⟨w.heap.size, 0, none⟩ 1 1 [Value.string d, .bool false] (by rfl) (by rfl) HNEW.out (by simp [Value.oneCell']) (by omega) (by unfold maxLen; omega) (by omega) ?_
      intro v1 w1 hown1 hg1
      obtain ⟨A1, cap1, rfl⟩ := rd_form (B := w.heap.size) (Rd.of_own hown1)
      have hb1 := HBA.out.grown hg1 HBA.out.size (fun k e => by cases e)
      have hv1 := HV.out.below hb1
      have y1 := (H1.out.below hb1 H1.out.lt).cell 0
      have y2 := (H2.out.below hb1 H2.out.lt).cell 0
      have y3 := (H3.out.below hb1 H3.out.lt).cell 0
      simp at y1 y2 y3
      refine hK.out _ _ ?_ (fun hHeld => ?_)
      · exact ⟨y1, y2, y3⟩
      clear hK K
      have HO1 := Lib.hid hown1
      have HB1 := Lib.hid hb1
      have HV1 := Lib.hid hv1
      clear hown1 hg1 hb1 hv1
      simp only [Act.put, List.setIfInBounds_toArray, List.set_cons_zero, List.set_cons_succ]
      refine wpAnyH_take (i := 12) (oi := ⟨some 15, _, _, _, _, _⟩) (v := .pointer (some ⟨p, n * 4, none⟩)) rfl (by kernel_rfl) (by kernel_rfl) (by kernel_rfl) (fun _ _ _ h => h) (Or.inl ⟨by rfl, ?_⟩) (by assumption) ?_
      · intro wS hSw
        go_simp
      simp only [Act.put, List.setIfInBounds_toArray, List.set_cons_zero, List.set_cons_succ]
      refine wpAnyH_take (i := 13) (oi := ⟨some 16, _, _, _, _, _⟩) (v := .pointer (some ⟨p, n * 4, none⟩)) rfl (by kernel_rfl) (by kernel_rfl) (by kernel_rfl) (fun _ _ _ h => h) (Or.inl ⟨by rfl, ?_⟩) (by assumption) ?_
      · intro wS hSw
        go_simp
      simp only [Act.put, List.setIfInBounds_toArray, List.set_cons_zero, List.set_cons_succ]
      refine wpAnyH_ready (rs := [14]) (by kernel_rfl) (by simp) ?_
      refine AllReadyH.cons (o := ⟨none, _, _, _, _, _⟩) rfl (fun K hK => ?_) ?_
      have q1 := (HV1.out.cell hn).1
      have q2 := HV1.out.blk.frozen (n * 4)
      have hrow1 : Hid (Rd B 150 2 w1 (.slice A1 ((c.b n).l.length + 1) cap1) ((c.b n).l.length + 1) (sheetL (c.b n).l ++ [Value.string d, .bool false])) := Rd.of_own HO1.out
      go_simp
      refine hK.out _ _ ?_ (fun hHeld => ?_)
      · exact ⟨by rw [World.cell?_setCell_far _ _ _ _ NE.out.1]; exact hHeld.1, by rw [World.cell?_setCell_far _ _ _ _ NE.out.2.1]; exact hHeld.2.1, by rw [World.cell?_setCell_far _ _ _ _ NE.out.2.2]; exact hHeld.2.2⟩
      clear hK K
      refine wpAnyH_done (by kernel_rfl) ?_ _
      go_end0
      refine ⟨rfl, ⟨_, HV1.out.snoc hn ⟨d, false⟩ hrow1.out⟩, ?_⟩
      exact fr_chip (Fr.of_below HB1.out) HV1.out _ _ HV.out.mut
      all_goals exact AllReadyH.nil
    · exact AllReadyH.nil
  · refine AllReadyH.cons (o := ⟨some 13, _, _, _, _, _⟩) rfl (fun K hK => ?_) ?_
    · go_simp
      refine hK.out _ _ ?_ (fun hHeld => ?_)
      · exact HX.out
      clear hK K
      try simp only [Act.put, List.setIfInBounds_toArray, List.set_cons_zero, List.set_cons_succ]
      refine wpAnyH_ready (rs := [4]) (by kernel_rfl) (by simp) ?_
      refine AllReadyH.cons (o := ⟨some 7, _, _, _, _, _⟩) rfl (fun K hK => ?_) ?_
      have hcA := (HBA.out.cell (p := ⟨p, n * 4, none⟩) HV.out.blk.lt).trans hc
      · go_simp
        refine hK.out _ _ ?_ (fun hHeld => ?_)
        · exact hHeld
        clear hK K
        try simp only [Act.put, List.setIfInBounds_toArray, List.set_cons_zero, List.set_cons_succ]
        refine wpAnyH_take (i := 7) (oi := ⟨some 10, _, _, _, _, _⟩) (v := .slice A (c.b n).l.length (c.b n).l.length) rfl (by kernel_rfl) (by kernel_rfl) (by kernel_rfl) (fun _ _ _ h => h) (Or.inl ⟨by rfl, ?_⟩) (by assumption) ?_
        · intro wS hSw
          go_simp
        simp only [Act.put, List.setIfInBounds_toArray, List.set_cons_zero, List.set_cons_succ]
        refine wpAnyH_ready (rs := [11]) (by kernel_rfl) (by simp) ?_
        refine AllReadyH.cons (o := ⟨some 14, _, _, _, _, _⟩) rfl (fun K hK => ?_) ?_
        refine step_append_grows rfl (.tmp 10) (.tmp 13) 140 rfl 150 i0 _ 2 24 Try.underlying140 hi hz0 hz1 hz2 rfl (by decide) A (c.b n).l.length (c.b n).l.length (sheetL (c.b n).l) (by rfl) HN0.out (sheetL_len _) HOLD.out ⟨w.heap.size, 0, none⟩ 1 1 [Value.string d, .bool false] (by rfl) (by rfl) HNEW.out (by simp [Value.oneCell']) (by omega) (by unfold maxLen; omega) (by omega) ?_
        intro v1 w1 hown1 hg1
        obtain ⟨A1, cap1, rfl⟩ := rd_form (B := w.heap.size) (Rd.of_own hown1)
        have hb1 := HBA.out.grown hg1 HBA.out.size (fun k e => by cases e)
        have hv1 := HV.out.below hb1
        have y1 := (H1.out.below hb1 H1.out.lt).cell 0
        have y2 := (H2.out.below hb1 H2.out.lt).cell 0
        have y3 := (H3.out.below hb1 H3.out.lt).cell 0
        simp at y1 y2 y3
        refine hK.out _ _ ?_ (fun hHeld => ?_)
        · exact ⟨y1, y2, y3⟩
        clear hK K
        have HO1 := Lib.hid hown1
        have HB1 := Lib.hid hb1
        have HV1 := Lib.hid hv1
        clear hown1 hg1 hb1 hv1
        simp only [Act.put, List.setIfInBounds_toArray, List.set_cons_zero, List.set_cons_succ]
        refine wpAnyH_take (i := 12) (oi := ⟨some 15, _, _, _, _, _⟩) (v := .pointer (some ⟨p, n * 4, none⟩)) rfl (by kernel_rfl) (by kernel_rfl) (by kernel_rfl) (fun _ _ _ h => h) (Or.inl ⟨by rfl, ?_⟩) (by assumption) ?_
        · intro wS hSw
          go_simp
        simp only [Act.put, List.setIfInBounds_toArray, List.set_cons_zero, List.set_cons_succ]
        refine wpAnyH_take (i := 13) (oi := ⟨some 16, _, _, _, _, _⟩) (v := .pointer (some ⟨p, n * 4, none⟩)) rfl (by kernel_rfl) (by kernel_rfl) (by kernel_rfl) (fun _ _ _ h => h) (Or.inl ⟨by rfl, ?_⟩) (by assumption) ?_
        · intro wS hSw
          go_simp
        simp only [Act.put, List.setIfInBounds_toArray, List.set_cons_zero, List.set_cons_succ]
        refine wpAnyH_ready (rs := [14]) (by kernel_rfl) (by simp) ?_
        refine AllReadyH.cons (o := ⟨none, _, _, _, _, _⟩) rfl (fun K hK => ?_) ?_
        have q1 := (HV1.out.cell hn).1
        have q2 := HV1.out.blk.frozen (n * 4)
        have hrow1 : Hid (Rd B 150 2 w1 (.slice A1 ((c.b n).l.length + 1) cap1) ((c.b n).l.length + 1) (sheetL (c.b n).l ++ [Value.string d, .bool false])) := Rd.of_own HO1.out
        go_simp
        refine hK.out _ _ ?_ (fun hHeld => ?_)
        · exact ⟨by rw [World.cell?_setCell_far _ _ _ _ NE.out.1]; exact hHeld.1, by rw [World.cell?_setCell_far _ _ _ _ NE.out.2.1]; exact hHeld.2.1, by rw [World.cell?_setCell_far _ _ _ _ NE.out.2.2]; exact hHeld.2.2⟩
        clear hK K
        refine wpAnyH_done (by kernel_rfl) ?_ _
        go_end0
        refine ⟨rfl, ⟨_, HV1.out.snoc hn ⟨d, false⟩ hrow1.out⟩, ?_⟩
        exact fr_chip (Fr.of_below HB1.out) HV1.out _ _ HV.out.mut
        all_goals exact AllReadyH.nil
      · exact AllReadyH.nil
    · exact AllReadyH.nil
set_option maxHeartbeats 4000000 in
theorem write2_any (B p n bx bn : Nat) (V : Nat → Value) (c : Chip) (u : Value) (d : ByteArray) (w : World) (hv : ChipV B w p V c u) (hn : n < 24) (hl : (c.b n).l.length < 8)
    (h1 : Blk w bx 146 #[.pointer (some ⟨p, n * 4, none⟩)]) (h2 : Blk w bn 3 #[.int .i64 (c.b n).l.length]) :
    Calls Try.prog 92 #[.pointer (some ⟨bx, 0, none⟩), .pointer (some ⟨bn, 0, none⟩)] w fun e w' =>
      e = .returned (.tuple #[]) ∧ (∃ V', ChipV B w' p V' (halfP c (.wr n d)) u) ∧ Fr B (· = p) w w' := by
  have hc := (hv.cell hn).1
  obtain ⟨A, cap, hV, k2, k3, kA, k4⟩ := sheets_form (hv.rows n hn)
  have hrow := hv.rows n hn
  rw [hV] at hc hrow
  have x1 := h1.cell 0
  have x2 := h2.cell 0
  simp at x1 x2
  have hfz := hv.blk.frozen (n * 4)
  have HV := Lib.hid hv
  have HR := Lib.hid hrow
  have HK := Lib.hid k4
  have HKA := Lib.hid kA
  have H1 := Lib.hid h1
  have H2 := Lib.hid h2
  have NE : Hid (p ≠ bx ∧ p ≠ bn) := ⟨fun e => by have := h1; rw [← e] at this; exact blk_ne hv.blk this (by decide), fun e => by have := h2; rw [← e] at this; exact blk_ne hv.blk this (by decide)⟩
  clear hv hV h1 h2 hrow k4 kA
  obtain ⟨i0, hi, hz0, hz1, hz2⟩ := info_parts info_page
  have g0 : (0 : Int) ≤ ((c.b n).l.length : Int) := by omega
  have g1 : ((c.b n).l.length : Int) ≤ (cap : Int) := by omega
  have HBA : Hid (Below w.heap.size w (w.alloc (.cells #[.string ⟨#[]⟩, .bool true] 150)).drew) := ((Below.refl w.heap.size w).alloc (Nat.le_refl _) _).drew
  have HNEW : Hid (∀ (j : Nat) (u : Value), [Value.string ⟨#[]⟩, .bool true][j]? = some u → (w.alloc (.cells #[.string ⟨#[]⟩, .bool true] 150)).drew.cell? ((Addr.mk w.heap.size 0 none).add j) = some u) := by
    intro j u hu
    have h := (Blk.drewN (Blk.new w 150 #[.string ⟨#[]⟩, .bool true]) 1).cell (0 + j)
    rw [addr_add]
    refine h.trans ?_
    simpa using hu
  have HX : Hid ((w.alloc (.cells #[.string ⟨#[]⟩, .bool true] 150)).drew.cell? ⟨bx, 0, none⟩ = some (.pointer (some ⟨p, n * 4, none⟩)) ∧ (w.alloc (.cells #[.string ⟨#[]⟩, .bool true] 150)).drew.cell? ⟨bn, 0, none⟩ = some (.int .i64 (c.b n).l.length)) :=
    ⟨(HBA.out.cell (p := ⟨bx, 0, none⟩) H1.out.lt).trans x1, (HBA.out.cell (p := ⟨bn, 0, none⟩) H2.out.lt).trans x2⟩
  have HOLD : Hid (∀ b, A = some b → ∀ j u, (sheetL (c.b n).l)[j]? = some u → (w.alloc (.cells #[.string ⟨#[]⟩, .bool true] 150)).drew.cell? (b.add j) = some u) := by
    intro b hb j u hu
    have h5 := rd_at HR.out
    have hj : 0 < (c.b n).l.length := by
      have hs := sheetL_len (c.b n).l
      rcases Nat.lt_or_ge j (sheetL (c.b n).l).length with h | h
      · clear h5; omega
      · rw [List.getElem?_eq_none h] at hu; cases hu
    obtain ⟨g, o, e, _, hlt, h6⟩ := h5 hj
    obtain rfl : b = ⟨g, o, none⟩ := Option.some.inj (hb.symm.trans e)
    rw [addr_add]
    exact (HBA.out.cell (p := ⟨g, o + j, none⟩) hlt).trans (h6 j u hu)
  have HN0 : Hid (A = none → (c.b n).l.length = 0 ∧ (c.b n).l.length = 0) := by
    intro e
    rcases HKA.out with h | ⟨b, o, h⟩
    · exact ⟨h, h⟩
    · rw [e] at h; cases h
  go_enter Try.func92, Try.ntmps92
  go_wp2_with fail
  refine wp_region_held_drew (S := fun w' => w'.cell? ⟨bx, 0, none⟩ = some (.pointer (some ⟨p, n * 4, none⟩)) ∧ w'.cell? ⟨bn, 0, none⟩ = some (.int .i64 (c.b n).l.length)) (by kernel_rfl) ?_ (fun hHeld => ?_)
  · exact ⟨x1, x2⟩
  refine wpAnyH_take (i := 0) (oi := ⟨some 2, _, _, _, _, _⟩) (v := .pointer (some ⟨p, n * 4, none⟩)) rfl (by kernel_rfl) (by kernel_rfl) (by kernel_rfl) (fun _ _ _ h => h) (Or.inl ⟨by rfl, ?_⟩) (by assumption) ?_
  · intro wS hSw
    go_simp
  simp only [Act.put, List.setIfInBounds_toArray, List.set_cons_zero, List.set_cons_succ]
  refine wpAnyH_take (i := 1) (oi := ⟨some 3, _, _, _, _, _⟩) (v := .pointer (some ⟨p, n * 4, none⟩)) rfl (by kernel_rfl) (by kernel_rfl) (by kernel_rfl) (fun _ _ _ h => h) (Or.inl ⟨by rfl, ?_⟩) (by assumption) ?_
  · intro wS hSw
    go_simp
  simp only [Act.put, List.setIfInBounds_toArray, List.set_cons_zero, List.set_cons_succ]
  refine wpAnyH_take (i := 2) (oi := ⟨some 4, _, _, _, _, _⟩) (v := .pointer (some ⟨p, n * 4, none⟩)) rfl (by kernel_rfl) (by kernel_rfl) (by kernel_rfl) (fun _ _ _ h => h) (Or.inl ⟨by rfl, ?_⟩) (by assumption) ?_
  · intro wS hSw
    go_simp
  simp only [Act.put, List.setIfInBounds_toArray, List.set_cons_zero, List.set_cons_succ]
  refine wpAnyH_take (i := 3) (oi := ⟨some 5, _, _, _, _, _⟩) (v := .pointer (some ⟨p, n * 4, none⟩)) rfl (by kernel_rfl) (by kernel_rfl) (by kernel_rfl) (fun _ _ _ h => h) (Or.inl ⟨by rfl, ?_⟩) (by assumption) ?_
  · intro wS hSw
    go_simp
  simp only [Act.put, List.setIfInBounds_toArray, List.set_cons_zero, List.set_cons_succ]
  refine wpAnyH_take (i := 5) (oi := ⟨some 7, _, _, _, _, _⟩) (v := .int .i64 (c.b n).l.length) rfl (by kernel_rfl) (by kernel_rfl) (by kernel_rfl) (fun _ _ _ h => h) (Or.inl ⟨by rfl, ?_⟩) (by assumption) ?_
  · intro wS hSw
    go_simp
  simp only [Act.put, List.setIfInBounds_toArray, List.set_cons_zero, List.set_cons_succ]
  refine wpAnyH_take (i := 6) (oi := ⟨some 8, _, _, _, _, _⟩) (v := .int .i64 (c.b n).l.length) rfl (by kernel_rfl) (by kernel_rfl) (by kernel_rfl) (fun _ _ _ h => h) (Or.inl ⟨by rfl, ?_⟩) (by assumption) ?_
  · intro wS hSw
    go_simp
  simp only [Act.put, List.setIfInBounds_toArray, List.set_cons_zero, List.set_cons_succ]
  refine wpAnyH_take (i := 8) (oi := ⟨some 10, _, _, _, _, _⟩) (v := .agg #[.string ⟨#[]⟩, .bool true]) rfl (by kernel_rfl) (by kernel_rfl) (by kernel_rfl) (fun _ _ _ h => h) (Or.inl ⟨by rfl, ?_⟩) (by assumption) ?_
  · intro wS hSw
    go_simp
  simp only [Act.put, List.setIfInBounds_toArray, List.set_cons_zero, List.set_cons_succ]
  refine wpAnyH_ready (rs := [4, 9]) (by kernel_rfl) (by simp) ?_
  refine AllReadyH.cons (o := ⟨some 6, _, _, _, _, _⟩) rfl (fun K hK => ?_) ?_
  · go_simp
    refine hK.out _ _ ?_ (fun hHeld => ?_)
    · exact hHeld
    clear hK K
    try simp only [Act.put, List.setIfInBounds_toArray, List.set_cons_zero, List.set_cons_succ]
    refine wpAnyH_take (i := 7) (oi := ⟨some 9, _, _, _, _, _⟩) (v := .slice A (c.b n).l.length (c.b n).l.length) rfl (by kernel_rfl) (by kernel_rfl) (by kernel_rfl) (fun _ _ _ h => h) (Or.inl ⟨by rfl, ?_⟩) (by assumption) ?_
    · intro wS hSw
      go_simp
    simp only [Act.put, List.setIfInBounds_toArray, List.set_cons_zero, List.set_cons_succ]
    refine wpAnyH_ready (rs := [9]) (by kernel_rfl) (by simp) ?_
    refine AllReadyH.cons (o := ⟨some 11, _, _, _, _, _⟩) rfl (fun K hK => ?_) ?_
    · go_simp
      refine hK.out _ _ ?_ (fun hHeld => ?_)
      · exact HX.out
      clear hK K
      try simp only [Act.put, List.setIfInBounds_toArray, List.set_cons_zero, List.set_cons_succ]
      refine wpAnyH_ready (rs := [10]) (by kernel_rfl) (by simp) ?_
      refine AllReadyH.cons (o := ⟨some 12, _, _, _, _, _⟩) rfl (fun K hK => ?_) ?_
      refine step_append_grows rfl (.tmp 9) (.tmp 11) 140 rfl 150 i0 _ 2 24 Try.underlying140 hi hz0 hz1 hz2 rfl (by decide) A (c.b n).l.length (c.b n).l.length (sheetL (c.b n).l) (by rfl) HN0.out (sheetL_len _) HOLD.out ⟨w.heap.size, 0, none⟩ 1 1 [Value.string ⟨#[]⟩, .bool true] (by rfl) (by rfl) HNEW.out (by simp [Value.oneCell']) (by omega) (by unfold maxLen; omega) (by omega) ?_
      intro v1 w1 hown1 hg1
      obtain ⟨A1, cap1, rfl⟩ := rd_form (B := w.heap.size) (Rd.of_own hown1)
      have hb1 := HBA.out.grown hg1 HBA.out.size (fun k e => by cases e)
      have hv1 := HV.out.below hb1
      have y1 := (H1.out.below hb1 H1.out.lt).cell 0
      have y2 := (H2.out.below hb1 H2.out.lt).cell 0
      skip
      simp at y1 y2
      refine hK.out _ _ ?_ (fun hHeld => ?_)
      · exact ⟨y1, y2⟩
      clear hK K
      have HO1 := Lib.hid hown1
      have HB1 := Lib.hid hb1
      have HV1 := Lib.hid hv1
      clear hown1 hg1 hb1 hv1
      simp only [Act.put, List.setIfInBounds_toArray, List.set_cons_zero, List.set_cons_succ]
      refine wpAnyH_take (i := 11) (oi := ⟨some 13, _, _, _, _, _⟩) (v := .pointer (some ⟨p, n * 4, none⟩)) rfl (by kernel_rfl) (by kernel_rfl) (by kernel_rfl) (fun _ _ _ h => h) (Or.inl ⟨by rfl, ?_⟩) (by assumption) ?_
      · intro wS hSw
        go_simp
      simp only [Act.put, List.setIfInBounds_toArray, List.set_cons_zero, List.set_cons_succ]
      refine wpAnyH_take (i := 12) (oi := ⟨some 14, _, _, _, _, _⟩) (v := .pointer (some ⟨p, n * 4, none⟩)) rfl (by kernel_rfl) (by kernel_rfl) (by kernel_rfl) (fun _ _ _ h => h) (Or.inl ⟨by rfl, ?_⟩) (by assumption) ?_
      · intro wS hSw
        go_simp
      simp only [Act.put, List.setIfInBounds_toArray, List.set_cons_zero, List.set_cons_succ]
      refine wpAnyH_ready (rs := [13]) (by kernel_rfl) (by simp) ?_
      refine AllReadyH.cons (o := ⟨none, _, _, _, _, _⟩) rfl (fun K hK => ?_) ?_
      have q1 := (HV1.out.cell hn).1
      have q2 := HV1.out.blk.frozen (n * 4)
      have hrow1 : Hid (Rd B 150 2 w1 (.slice A1 ((c.b n).l.length + 1) cap1) ((c.b n).l.length + 1) (sheetL (c.b n).l ++ [Value.string ⟨#[]⟩, .bool true])) := Rd.of_own HO1.out
      go_simp
      refine hK.out _ _ ?_ (fun hHeld => ?_)
      · exact ⟨by rw [World.cell?_setCell_far _ _ _ _ NE.out.1]; exact hHeld.1, by rw [World.cell?_setCell_far _ _ _ _ NE.out.2]; exact hHeld.2⟩
      clear hK K
      refine wpAnyH_done (by kernel_rfl) ?_ _
      go_end0
      refine ⟨rfl, ⟨_, HV1.out.snoc hn torn hrow1.out⟩, ?_⟩
      exact fr_chip (Fr.of_below HB1.out) HV1.out _ _ HV.out.mut
      all_goals exact AllReadyH.nil
    · exact AllReadyH.nil
  · refine AllReadyH.cons (o := ⟨some 11, _, _, _, _, _⟩) rfl (fun K hK => ?_) ?_
    · go_simp
      refine hK.out _ _ ?_ (fun hHeld => ?_)
      · exact HX.out
      clear hK K
      try simp only [Act.put, List.setIfInBounds_toArray, List.set_cons_zero, List.set_cons_succ]
      refine wpAnyH_ready (rs := [4]) (by kernel_rfl) (by simp) ?_
      refine AllReadyH.cons (o := ⟨some 6, _, _, _, _, _⟩) rfl (fun K hK => ?_) ?_
      have hcA := (HBA.out.cell (p := ⟨p, n * 4, none⟩) HV.out.blk.lt).trans hc
      · go_simp
        refine hK.out _ _ ?_ (fun hHeld => ?_)
        · exact hHeld
        clear hK K
        try simp only [Act.put, List.setIfInBounds_toArray, List.set_cons_zero, List.set_cons_succ]
        refine wpAnyH_take (i := 7) (oi := ⟨some 9, _, _, _, _, _⟩) (v := .slice A (c.b n).l.length (c.b n).l.length) rfl (by kernel_rfl) (by kernel_rfl) (by kernel_rfl) (fun _ _ _ h => h) (Or.inl ⟨by rfl, ?_⟩) (by assumption) ?_
        · intro wS hSw
          go_simp
        simp only [Act.put, List.setIfInBounds_toArray, List.set_cons_zero, List.set_cons_succ]
        refine wpAnyH_ready (rs := [10]) (by kernel_rfl) (by simp) ?_
        refine AllReadyH.cons (o := ⟨some 12, _, _, _, _, _⟩) rfl (fun K hK => ?_) ?_
        refine step_append_grows rfl (.tmp 9) (.tmp 11) 140 rfl 150 i0 _ 2 24 Try.underlying140 hi hz0 hz1 hz2 rfl (by decide) A (c.b n).l.length (c.b n).l.length (sheetL (c.b n).l) (by rfl) HN0.out (sheetL_len _) HOLD.out ⟨w.heap.size, 0, none⟩ 1 1 [Value.string ⟨#[]⟩, .bool true] (by rfl) (by rfl) HNEW.out (by simp [Value.oneCell']) (by omega) (by unfold maxLen; omega) (by omega) ?_
        intro v1 w1 hown1 hg1
        obtain ⟨A1, cap1, rfl⟩ := rd_form (B := w.heap.size) (Rd.of_own hown1)
        have hb1 := HBA.out.grown hg1 HBA.out.size (fun k e => by cases e)
        have hv1 := HV.out.below hb1
        have y1 := (H1.out.below hb1 H1.out.lt).cell 0
        have y2 := (H2.out.below hb1 H2.out.lt).cell 0
        skip
        simp at y1 y2
        refine hK.out _ _ ?_ (fun hHeld => ?_)
        · exact ⟨y1, y2⟩
        clear hK K
        have HO1 := Lib.hid hown1
        have HB1 := Lib.hid hb1
        have HV1 := Lib.hid hv1
        clear hown1 hg1 hb1 hv1
        simp only [Act.put, List.setIfInBounds_toArray, List.set_cons_zero, List.set_cons_succ]
        refine wpAnyH_take (i := 11) (oi := ⟨some 13, _, _, _, _, _⟩) (v := .pointer (some ⟨p, n * 4, none⟩)) rfl (by kernel_rfl) (by kernel_rfl) (by kernel_rfl) (fun _ _ _ h => h) (Or.inl ⟨by rfl, ?_⟩) (by assumption) ?_
        · intro wS hSw
          go_simp
        simp only [Act.put, List.setIfInBounds_toArray, List.set_cons_zero, List.set_cons_succ]
        refine wpAnyH_take (i := 12) (oi := ⟨some 14, _, _, _, _, _⟩) (v := .pointer (some ⟨p, n * 4, none⟩)) rfl (by kernel_rfl) (by kernel_rfl) (by kernel_rfl) (fun _ _ _ h => h) (Or.inl ⟨by rfl, ?_⟩) (by assumption) ?_
        · intro wS hSw
          go_simp
        simp only [Act.put, List.setIfInBounds_toArray, List.set_cons_zero, List.set_cons_succ]
        refine wpAnyH_ready (rs := [13]) (by kernel_rfl) (by simp) ?_
        refine AllReadyH.cons (o := ⟨none, _, _, _, _, _⟩) rfl (fun K hK => ?_) ?_
        have q1 := (HV1.out.cell hn).1
        have q2 := HV1.out.blk.frozen (n * 4)
        have hrow1 : Hid (Rd B 150 2 w1 (.slice A1 ((c.b n).l.length + 1) cap1) ((c.b n).l.length + 1) (sheetL (c.b n).l ++ [Value.string ⟨#[]⟩, .bool true])) := Rd.of_own HO1.out
        go_simp
        refine hK.out _ _ ?_ (fun hHeld => ?_)
        · exact ⟨by rw [World.cell?_setCell_far _ _ _ _ NE.out.1]; exact hHeld.1, by rw [World.cell?_setCell_far _ _ _ _ NE.out.2]; exact hHeld.2⟩
        clear hK K
        refine wpAnyH_done (by kernel_rfl) ?_ _
        go_end0
        refine ⟨rfl, ⟨_, HV1.out.snoc hn torn hrow1.out⟩, ?_⟩
        exact fr_chip (Fr.of_below HB1.out) HV1.out _ _ HV.out.mut
        all_goals exact AllReadyH.nil
      · exact AllReadyH.nil
    · exact AllReadyH.nil
end Go.Proofs.Ytaepdbkfaoiimaa
