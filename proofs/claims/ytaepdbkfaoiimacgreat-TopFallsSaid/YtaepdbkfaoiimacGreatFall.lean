/- Acts that the machine may fall in: plain laws, and the contract of the law's do on a chip that is armed. Conditions: none but those that each names. -/
import Derived.Test.YtaepdbkfaoiimacGreatMg
set_option linter.unusedVariables false
set_option linter.unusedSimpArgs false
namespace Go.Proofs.YtaepdbkfaoiimacGreat
open Go.RowKit
/-- The same blocks are weak. -/
def WkS (c c' : Chip) : Prop := ∀ i, (c'.b i).weak = (c.b i).weak
theorem WkS.refl (c : Chip) : WkS c c := fun _ => rfl
theorem WkS.trans {a b c : Chip} (h : WkS a b) (k : WkS b c) : WkS a c := fun i => (k i).trans (h i)
theorem wk_step (c : Chip) (p : Pend) : WkS c (c.step p).1 := by
  unfold Chip.step
  split
  · exact fun _ => rfl
  · exact fun i => (doP_flags _ p i).1
theorem wk_spoil (c : Chip) (b : Nat) : WkS c (c.spoil b) := by
  unfold Chip.spoil
  split
  · intro i
    by_cases e : i = b
    · subst e; simp
    · rw [Chip.set_far c _ e]
  · exact fun _ => rfl
theorem wk_write (c : Chip) (b : Int) (d : ByteArray) : WkS c (c.write b d).1 := by
  unfold Chip.write
  split
  · exact WkS.refl c
  · split
    · exact WkS.refl c
    · split
      · exact WkS.refl c
      · split
        · exact wk_spoil c _
        · exact wk_step c _
theorem wk_erase (c : Chip) (b : Int) : WkS c (c.erase b).1 := by
  unfold Chip.erase
  split
  · exact WkS.refl c
  · split
    · exact wk_spoil c _
    · exact wk_step c _
theorem wk_note (c : Chip) (a : Int) (m : Man) : WkS c (noteR c a m).1 := by
  unfold noteR
  split
  · exact WkS.refl c
  · split
    · split
      · exact wk_erase c _
      · split
        · exact (wk_erase c _).trans (wk_write _ _ _)
        · exact (wk_erase c _).trans (wk_write _ _ _)
    · split
      · exact wk_write c _ _
      · exact wk_write c _ _
theorem wk_tab (c : Chip) (b : Int) (l : List Ent) : WkS c (tabWrite c b l).1 := by
  unfold tabWrite
  have h : ∀ (ps : List ByteArray) (st : Chip × Nat), WkS st.1 (ps.foldl (pStepW b) st).1 := by
    intro ps
    induction ps with
    | nil => exact fun st => WkS.refl _
    | cons d ps ih =>
      intro st
      rw [List.foldl_cons]
      refine WkS.trans ?_ (ih _)
      unfold pStepW
      split
      · exact wk_write _ _ _
      · exact WkS.refl _
  exact (wk_erase c b).trans (h _ _)
theorem wk_seek {f : Chip → Int → Chip × Nat} (hf : ∀ c b, WkS c (f c b).1) (used : List Int) : ∀ (k : Nat) (c : Chip), WkS c (seek f used k c).1
  | 0, c => WkS.refl c
  | k + 1, c => by
    rw [seek]
    split
    · exact WkS.refl c
    · split
      · exact (hf _ _).trans (wk_seek hf used k _)
      · split
        · exact hf _ _
        · exact hf _ _
theorem wk_tables (used : List Int) : ∀ (ps : List (List Ent)) (c : Chip) (out : List Int), WkS c (tablesM used ps c out).1
  | [], c, out => WkS.refl c
  | p :: ps, c, out => by
    rw [tablesM]
    split
    · exact (wk_seek (fun c b => wk_tab c b p) _ _ _).trans (wk_tables used ps _ _)
    · exact wk_seek (fun c b => wk_tab c b p) _ _ _
theorem wk_blank (used : List Int) (c : Chip) : WkS c (blankM used c).1 := wk_seek (fun c b => wk_erase c b) _ _ _
theorem wk_noteM (c : Chip) (s : SM) (m : Man) : WkS c (noteM c s m).1 := by
  unfold noteM
  simp only
  split
  · exact wk_note _ _ _
  · exact wk_note _ _ _
theorem wk_lay (c : Chip) (s : SM) : WkS c (layM c s).1 := by
  unfold layM
  simp only
  split
  · exact wk_tables _ _ _ _
  · split
    · exact (wk_tables _ _ _ _).trans (wk_blank _ _)
    · split
      · exact ((wk_tables _ _ _ _).trans (wk_blank _ _)).trans (wk_noteM _ _ _)
      · exact ((wk_tables _ _ _ _).trans (wk_blank _ _)).trans (wk_noteM _ _ _)
theorem wk_comp (c : Chip) (s : SM) : WkS c (compM c s).1 := by
  unfold compM
  simp only
  split
  · exact wk_tables _ _ _ _
  · split
    · exact (wk_tables _ _ _ _).trans (wk_noteM _ _ _)
    · exact (wk_tables _ _ _ _).trans (wk_noteM _ _ _)
theorem wk_few (c : Chip) (s : SM) : WkS c (fewM c s).1 := by
  unfold fewM
  split
  · exact WkS.refl c
  · exact wk_comp c s
theorem wk_flush (c : Chip) (s : SM) : WkS c (flushM c s).1 := by
  unfold flushM
  simp only
  split
  · exact wk_few c s
  · split
    · exact (wk_few c s).trans (wk_lay _ _)
    · exact ((wk_few c s).trans (wk_lay _ _)).trans (wk_few _ _)
theorem wk_room (c : Chip) (s : SM) : WkS c (roomM c s).1 := by
  unfold roomM
  split
  · exact WkS.refl c
  · exact wk_flush c s
theorem wk_log (d : ByteArray) : ∀ (k : Nat) (c : Chip) (s : SM), WkS c (logM d k c s).1
  | 0, c, s => WkS.refl c
  | k + 1, c, s => by
    rw [logM]
    simp only
    split
    · exact wk_room c s
    · split
      · exact (wk_room c s).trans (wk_write _ _ _)
      · split
        · exact ((wk_room c s).trans (wk_write _ _ _)).trans (wk_flush _ _)
        · exact (((wk_room c s).trans (wk_write _ _ _)).trans (wk_flush _ _)).trans (wk_log d k _ _)
theorem wk_writeM (c : Chip) (s : SM) (l : List Ent) : WkS c (writeM c s l).1 := by
  unfold writeM
  simp only
  split
  · exact WkS.refl c
  · split
    · exact wk_log _ _ _ _
    · exact wk_log _ _ _ _
theorem weaks_same {c c' : Chip} (h : WkS c c') : weaks c' = weaks c := by
  unfold weaks
  congr 1
  funext i
  rw [h i]
/-- A chip that has the same blocks holds the same store. -/
theorem Inv.of_b {c c' : Chip} {s : SM} (hi : Inv c s) (hw : CWf c') (hd : c'.down = false) (hb : ∀ i, c'.b i = c.b i) : Inv c' s := by
  obtain ⟨es, hlog⟩ := hi.body.log
  refine ⟨hw, hd, hi.head.same (by rw [hb]) (by rw [hb]), ⟨hi.body.fault, tabsAt_keep hi.body.tabs fun x _ => by rw [hb], ⟨es, ?_, hlog.mem, ?_, hlog.ok⟩, ?_, hi.body.nwl, hi.body.odl, hi.body.old, hi.body.rows, hi.body.trows⟩⟩
  · rw [hb]; exact hlog.read
  · rw [hb]; exact hlog.few
  · rw [weaks_same (c := c) (fun i => by rw [hb])]; exact hi.body.weak
theorem Inv.weaken {c : Chip} {s : SM} (hi : Inv c s) (hj : weaks c ≤ 5) (b : Int) : Inv (c.weaken b).1 s := by
  have hl := weaken_l c b
  have hw := weaks_weaken c b
  have hfd : (c.weaken b).1.down = c.down := by unfold Chip.weaken; split <;> rfl
  obtain ⟨es, hlog⟩ := hi.body.log
  refine ⟨hi.wf.weaken_ b, by rw [hfd]; exact hi.up, hi.head.same (hl 0).1 (hl 1).1, ⟨hi.body.fault, tabsAt_keep hi.body.tabs fun x _ => (hl _).1, ⟨es, ?_, hlog.mem, ?_, hlog.ok⟩, by omega, hi.body.nwl, hi.body.odl, hi.body.old, hi.body.rows, hi.body.trows⟩⟩
  · rw [(hl _).1]; exact hlog.read
  · rw [(hl _).1]; exact hlog.few
theorem Inv.pend {c : Chip} {s : SM} (hi : Inv c s) : c.pend = none := by
  have := hi.wf.down
  rw [hi.up] at this
  cases h : c.pend
  · rfl
  · rw [h] at this; cases this
theorem Inv.restart {c : Chip} {s : SM} (hi : Inv c s) (how : Int) : Inv (c.restart how) s :=
  hi.of_b (hi.wf.restart_ how) rfl fun i => by rw [restart_calm hi.pend]
theorem Inv.arm {c : Chip} {s : SM} (hi : Inv c s) {n : Int} (hn : n ≤ 9223372036854775807) : Inv (c.arm n) s :=
  hi.of_b (hi.wf.arm_ hn) hi.up fun i => rfl
/-- What an act leaves, behind which the chip is restarted. -/
theorem do_back {c : Chip} {s : SM} (h : Inv c s) (hep : s.m.ep + 9 ≤ 100000) (a : Act) (hw : weaks c + weakA a ≤ 6) (how : Int) :
    ∃ s', Inv ((doM c s a).1.restart how) s' ∧ ((doM c s a).2.2 = 0 → s'.rows = rowsA s.rows a) ∧ (s'.rows = s.rows ∨ s'.rows = rowsA s.rows a) ∧ s'.m.ep ≤ s.m.ep + 9 ∧ weaks ((doM c s a).1.restart how) ≤ weaks c + weakA a := by
  have hwr : ∀ c' : Chip, WkS c c' → weaks (c'.restart how) ≤ weaks c + weakA a := fun c' h => by rw [weaks_restart, weaks_same h]; omega
  unfold doM rowsA
  by_cases h1 : a.kind.toList = kWrite
  · rw [if_pos h1, if_pos h1]
    have hk := hwr _ (wk_writeM c s a.l)
    by_cases hc : checkM s a.l = 0
    · obtain ⟨c', s', n, e, f, g⟩ := write_store h hep hc
      rw [e] at hk ⊢
      have hr : rowsW s.rows a.l = liveE (a.l.foldl putE s.rows) := if_pos (by rw [← checkM_eq]; exact hc)
      rw [hr]
      rcases g with ⟨_, hi, hrw, _, he, _⟩ | ⟨h9, hf⟩
      · exact ⟨s', hi.restart how, fun _ => hrw, .inr hrw, by omega, hk⟩
      · obtain ⟨s2, h2, h3, h4⟩ := hf.back how
        exact ⟨s2, h2, fun h => by simp only at h; omega, h3, h4, hk⟩
    · have hr : rowsW s.rows a.l = s.rows := if_neg (by rw [← checkM_eq]; exact hc)
      have e : writeM c s a.l = (c, s, checkM s a.l) := if_pos hc
      rw [e] at hk ⊢
      rw [hr]
      exact ⟨s, h.restart how, fun _ => rfl, .inl rfl, by omega, hk⟩
  rw [if_neg h1, if_neg h1]
  by_cases h2 : a.kind.toList = kFlush
  · rw [if_pos h2]
    have hk := hwr _ (wk_flush c s)
    obtain ⟨c', s', n, e, f, g⟩ := flush_calm h (by omega)
    rw [e] at hk ⊢
    rcases g with ⟨_, hi, hrw, _, he, _⟩ | ⟨h9, hf⟩
    · exact ⟨s', hi.restart how, fun _ => hrw, .inl hrw, by omega, hk⟩
    · obtain ⟨s2, h2, h3, h4⟩ := hf.back how
      exact ⟨s2, h2, fun h => by simp only at h; omega, h3, by omega, hk⟩
  rw [if_neg h2]
  by_cases h3 : a.kind.toList = kCompact
  · rw [if_pos h3]
    have hk := hwr _ (wk_comp c s)
    obtain ⟨c', s', n, e, f, g⟩ := comp_calm h (by omega)
    rw [e] at hk ⊢
    rcases g with ⟨_, hi, hrw, he, _⟩ | ⟨h9, hf⟩
    · exact ⟨s', hi.restart how, fun _ => hrw, .inl hrw, by omega, hk⟩
    · obtain ⟨s2, h2, h3, h4⟩ := hf.back how
      exact ⟨s2, h2, fun h => by simp only at h; omega, h3, by omega, hk⟩
  rw [if_neg h3]
  by_cases h4 : a.kind.toList = kWeaken
  · have hwa : weakA a = 1 := by unfold weakA; rw [if_pos h4]
    rw [if_pos h4]
    refine ⟨s, (h.weaken (by omega) a.a).restart how, fun _ => rfl, .inl rfl, by omega, ?_⟩
    rw [weaks_restart, hwa]
    exact weaks_weaken c a.a
  · rw [if_neg h4]
    exact ⟨s, h.restart how, fun _ => rfl, .inl rfl, by omega, hwr _ (WkS.refl c)⟩
set_option maxRecDepth 20000 in
set_option maxHeartbeats 4000000 in
theorem dof_any (B q p : Nat) (c : Chip) (s : SM) (F : List Nat) (kd sx : ByteArray) (xa xb : Int) (v : Value) (l : List Ent) (w : World) (hst : StoreR B w q p s F) (hch : ChipR B w p c) (hin : Inv c s) (hl : Ents B w v l) (hep : s.m.ep + 9 ≤ 100000) :
    Calls Tryz.prog 13 #[.pointer (some ⟨p, 0, none⟩), .pointer (some ⟨q, 0, none⟩), .agg #[.string kd, .string sx, .int .i64 xa, .int .i64 xb, v]] w (SPost B q p F w (doM c s ⟨kd, sx, xa, xb, v, l⟩)) := by
  obtain ⟨A, cp, rfl, _, _, _⟩ := hl.form
  have hb0 : Below w.heap.size w (w.alloc (.cells #[.string kd, .string sx, .int .i64 xa, .int .i64 xb, .slice A l.length cp] 25)) := (Below.refl _ _).alloc (Nat.le_refl _) _
  have HF0 : Hid (Fr B (· ∈ q :: p :: F) w (w.alloc (.cells #[.string kd, .string sx, .int .i64 xa, .int .i64 xb, .slice A l.length cp] 25))) := Fr.of_below hb0
  have HSZ : Hid (w.heap.size ≤ (w.alloc (.cells #[.string kd, .string sx, .int .i64 xa, .int .i64 xb, .slice A l.length cp] 25)).heap.size) := hb0.size
  have h1s := hst.below hb0
  have h1c := hch.below hb0
  obtain ⟨c', s', n, e⟩ : ∃ c' s' n, doM c s ⟨kd, sx, xa, xb, .slice A l.length cp, l⟩ = (c', s', n) := ⟨_, _, _, rfl⟩
  rw [e]
  have FIN : Hid (∀ w' e', SPost B q p F (w.alloc (.cells #[.string kd, .string sx, .int .i64 xa, .int .i64 xb, .slice A l.length cp] 25)) (c', s', n) e' w' → SPost B q p F w (c', s', n) e' w') := by
    rintro w' e' ⟨h1, h2, ⟨F', h3, h4⟩, h5⟩
    exact ⟨h1, h2, ⟨F', h3, fun b hb => (h4 b hb).imp id (fun h => Nat.le_trans HSZ.out h)⟩, HF0.out.trans' h5 (fun _ _ h => h)⟩
  unfold doM at e
  simp only at e
  by_cases e1 : kd.toList = kWrite
  · rw [if_pos e1] at e
    have HW := write_any B q p c s F _ l (w.alloc (.cells #[.string kd, .string sx, .int .i64 xa, .int .i64 xb, .slice A l.length cp] 25)) h1s h1c hin (hl.below hb0) (by omega)
    rw [e] at HW
    have HW := Lib.hid HW
    have t1 := kind_eq e1
    unfold kWrite at t1
    clear hst hch hin h1s h1c hl hb0 e e1
    go_enter Tryz.func13, Tryz.ntmps13
    go_wp2_with fail
    refine HW.out.mono ?_
    rintro e w1 ⟨rfl, hr⟩
    have HR := Lib.hid (FIN.out w1 _ ⟨rfl, hr⟩)
    clear hr HW FIN
    go_wp2_with fail
    go_ret
    exact HR.out
  rw [if_neg e1] at e
  have t1 := kind_ne e1
  by_cases e2 : kd.toList = kFlush
  · rw [if_pos e2] at e
    have HW := flush_any B q p c s F (w.alloc (.cells #[.string kd, .string sx, .int .i64 xa, .int .i64 xb, .slice A l.length cp] 25)) h1s h1c hin (by omega)
    rw [e] at HW
    have HW := Lib.hid HW
    have t2 := kind_eq e2
    unfold kWrite at t1
    unfold kFlush at t2
    clear hst hch hin h1s h1c hl hb0 e e1 e2
    go_enter Tryz.func13, Tryz.ntmps13
    go_wp2_with fail
    refine HW.out.mono ?_
    rintro e w1 ⟨rfl, hr⟩
    have HR := Lib.hid (FIN.out w1 _ ⟨rfl, hr⟩)
    clear hr HW FIN
    go_wp2_with fail
    go_ret
    exact HR.out
  rw [if_neg e2] at e
  have t2 := kind_ne e2
  by_cases e3 : kd.toList = kCompact
  · rw [if_pos e3] at e
    have HW := compact_any B q p c s F (w.alloc (.cells #[.string kd, .string sx, .int .i64 xa, .int .i64 xb, .slice A l.length cp] 25)) h1s h1c hin
    rw [e] at HW
    have HW := Lib.hid HW
    have t3 := kind_eq e3
    unfold kWrite at t1
    unfold kFlush at t2
    unfold kCompact at t3
    clear hst hch hin h1s h1c hl hb0 e e1 e2 e3
    go_enter Tryz.func13, Tryz.ntmps13
    go_wp2_with fail
    refine HW.out.mono ?_
    rintro e w1 ⟨rfl, hr⟩
    have HR := Lib.hid (FIN.out w1 _ ⟨rfl, hr⟩)
    clear hr HW FIN
    go_wp2_with fail
    go_ret
    exact HR.out
  rw [if_neg e3] at e
  have t3 := kind_ne e3
  by_cases e4 : kd.toList = kWeaken
  · rw [if_pos e4] at e
    have t4 := kind_eq e4
    unfold kWrite at t1
    unfold kFlush at t2
    unfold kCompact at t3
    unfold kWeaken at t4
    have HWK := Lib.hid (weaken_any B p c xa (w.alloc (.cells #[.string kd, .string sx, .int .i64 xa, .int .i64 xb, .slice A l.length cp] 25)) h1c)
    have HS1 := Lib.hid (And.intro h1s h1c)
    injection e with e5 e6
    injection e6 with e6 e7
    subst e5; subst e6; subst e7
    clear hst hch hin h1s h1c hl hb0 e1 e2 e3 e4
    go_enter Tryz.func13, Tryz.ntmps13
    go_wp2_with fail
    refine HWK.out.mono ?_
    rintro e w1 ⟨rfl, hc1, hf1⟩
    have HR := Lib.hid (FIN.out w1 (.returned .nilIface) ⟨rfl, hc1, ⟨F, HS1.out.1.chip HS1.out.2 hf1, fun b hb => .inl hb⟩, hf1.mono (fun b _ e => by subst e; simp)⟩)
    clear hc1 hf1 HWK FIN
    go_wp2_with fail
    go_ret
    exact HR.out
  · rw [if_neg e4] at e
    have t4 := kind_ne e4
    unfold kWrite at t1
    unfold kFlush at t2
    unfold kCompact at t3
    unfold kWeaken at t4
    have HS1 := Lib.hid (And.intro h1s h1c)
    injection e with e5 e6
    injection e6 with e6 e7
    subst e5; subst e6; subst e7
    have HR := Lib.hid (FIN.out (w.alloc (.cells #[.string kd, .string sx, .int .i64 xa, .int .i64 xb, .slice A l.length cp] 25)) (.returned .nilIface) ⟨rfl, HS1.out.2, ⟨F, HS1.out.1, fun b hb => .inl hb⟩, Fr.refl _ _ _⟩)
    clear hst hch hin h1s h1c hl hb0 e1 e2 e3 e4 FIN HS1
    go_enter Tryz.func13, Tryz.ntmps13
    go_wp2_with fail
    go_ret
    exact HR.out
set_option maxRecDepth 20000 in
theorem rowsI_any (B q p : Nat) (c : Chip) (s : SM) (F : List Nat) (w : World) (h1 : StoreR B w q p s F) (h2 : ChipR B w p c) (h3 : Inv c s) :
    Calls Tryz.prog 10 #[.pointer (some ⟨q, 0, none⟩)] w fun e w' => ∃ v, e = .returned v ∧ Ents B w' v s.rows ∧ Below w.heap.size w w' := by
  have HR := Lib.hid (srows_any B q p c s F w h1 h2 h3)
  clear h1 h2 h3
  go_enter Tryz.func10, Tryz.ntmps10
  go_wp2_with fail
  refine HR.out.mono ?_
  rintro e w1 ⟨v, rfl, hv, hb⟩
  have HV := Lib.hid (And.intro hv hb)
  clear hv hb HR
  go_wp2_with fail
  go_ret
  exact ⟨v, rfl, HV.out⟩
theorem act_lit (B : Nat) (w : World) (x : Act) (he : Ents B w x.v x.l) (ho : ActOk x) : ActsR B (w.alloc (.cells #[.string x.kind, .string x.s, .int .i64 x.a, .int .i64 x.b, x.v] 25)) (.slice (some ⟨w.heap.size, 0, none⟩) 1 1) [x] := by
  have hb := Blk.new w 25 #[.string x.kind, .string x.s, .int .i64 x.a, .int .i64 x.b, x.v]
  refine ⟨⟨rfl, _, _, rfl, Nat.le_refl _, by simp, fun _ => ⟨_, _, rfl, .inr ⟨_, _, hb⟩, hb.lt, fun j u hu => ?_⟩⟩, fun y hy => ?_⟩
  · rw [hb.cell]
    have e : [x].flatMap Act.cells = [.string x.kind, .string x.s, .int .i64 x.a, .int .i64 x.b, x.v] := rfl
    rw [e] at hu
    simpa using hu
  · rw [List.mem_singleton] at hy
    subst hy
    exact ⟨he.below ((Below.refl _ _).alloc (Nat.le_refl _) _), ho⟩
end Go.Proofs.YtaepdbkfaoiimacGreat
