/- SurveySays returns true at every input, and leaves it as it was. Conditions: none. -/
import Derived.Test.YtaepdbkfaoiimaaSurv
import Derived.Deep.WholeRow
set_option linter.unusedVariables false
set_option linter.unusedSimpArgs false
namespace Go.Proofs.Ytaepdbkfaoiimaa
open Go.ChangeShapes Go.WideShapes Go.ChangeAt Go.RowKit Go.WideMaps Go.WideElems
open Go.ChangeMaps (open_string shut_string)
attribute [local go_sem ↓] eql_err eql_nilerr neq_err neq_nilerr guard_err guard_nilerr guardn_err guardn_nilerr
def arr6 (f : Nat → Int) : Array Value := ((List.range 6).map fun b => Value.int .i64 (f b)).toArray
theorem arr6_size (f : Nat → Int) : (arr6 f).size = 6 := by simp [arr6]
theorem arr6_get (f : Nat → Int) {n : Nat} (h : n < 6) : (arr6 f)[n]? = some (.int .i64 (f n)) := by simp [arr6, h]
theorem arr6_set (f : Nat → Int) (n : Nat) (x : Int) : (arr6 f).setIfInBounds n (.int .i64 x) = arr6 (fun i => if i = n then x else f i) := by
  apply Array.ext_getElem?
  intro i
  rw [Array.getElem?_setIfInBounds]
  by_cases h : n = i
  · subst h
    by_cases hn : n < 6
    · rw [if_pos rfl, if_pos (by rw [arr6_size]; exact hn), arr6_get _ hn, if_pos rfl]
    · rw [if_pos rfl, if_neg (by rw [arr6_size]; exact hn)]
      simp [arr6, hn]
  · rw [if_neg h]
    by_cases hi : i < 6
    · rw [arr6_get _ hi, arr6_get _ hi, if_neg (Ne.symm h)]
    · simp [arr6, hi]
theorem arr6_congr {f g : Nat → Int} (h : ∀ n, n < 6 → f n = g n) : arr6 f = arr6 g := by
  unfold arr6
  congr 1
  refine List.map_congr_left fun n hn => ?_
  rw [h n (List.mem_range.1 hn)]
theorem arr6_zero : arr6 (fun _ => 0) = #[.int .i64 0, .int .i64 0, .int .i64 0, .int .i64 0, .int .i64 0, .int .i64 0] := rfl
theorem one_calm {k j : Nat} {c : Chip} {s : SM} (h : Good k j c s) : ∃ i, i < 22 ∧ (c.b (i + 2)).bad = false := by
  refine Classical.byContradiction fun hn => ?_
  have hb : ∀ i, i < 22 → (c.b (i + 2)).weak = true := fun i hi => by
    cases e : (c.b (i + 2)).bad
    · exact absurd ⟨i, hi, e⟩ hn
    · exact h.inv.wf.bad _ e
  have hw := h.inv.body.weak
  unfold weaks at hw
  rw [range24_two, List.countP_cons, List.countP_cons] at hw
  have : (List.range' 2 22).countP (fun i => (c.b i).weak) = (List.range' 2 22).length := List.countP_eq_length.2 fun i hi => by
    obtain ⟨h1, h2⟩ := List.mem_range'_1.1 hi
    have := hb (i - 2) (by omega)
    rw [show i - 2 + 2 = i by omega] at this
    exact this
  rw [this, List.length_range'] at hw
  omega
def arrL (f : Nat → Int) : List Value := (List.range 24).map fun b => Value.int .i64 (f b)
theorem arrL_len (f : Nat → Int) : (arrL f).length = 24 := by simp [arrL]
theorem arrL_at {f : Nat → Int} {W : World} {g : Nat} (h : Blk W g 82 (arr24 f)) : W.rangeAt g 0 (arrL f) := by
  intro j v hj
  rw [Nat.zero_add, h.cell]
  show (arrL f).toArray[j]? = some v
  simpa using hj
/-- How many blocks of each kind have been seen. -/
structure LR (g11 : Nat) (w0 : World) (f : Nat → Int) (n : Nat) (wr : World) : Prop where
  bel : Below g11 w0 wr
  a : Blk wr g11 127 (arr6 fun x => (countK f x n : Nat))
theorem LR.step {g11 : Nat} {w0 : World} {f : Nat → Int} {n : Nat} {wr : World} (h : LR g11 w0 f n wr) {k : Nat} (hk : f n = (k : Int)) : LR g11 w0 f (n + 1) (wr.setCell ⟨g11, k, none⟩ (.int .i64 ((countK f k n : Nat) + 1))) := by
  refine ⟨h.bel.setCell (Nat.le_refl _) _, ?_⟩
  have := h.a.set_ k (.int .i64 ((countK f k n : Nat) + 1))
  rw [arr6_set] at this
  rw [arr6_congr (g := fun i => if i = k then ((countK f k n : Nat) : Int) + 1 else (countK f i n : Nat))]
  · exact this
  · intro b hb
    rw [countK_succ, hk]
    by_cases e : b = k
    · subst e; simp
    · rw [if_neg e, if_neg (by rw [beq_iff_eq]; omega), Nat.add_zero]
theorem cont_take {l : List Int} {k : Nat} {x y : Int} (h : l.take (k + 1) = l.take k ++ [y]) : (l.take (k + 1)).contains x = ((l.take k).contains x || (y == x)) := by
  rw [h]
  cases hc : (l.take k).contains x
  · have : ¬ x ∈ l.take k := fun hm => by rw [List.contains_iff_mem.2 hm] at hc; cases hc
    by_cases e : y = x
    · subst e; simp
    · have e' : (y == x) = false := beq_eq_false_iff_ne.2 e
      rw [e', Bool.or_false]
      cases h2 : (List.take k l ++ [y]).contains x
      · rfl
      · have := List.contains_iff_mem.1 h2
        rcases List.mem_append.1 this with h3 | h3
        · exact absurd h3 ‹¬ x ∈ l.take k›
        · simp at h3; exact absurd h3.symm e
  · have := List.contains_iff_mem.1 hc
    rw [Bool.true_or]
    exact List.contains_iff_mem.2 (List.mem_append.2 (.inl this))
section
variable {B q p g k j : Nat} {w : World} {c : Chip} {s : SM} {F : List Nat} {cs : Array Value}
theorem blk_row (hg : Blk w g 82 cs) {g' : Nat} {T : TypeId} {cs' : Array Value} (h : Blk w g' T cs') (hT : T ≠ 82) (x : Array Value) : Blk (w.setRow g x) g' T cs' := by
  refine (setRow_other _ _ _ _ (fun e => ?_)).trans h
  subst e
  unfold Blk at h hg
  rw [h] at hg
  injection hg with hg
  injection hg with _ e
  exact hT e
theorem rd_row {T sz n : Nat} {v : Value} {xs : List Value} (h : Rd B T sz w v n xs) (hg : Blk w g 82 cs) (hB : B ≤ g) (hT : 82 ≠ T) (x : Array Value) : Rd B T sz (w.setRow g x) v n xs := by
  refine h.keep fun k hk hlt => setRow_other _ _ _ _ fun e => ?_
  subst e
  rcases hk with hk | ⟨cs', fz', hk⟩
  · omega
  · unfold Blk at hg
    rw [hg] at hk
    injection hk with hk
    injection hk with _ e
    exact hT e
theorem UndoR.row {u : Value} (hg : Blk w g 82 cs) (x : Array Value) : ∀ {d : Option Pend}, UndoR w p c u d → UndoR (w.setRow g x) p c u d
  | none, h => h
  | some (.wr b d), ⟨qh, qd, bx, bn, bd, e, h2, h3, h4, h5, h6⟩ => ⟨qh, qd, bx, bn, bd, e, blk_row hg h2 (by decide) x, blk_row hg h3 (by decide) x, blk_row hg h4 (by decide) x, blk_row hg h5 (by decide) x, blk_row hg h6 (by decide) x⟩
  | some (.er b), ⟨qh, qd, bx, e, h2, h3, h4⟩ => ⟨qh, qd, bx, e, blk_row hg h2 (by decide) x, blk_row hg h3 (by decide) x, blk_row hg h4 (by decide) x⟩
theorem ChipR.row (h : ChipR B w p c) (hg : Blk w g 82 cs) (hB : B ≤ g) (x : Array Value) : ChipR B (w.setRow g x) p c := by
  obtain ⟨V, u, hv, hu, hwf⟩ := h
  exact ⟨V, u, ⟨blk_row hg hv.blk (by decide) x, fun b hb => rd_row (hv.rows b hb) hg hB (by decide) x, hv.base⟩, UndoR.row hg x hu, hwf⟩
theorem Tower.row {t : Nat} {l : List Ent} (h : Tower B w t l F) (hg : Blk w g 82 cs) (x : Array Value) : Tower B (w.setRow g x) t l F := by
  obtain ⟨ns, N, h1, h2, h3, h4, h5, h6⟩ := h
  exact ⟨ns, N, ⟨blk_row hg h1.head (by decide) x, fun nd hnd => blk_row hg (h1.node nd hnd) (by decide) x⟩, h2, h3, h4, h5, h6⟩
theorem StoreR.row (h : StoreR B w q p s F) (hg : Blk w g 82 cs) (hB : B ≤ g) (x : Array Value) : StoreR B (w.setRow g x) q p s F := by
  obtain ⟨A1, c1, A2, c2, t, n, h1, h2, h3, h4, h5, h6⟩ := h
  exact ⟨A1, c1, A2, c2, t, n, blk_row hg h1 (by decide) x, rd_row h2 hg hB (by decide) x, rd_row h3 hg hB (by decide) x, h4.row hg x, h5, h6⟩
theorem StS.row (h : StS B w q p k j c s F) (hg : Blk w g 82 cs) (hB : B ≤ g) (x : Array Value) : StS B (w.setRow g x) q p k j c s F := ⟨h.st.row hg hB x, h.ch.row hg hB x, h.ok⟩
theorem below_row {w0 : World} (h : Below B w0 w) (hB : B ≤ g) (x : Array Value) : Below B w0 (w.setRow g x) :=
  ⟨h.os, h.tape, h.output, by rw [setRow_size]; exact h.size, fun k hk => (setRow_other _ _ _ _ (by omega)).trans (h.block k hk)⟩
end
/-- An array of kinds lies in a block; the rest is as it was. -/
structure CR (B g : Nat) (w0 : World) (cs : Array Value) (W : World) : Prop where
  blk : Blk W g 82 cs
  bel : Below B w0 W
  lt : B ≤ W.heap.size
theorem countR {B g : Nat} {w0 : World} {f : Nat → Int} {W : World} (h : CR B g w0 (arr24 f) W) (hg : g < W.heap.size) (x : Int) :
    Calls Try.prog 79 #[.agg (arr24 f), .int .i64 x] W fun e w' => e = .returned (.int .i64 (countK f x 24 : Nat)) ∧ CR B g w0 (arr24 f) w' :=
  (count_any f x W).mono fun e w' ⟨h1, h2⟩ => ⟨h1, h.blk.below h2 hg, h.bel.trans (h2.mono h.lt), Nat.le_trans h.lt h2.size⟩
theorem weak_take {l : List Act} {n : Nat} {x : Act} (h : l.take (n + 1) = l.take n ++ [x]) : weakN (l.take (n + 1)) = weakN (l.take n) + weakA x := by
  rw [h]; simp [weakN]
theorem weak_le {l : List Act} (n : Nat) : weakN (l.take n) ≤ weakN l := by
  conv => rhs; rw [← List.take_append_drop n l]
  unfold weakN; rw [List.map_append, List.sum_append]; omega
set_option maxRecDepth 20000 in
set_option maxHeartbeats 8000000 in
theorem surveySays_walk (va : Value) (l : List Act) (w : World) (ha : ActsR w.heap.size w va l) :
    Calls Try.prog 11 #[va] w fun e w' => e = .returned (.bool true) ∧ Below w.heap.size w w' := by
  have HST := Lib.hid (stored_any w)
  have HLA := Lib.hid (fun W (hW : Below w.heap.size w W) => lightActs_any w.heap.size va l 60 W (acts_below ha hW))
  have HWK := Lib.hid (fun W (hW : Below w.heap.size w W) => weak_any w.heap.size va l W (acts_below ha hW))
  obtain ⟨A, cp, rfl, hc1, hc2, hcell⟩ := ha.form
  have HC := Lib.hid hcell
  have HEN := Lib.hid (fun x hx => (ha.2 x hx).1)
  clear hcell ha
  go_enter Try.func11, Try.ntmps11
  go_wp2_with (go_at_call 68; refine HST.out.mono ?_; rintro e w3 ⟨p, q, c, s, F, rfl, hst, hrw, hpw, hFw, hb3⟩)
  have HOF := Lib.hid (sof_any hst)
  obtain ⟨k1, k2, _⟩ := kind_counts (c := c) hst.ok.inv.body.fault
  have HK := Lib.hid (And.intro k1 k2)
  have HS3 := Lib.hid hst
  have HB3 := Lib.hid hb3
  clear hst hrw hFw hb3 HST k1 k2
  refine HOF.out.mono ?_
  rintro e w4 ⟨rfl, hb4⟩
  have hb5 : Below w4.heap.size w4 (w4.alloc (.cells (arr24 (kindM c s.m)) 82)) := (Below.refl _ _).alloc (Nat.le_refl _) _
  have HB4 : Hid (Below w.heap.size w w4) := HB3.out.trans (hb4.mono HB3.out.size)
  have HB5 : Hid (Below w.heap.size w (w4.alloc (.cells (arr24 (kindM c s.m)) 82))) := HB4.out.trans (hb5.mono HB4.out.size)
  have HS5 : Hid (StS w.heap.size (w4.alloc (.cells (arr24 (kindM c s.m)) 82)) q p 0 0 c s F) := (HS3.out.below hb4).below hb5
  have hsz := arr24_size (kindM c s.m)
  have ho := arr24_one (kindM c s.m)
  have hR5 : CR (w4.alloc (.cells (arr24 (kindM c s.m)) 82)).heap.size w4.heap.size (w4.alloc (.cells (arr24 (kindM c s.m)) 82)) (arr24 (kindM c s.m)) (w4.alloc (.cells (arr24 (kindM c s.m)) 82)) := ⟨Blk.new _ _ _, Below.refl _ _, Nat.le_refl _⟩
  have HCO : Hid (∀ x W, CR (w4.alloc (.cells (arr24 (kindM c s.m)) 82)).heap.size w4.heap.size (w4.alloc (.cells (arr24 (kindM c s.m)) 82)) (arr24 (kindM c s.m)) W → Calls Try.prog 79 #[.agg (arr24 (kindM c s.m)), .int .i64 x] W fun e w' => e = .returned (.int .i64 (countK (kindM c s.m) x 24 : Nat)) ∧ CR (w4.alloc (.cells (arr24 (kindM c s.m)) 82)).heap.size w4.heap.size (w4.alloc (.cells (arr24 (kindM c s.m)) 82)) (arr24 (kindM c s.m)) w') := fun x W h => countR h h.blk.lt x
  have HBB : Hid (w.heap.size ≤ w4.heap.size) := HB4.out.size
  clear hb4 hb5 HOF HS3 HB3
  generalize arr24 (kindM c s.m) = cs at *
  have hi6 : (Try.prog.info? 82).map (·.size) = some cs.size := by rw [hsz]; kernel_rfl
  have hg6 := hR5.blk
  have HS5X : Hid (∀ W, Below (w4.alloc (.cells cs 82)).heap.size (w4.alloc (.cells cs 82)) W → StS w.heap.size W q p 0 0 c s F ∧ Below w.heap.size w W) := fun W hW => ⟨HS5.out.below hW, HB5.out.trans (hW.mono HB5.out.size)⟩
  clear HS5 HB5
  generalize hw5 : (w4.alloc (.cells cs 82)).heap.size = n5 at *
  go_wp2_with (first
    | (refine wpList_store_row rfl 82 _ _ rfl w4.heap.size cs rfl rfl 82 _ (heap_alloc_new _ _) (by rw [hsz]; kernel_rfl) (by rw [hsz]; rfl) ho ?_; rw [World.setRow_alloc_new])
    | (refine wpList_load_row rfl 82 _ rfl w4.heap.size rfl 82 cs (0, 0) _ hg6 Try.underlying82 rfl hi6 ?_)
    | (refine BigFrame.wpList_want (by simp [Region.wanted, yielded]) (fun K hK => wp_load_row 82 (.tmp 6) rfl w4.heap.size rfl 82 cs (0, 0) _ hg6 Try.underlying82 rfl hi6 (hK _ _ ?_)))
    | (go_at_call 79; refine (HCO.out _ _ (by assumption)).mono ?_; rintro e w6 ⟨rfl, hR6⟩; have hg6 := hR6.blk; first | rw [HK.out.1] | rw [HK.out.2]))
  obtain ⟨hs6, hb6⟩ := HS5X.out w6 hR6.bel
  have HS6 := Lib.hid hs6
  have HB6 := Lib.hid hb6
  have HG6 := Lib.hid hR6.blk
  have HSC := Lib.hid hsz
  clear hs6 hb6 hg6 hR6 hR5 HCO HS5X hw5 hi6 hsz ho HK
  generalize w4.heap.size = g at *
  clear HB4
  have HLA6 := Lib.hid (HLA.out w6 HB6.out)
  have HWK6 := Lib.hid (HWK.out w6 HB6.out)
  clear HLA HWK
  cases hla : lightA 60 l
  · rw [hla] at HLA6
    clear hla
    go_wp2_with (go_at_call 42; refine HLA6.out.mono ?_; rintro e w7 ⟨rfl, rfl⟩)
    go_ret
    exact ⟨rfl, HB6.out⟩
  rw [hla] at HLA6
  have hl60 : l.length ≤ 60 := by
    simp [lightA] at hla
    omega
  clear hla
  by_cases hw : weakN l ≤ 6
  case neg =>
    have t52 : decide ((6 : Int) < (weakN l : Int)) = true := decide_eq_true (by omega)
    have t53 : 6 < weakN l := by omega
    clear hw
    go_wp2_with (first
      | (go_at_call 42; refine HLA6.out.mono ?_; rintro e w7 ⟨rfl, rfl⟩)
      | (go_at_call 71; refine HWK6.out.mono ?_; rintro e w7 ⟨rfl, rfl⟩))
    go_ret
    exact ⟨rfl, HB6.out⟩
  have t52 : decide ((6 : Int) < (weakN l : Int)) = false := decide_eq_false (by omega)
  have t53 : ¬ 6 < weakN l := by omega
  go_wp2_with (first
    | (go_at_call 42; refine HLA6.out.mono ?_; rintro e w7 ⟨rfl, rfl⟩)
    | (go_at_call 71; refine HWK6.out.mono ?_; rintro e w7 ⟨rfl, rfl⟩))
  clear HLA6 HWK6 t52 t53
  go_loopw [7] (fun i wr => ∃ (k : Nat) (c : Chip) (s : SM) (F : List Nat), i = .int .i64 (k : Int) ∧ k ≤ l.length ∧ Hid (StS w.heap.size wr q p k (weakN (l.take k)) c s F) ∧ Hid (Blk wr g 82 cs) ∧ Hid (Below w.heap.size w wr)) (fun i _ => l.length - (intOf i).toNat)
  case atStart => exact ⟨0, c, s, F, rfl, Nat.zero_le _, HS6.out, HG6.out, HB6.out⟩
  case round =>
    clear HS6 HG6 HB6
    obtain ⟨k, c, s, F, rfl, hk, hst, hgk, hbl⟩ := hrel
    by_cases hlt : k < l.length
    · obtain ⟨x, hx, htk, _⟩ := getElem?_of_lt hlt
      obtain ⟨b, o, rfl, hb, e0, e1, e2, e3, e4⟩ := HC.out k x hx
      have hwt := weak_take htk
      have hwl := weak_le (l := l) (k + 1)
      have hen := (HEN.out x (List.mem_of_getElem? hx)).below hbl.out
      obtain ⟨kd, sx, xa, xb, vx, lx⟩ := x
      simp only at e0 e1 e2 e3 e4 hen
      obtain ⟨A', cp', rfl, _, _, _⟩ := hen.form
      have d0 := (hbl.out.cell (p := ⟨b, o + k * 5, none⟩) hb).trans e0
      have d2 := (hbl.out.cell (p := ⟨b, o + k * 5 + 2, none⟩) hb).trans e2
      have d4 := (hbl.out.cell (p := ⟨b, o + k * 5 + 4, none⟩) hb).trans e4
      have g1 : (0 : Int) ≤ (k : Int) := by omega
      have g2 : (k : Int) < (l.length : Int) := by omega
      have HE := Lib.hid hen
      clear hx htk e0 e1 e2 e3 e4 hen
      by_cases k1 : kd.toList = kWrite
      · have t1 := kind_eq k1
        unfold kWrite at t1
        have hwa : weakA ⟨kd, sx, xa, xb, .slice A' lx.length cp', lx⟩ = 0 := if_neg (by rw [show (⟨kd, sx, xa, xb, .slice A' lx.length cp', lx⟩ : Act).kind.toList = kWrite from k1]; decide)
        rw [hwa, Nat.add_zero] at hwt
        have HW := Lib.hid (write_st hst.out (by omega) HE.out)
        clear k1 hwa
        go_wp2_with fail
        refine HW.out.mono ?_
        intro e w8 hd
        obtain ⟨c8, s8, F8, rfl, hs8, hr8, hF8, hf8⟩ := hd
        have HNX : Hid (StS w.heap.size w8 q p (k + 1) (weakN (l.take (k + 1))) c8 s8 F8 ∧ Blk w8 g 82 cs ∧ Below w.heap.size w w8) :=
          ⟨by rw [hwt]; exact hs8, Blk.fr hgk.out hf8 (.inr (.inr (by decide))), hbl.out.trans (hf8.below hbl.out.size)⟩
        clear hs8 hr8 hF8 hf8 HW d0 d2 d4
        go_wp2_with fail
        go_roundw
        case rel => exact ⟨k + 1, c8, s8, F8, by go_num, by omega, HNX.out⟩
        case measure => simp [intOf] <;> omega
      have t1 := kind_ne k1
      by_cases k2 : kd.toList = kFlush
      · have t2 := kind_eq k2
        unfold kWrite at t1
        unfold kFlush at t2
        have hwa : weakA ⟨kd, sx, xa, xb, .slice A' lx.length cp', lx⟩ = 0 := if_neg (by rw [show (⟨kd, sx, xa, xb, .slice A' lx.length cp', lx⟩ : Act).kind.toList = kFlush from k2]; decide)
        rw [hwa, Nat.add_zero] at hwt
        have HW := Lib.hid (flush_st hst.out (by omega))
        clear k1 k2 hwa
        go_wp2_with fail
        refine HW.out.mono ?_
        rintro e w8 ⟨c8, s8, F8, rfl, hs8, hr8, hF8, hf8, _⟩
        have HNX : Hid (StS w.heap.size w8 q p (k + 1) (weakN (l.take (k + 1))) c8 s8 F8 ∧ Blk w8 g 82 cs ∧ Below w.heap.size w w8) :=
          ⟨by rw [hwt]; exact hs8, Blk.fr hgk.out hf8 (.inr (.inr (by decide))), hbl.out.trans (hf8.below hbl.out.size)⟩
        clear hs8 hr8 hF8 hf8 HW d0 d2 d4
        go_wp2_with fail
        go_roundw
        case rel => exact ⟨k + 1, c8, s8, F8, by go_num, by omega, HNX.out⟩
        case measure => simp [intOf] <;> omega
      have t2 := kind_ne k2
      by_cases k3 : kd.toList = kCompact
      · have t3 := kind_eq k3
        unfold kWrite at t1
        unfold kFlush at t2
        unfold kCompact at t3
        have hwa : weakA ⟨kd, sx, xa, xb, .slice A' lx.length cp', lx⟩ = 0 := if_neg (by rw [show (⟨kd, sx, xa, xb, .slice A' lx.length cp', lx⟩ : Act).kind.toList = kCompact from k3]; decide)
        rw [hwa, Nat.add_zero] at hwt
        have HW := Lib.hid (comp_st hst.out (by omega))
        clear k1 k2 k3 hwa
        go_wp2_with fail
        refine HW.out.mono ?_
        rintro e w8 ⟨c8, s8, F8, rfl, hs8, hr8, hF8, hf8, _⟩
        have HNX : Hid (StS w.heap.size w8 q p (k + 1) (weakN (l.take (k + 1))) c8 s8 F8 ∧ Blk w8 g 82 cs ∧ Below w.heap.size w w8) :=
          ⟨by rw [hwt]; exact hs8, Blk.fr hgk.out hf8 (.inr (.inr (by decide))), hbl.out.trans (hf8.below hbl.out.size)⟩
        clear hs8 hr8 hF8 hf8 HW d0 d2 d4
        go_wp2_with fail
        go_roundw
        case rel => exact ⟨k + 1, c8, s8, F8, by go_num, by omega, HNX.out⟩
        case measure => simp [intOf] <;> omega
      have t3 := kind_ne k3
      by_cases k4 : kd.toList = kWeaken
      · have t4 := kind_eq k4
        unfold kWrite at t1
        unfold kFlush at t2
        unfold kCompact at t3
        unfold kWeaken at t4
        have hwa : weakA ⟨kd, sx, xa, xb, .slice A' lx.length cp', lx⟩ = 1 := if_pos k4
        rw [hwa] at hwt
        have HW := Lib.hid (weaken_st hst.out (by omega) xa)
        clear k1 k2 k3 k4 hwa
        go_wp2_with fail
        refine HW.out.mono ?_
        rintro e w8 ⟨rfl, hs8, hf8⟩
        obtain ⟨c8, hc8⟩ : ∃ c8, c8 = (c.weaken xa).1 := ⟨_, rfl⟩
        obtain ⟨s8, hs8e⟩ : ∃ s8, s = s8 := ⟨_, rfl⟩
        obtain ⟨F8, hF8e⟩ : ∃ F8, F = F8 := ⟨_, rfl⟩
        rw [← hc8] at hs8
        rw [hs8e, hF8e] at hs8
        have HNX : Hid (StS w.heap.size w8 q p (k + 1) (weakN (l.take (k + 1))) c8 s8 F8 ∧ Blk w8 g 82 cs ∧ Below w.heap.size w w8) :=
          ⟨by rw [hwt]; exact hs8, Blk.fr hgk.out hf8 (.inr (.inr (by decide))), hbl.out.trans (hf8.below hbl.out.size)⟩
        clear hs8 hf8 HW d0 d2 d4 hc8 hs8e hF8e
        go_wp2_with fail
        go_roundw
        case rel => exact ⟨k + 1, c8, s8, F8, by go_num, by omega, HNX.out⟩
        case measure => simp [intOf] <;> omega
      have t4 := kind_ne k4
      have hwa : weakA ⟨kd, sx, xa, xb, .slice A' lx.length cp', lx⟩ = 0 := if_neg k4
      rw [hwa, Nat.add_zero] at hwt
      unfold kWrite at t1
      unfold kFlush at t2
      unfold kCompact at t3
      unfold kWeaken at t4
      have HNX : Hid (StS w.heap.size wr q p (k + 1) (weakN (l.take (k + 1))) c s F) := by rw [hwt]; exact hst.out.mono (by omega) (Nat.le_refl _)
      clear k1 k2 k3 k4 hwa d2 d4
      go_wp2_with fail
      go_roundw
      case rel => exact ⟨k + 1, c, s, F, by go_num, by omega, HNX.out, hgk.out, hbl.out⟩
      case measure => simp [intOf] <;> omega
    · obtain rfl : k = l.length := by omega
      have t48 : decide ((l.length : Int) < (l.length : Int)) = false := by simp
      clear HC HEN
      have HOF := Lib.hid (sof_any hst.out)
      have hsz := arr24_size (kindM c s.m)
      have ho := arr24_one (kindM c s.m)
      have HFA := Lib.hid hst.out.ok.inv.body.fault
      have HWE := Lib.hid (fun n : Nat => hst.out.ok.wear n)
      have HSE := Lib.hid (spread_end (c := c) (X := 1 + 12 * (l.length : Int)) (by omega) hst.out.ok.wear (one_calm hst.out.ok))
      have hnl := hst.out.ok.inv.body.nwl
      have hol := hst.out.ok.inv.body.odl
      go_wp2_with fail
      refine HOF.out.mono ?_
      rintro e w8 ⟨rfl, hb8⟩
      have hg8 := hgk.out.below hb8 hgk.out.lt
      have hb08 := hbl.out.trans (hb8.mono hbl.out.size)
      have HS9 : Hid (StS w.heap.size (w8.setRow g (arr24 (kindM c s.m))) q p l.length (weakN (l.take l.length)) c s F) := (hst.out.below hb8).row hg8 HBB.out _
      have HB9 : Hid (Below w.heap.size w (w8.setRow g (arr24 (kindM c s.m)))) := below_row hb08 HBB.out _
      have HG9 : Hid (Blk (w8.setRow g (arr24 (kindM c s.m))) g 82 (arr24 (kindM c s.m))) := setRow_heap _ _ _ _ _ _ hg8
      have HMA := Lib.hid (sman_st HS9.out)
      have hsc := HSC.out
      clear hb8 hb08 HOF hst hgk hbl
      go_wp2_with (refine wpList_store_row rfl 82 _ _ rfl g (arr24 (kindM c s.m)) rfl rfl 82 cs hg8 (by rw [hsz]; kernel_rfl) (by rw [hsz, hsc]) ho ?_)
      clear hg8
      generalize (w8.setRow g (arr24 (kindM c s.m))) = w9 at *
      refine HMA.out.mono ?_
      rintro e w10 ⟨A3, c3, A4, c4, rfl, hn10, ho10, hs10, hb10⟩
      have hb11 : Below w10.heap.size w10 (w10.alloc (.cells #[.int .i64 s.m.ep, .int .i64 s.m.log, .slice A3 s.m.nw.length c3, .slice A4 s.m.od.length c4] 91)) := (Below.refl _ _).alloc (Nat.le_refl _) _
      have HS11 := Lib.hid (hs10.below hb11)
      have HG11 : Hid (Blk (w10.alloc (.cells #[.int .i64 s.m.ep, .int .i64 s.m.log, .slice A3 s.m.nw.length c3, .slice A4 s.m.od.length c4] 91)) g 82 (arr24 (kindM c s.m))) := (HG9.out.below hb10 HG9.out.lt).alloc _
      have HM11 : Hid (Blk (w10.alloc (.cells #[.int .i64 s.m.ep, .int .i64 s.m.log, .slice A3 s.m.nw.length c3, .slice A4 s.m.od.length c4] 91)) w10.heap.size 91 #[.int .i64 s.m.ep, .int .i64 s.m.log, .slice A3 s.m.nw.length c3, .slice A4 s.m.od.length c4]) := Blk.new _ _ _
      have HN11 := Lib.hid (hn10.below hb11)
      have HO11 := Lib.hid (ho10.below hb11)
      have HB11 : Hid (Below w.heap.size w (w10.alloc (.cells #[.int .i64 s.m.ep, .int .i64 s.m.log, .slice A3 s.m.nw.length c3, .slice A4 s.m.od.length c4] 91))) := (HB9.out.trans (hb10.mono HB9.out.size)).trans (hb11.mono (HB9.out.trans (hb10.mono HB9.out.size)).size)
      have HR12 : Hid (LR (w10.alloc (.cells #[.int .i64 s.m.ep, .int .i64 s.m.log, .slice A3 s.m.nw.length c3, .slice A4 s.m.od.length c4] 91)).heap.size (w10.alloc (.cells #[.int .i64 s.m.ep, .int .i64 s.m.log, .slice A3 s.m.nw.length c3, .slice A4 s.m.od.length c4] 91)) (kindM c s.m) 0 ((w10.alloc (.cells #[.int .i64 s.m.ep, .int .i64 s.m.log, .slice A3 s.m.nw.length c3, .slice A4 s.m.od.length c4] 91)).alloc (.cells (arr6 fun _ => 0) 127))) := by
        refine ⟨(Below.refl _ _).alloc (Nat.le_refl _) _, ?_⟩
        rw [arr6_congr (g := fun _ => 0) (fun b _ => by simp [countK])]
        exact Blk.new _ _ _
      rw [arr6_zero] at HR12
      rw [World.size_alloc] at HR12
      clear hn10 ho10 hs10 hb10 hb11 HMA HS9 HB9 HG9 ho hsz hsc HSC
      go_wp2_with fail
      generalize ((w10.alloc (.cells #[.int .i64 s.m.ep, .int .i64 s.m.log, .slice A3 s.m.nw.length c3, .slice A4 s.m.od.length c4] 91)).alloc _) = w12 at *
      generalize hw11 : (w10.alloc (.cells #[.int .i64 s.m.ep, .int .i64 s.m.log, .slice A3 s.m.nw.length c3, .slice A4 s.m.od.length c4] 91)) = w11 at *
      have HZ11 : Hid (w11.heap.size = w10.heap.size + 1) := by rw [Hid, ← hw11, World.size_alloc]
      generalize hg8 : w10.heap.size = g8 at *
      clear hw11 hg8
      have HMC : Hid (∀ W, Below (g8 + 1) w11 W → W.cell? ⟨g8, 1, none⟩ = some (.int .i64 s.m.log) ∧ W.cell? ⟨g8, 2, none⟩ = some (.slice A3 s.m.nw.length c3) ∧ W.cell? ⟨g8, 3, none⟩ = some (.slice A4 s.m.od.length c4)) := fun W hW => by
        have h := HM11.out.below hW (Nat.lt_succ_self g8)
        exact ⟨h.cell 1, h.cell 2, h.cell 3⟩
      have HGK : Hid (∀ W, Below (g8 + 1) w11 W → Blk W g 82 (arr24 (kindM c s.m))) := fun W hW => HG11.out.below hW (by have := HG11.out.lt; have := HZ11.out; omega)
      have HCH : Hid (∀ W, Below (g8 + 1) w11 W → ChipR w.heap.size W p c) := fun W hW => HS11.out.ch.below (by rw [HZ11.out]; exact hW)
      have HNW : Hid (∀ W, Below (g8 + 1) w11 W → Ints w.heap.size W (.slice A3 s.m.nw.length c3) s.m.nw) := fun W hW => HN11.out.below (by rw [HZ11.out]; exact hW)
      have HOD : Hid (∀ W, Below (g8 + 1) w11 W → Ints w.heap.size W (.slice A4 s.m.od.length c4) s.m.od) := fun W hW => HO11.out.below (by rw [HZ11.out]; exact hW)
      have HBX : Hid (∀ W, Below (g8 + 1) w11 W → Below w.heap.size w W) := fun W hW => HB11.out.trans (hW.mono (by have := HB11.out.size; have := HZ11.out; omega))
      clear HM11 HG11 HS11 HN11 HO11 HB11 HZ11
      go_loopw [9, 10, 12] (fun a b i wr => ∃ n : Nat, n ≤ 24 ∧ i = .int .i64 (n : Int) ∧ a = .int .i64 (lawL c n).1 ∧ b = .int .i64 (lawL c n).2 ∧ Hid (LR (g8 + 1) w11 (kindM c s.m) n wr)) (fun _ _ i _ => (24 - intOf i).toNat)
      case atStart => exact ⟨0, by omega, rfl, rfl, rfl, HR12.out⟩
      case round =>
        clear HR12
        obtain ⟨n, hn, rfl, rfl, rfl, hr⟩ := hrel
        by_cases hlt : n < 24
        · have g1 : (n : Int) < 24 := by omega
          have g0 : (0 : Int) ≤ (n : Int) := by omega
          obtain ⟨m1, m2, m3⟩ := HMC.out wr hr.out.bel
          have HB1 := Lib.hid (bad_any w.heap.size p c (n : Int) wr (HCH.out wr hr.out.bel) (by omega) (by omega))
          have HW1 := Lib.hid (wear_any w.heap.size p c (n : Int) wr (HCH.out wr hr.out.bel) (by omega) (by omega))
          rw [Int.toNat_natCast] at HB1 HW1
          obtain ⟨_, _, e3, _, _, hc3⟩ := (HNW.out wr hr.out.bel).form
          cases e3
          obtain ⟨_, _, e4, _, _, hc4⟩ := (HOD.out wr hr.out.bel).form
          cases e4
          have HC3 := Lib.hid hc3
          have HC4 := Lib.hid hc4
          have yk := ((HGK.out wr hr.out.bel).cell n).trans (arr24_get _ hlt)
          have hkl := kindM_law (c := c) HFA.out n
          obtain ⟨hk0, hk6⟩ := kindM_rng c s.m n
          obtain ⟨kn, hkn⟩ := Int.eq_ofNat_of_zero_le hk0
          have hkn' : kindM c s.m n = (kn : Int) := hkn
          have HST := Lib.hid (hr.out.step hkn')
          have HB2 := Lib.hid (bad_any w.heap.size p c (n : Int) _ (HCH.out _ HST.out.bel) (by omega) (by omega))
          have HW2 := Lib.hid (wear_any w.heap.size p c (n : Int) _ (HCH.out _ HST.out.bel) (by omega) (by omega))
          rw [Int.toNat_natCast] at HB2 HW2
          have hkn6 : kn < 6 := by omega
          have yc := (hr.out.a.cell kn).trans (arr6_get _ hkn6)
          have yf := hr.out.a.frozen kn
          have hcl := countK_le (kindM c s.m) kn n
          rw [hkn'] at yk hkl
          have g6 : (0 : Int) ≤ (kn : Int) := by omega
          have g7 : (kn : Int) < 6 := by omega
          have hlw : lawL c (n + 1) = if 1 < n ∧ (c.b n).bad = false then (min (lawL c n).1 (c.b n).wear, max (lawL c n).2 (c.b n).wear) else lawL c n := rfl
          have HLW := Lib.hid hlw
          have HBL := Lib.hid hr.out.bel
          generalize countK (kindM c s.m) kn n = cn at *
          clear hc3 hc4 hr hk0 hk6 hkn hkn' hlw
          obtain ⟨w0, hw0, hcase⟩ : ∃ w0 : Int, (if n < 2 then (1 : Int) else if (n : Int) = s.m.log then 2 else if (c.b n).bad = true then 5 else 0) = w0 ∧ ((decide ((n : Int) < 2) = true ∧ w0 = 1) ∨ (decide ((n : Int) < 2) = false ∧ ((n : Int) == s.m.log) = true ∧ w0 = 2) ∨ (decide ((n : Int) < 2) = false ∧ ((n : Int) == s.m.log) = false ∧ (c.b n).bad = true ∧ w0 = 5) ∨ (decide ((n : Int) < 2) = false ∧ ((n : Int) == s.m.log) = false ∧ (c.b n).bad = false ∧ w0 = 0)) := by
            by_cases h1 : n < 2
            · exact ⟨1, if_pos h1, .inl ⟨decide_eq_true (by omega), rfl⟩⟩
            · have d1 : decide ((n : Int) < 2) = false := decide_eq_false (by omega)
              by_cases h2 : (n : Int) = s.m.log
              · exact ⟨2, by rw [if_neg h1, if_pos h2], .inr (.inl ⟨d1, beq_iff_eq.2 h2, rfl⟩)⟩
              · have d2 : ((n : Int) == s.m.log) = false := beq_eq_false_iff_ne.2 h2
                cases h3 : (c.b n).bad
                · exact ⟨0, by rw [if_neg h1, if_neg h2, if_neg (by simp)], .inr (.inr (.inr ⟨d1, d2, rfl, rfl⟩))⟩
                · exact ⟨5, by rw [if_neg h1, if_neg h2, if_pos rfl], .inr (.inr (.inl ⟨d1, d2, rfl, rfl⟩))⟩
          rw [hw0] at hkl
          have HKL := Lib.hid hkl
          clear hkl hw0
          rcases hcase with ⟨u1, rfl⟩ | ⟨u1, u2, rfl⟩ | ⟨u1, u2, u3, rfl⟩ | ⟨u1, u2, u3, rfl⟩
          · go_wp2_with (go_at_call 81; refine HB1.out.mono ?_; rintro e w5 ⟨rfl, rfl⟩)
            go_loop [13, 14] (fun wt i => ∃ k : Nat, i = .int .i64 (k : Int) ∧ k ≤ s.m.nw.length ∧ wt = .int .i64 (if (s.m.nw.take k).contains (n : Int) = true then 3 else 1)) (fun _ i => s.m.nw.length - (intOf i).toNat)
            case atStart => exact ⟨0, rfl, Nat.zero_le _, by simp⟩
            case round =>
              obtain ⟨k, rfl, hk, rfl⟩ := hrel
              by_cases hkl : k < s.m.nw.length
              · obtain ⟨y, hy, htk, _⟩ := getElem?_of_lt hkl
                obtain ⟨b3, o3, rfl, hb3', y3⟩ := HC3.out k y hy
                have i1 : (0 : Int) ≤ (k : Int) := by omega
                have i2 : (k : Int) < (s.m.nw.length : Int) := by omega
                have HCT := Lib.hid (cont_take (x := (n : Int)) htk)
                clear hy htk
                cases hyn : (y == (n : Int))
                · rw [hyn, Bool.or_false] at HCT
                  go_wp2_with fail
                  go_round
                  case rel => exact ⟨k + 1, by go_num, by omega, by rw [HCT.out]⟩
                  case measure => simp [intOf] <;> omega
                · rw [hyn, Bool.or_true] at HCT
                  go_wp2_with fail
                  go_round
                  case rel => exact ⟨k + 1, by go_num, by omega, by rw [HCT.out, if_pos rfl]⟩
                  case measure => simp [intOf] <;> omega
              · obtain rfl : k = s.m.nw.length := by omega
                have j1 : decide ((s.m.nw.length : Int) < (s.m.nw.length : Int)) = false := by simp
                rw [List.take_length]
                generalize (if s.m.nw.contains (n : Int) = true then (3 : Int) else 1) = w1 at *
                go_wp2_with fail
                go_loop [13, 15] (fun wt i => ∃ k : Nat, i = .int .i64 (k : Int) ∧ k ≤ s.m.od.length ∧ wt = .int .i64 (if (s.m.od.take k).contains (n : Int) = true then 4 else w1)) (fun _ i => s.m.od.length - (intOf i).toNat)
                case atStart => exact ⟨0, rfl, Nat.zero_le _, by simp⟩
                case round =>
                  obtain ⟨k, rfl, hk, rfl⟩ := hrel
                  by_cases hkl : k < s.m.od.length
                  · obtain ⟨y, hy, htk, _⟩ := getElem?_of_lt hkl
                    obtain ⟨b4, o4, rfl, hb4', y4⟩ := HC4.out k y hy
                    have i3 : (0 : Int) ≤ (k : Int) := by omega
                    have i4 : (k : Int) < (s.m.od.length : Int) := by omega
                    have HCT := Lib.hid (cont_take (x := (n : Int)) htk)
                    clear hy htk
                    cases hyn : (y == (n : Int))
                    · rw [hyn, Bool.or_false] at HCT
                      go_wp2_with fail
                      go_round
                      case rel => exact ⟨k + 1, by go_num, by omega, by rw [HCT.out]⟩
                      case measure => simp [intOf] <;> omega
                    · rw [hyn, Bool.or_true] at HCT
                      go_wp2_with fail
                      go_round
                      case rel => exact ⟨k + 1, by go_num, by omega, by rw [HCT.out, if_pos rfl]⟩
                      case measure => simp [intOf] <;> omega
                  · obtain rfl : k = s.m.od.length := by omega
                    have j2 : decide ((s.m.od.length : Int) < (s.m.od.length : Int)) = false := by simp
                    rw [List.take_length, ← HKL.out]
                    by_cases hn1 : 1 < n
                    · have i5 : decide ((1 : Int) < (n : Int)) = true := decide_eq_true (by omega)
                      cases hbd : (c.b n).bad
                      · rw [hbd] at HB2
                        have HL1 : Hid (lawL c (n + 1) = (min (lawL c n).1 (c.b n).wear, max (lawL c n).2 (c.b n).wear)) := by rw [Hid, HLW.out, if_pos ⟨hn1, hbd⟩]
                        clear hbd hn1
                        go_wp2_with (first
                          | (go_at_call 81; refine HB2.out.mono ?_; rintro e w5 ⟨rfl, rfl⟩)
                          | (go_at_call 82; refine HW2.out.mono ?_; rintro e w5 ⟨rfl, rfl⟩))
                        all_goals
                          go_roundw
                          case rel => exact ⟨n + 1, by omega, by go_num, by rw [HL1.out] <;> (try (congr 1 <;> omega)), by rw [HL1.out] <;> (try (congr 1 <;> omega)), HST.out⟩
                          case measure => simp [intOf] <;> omega
                      · rw [hbd] at HB2
                        have HL1 : Hid (lawL c (n + 1) = lawL c n) := by rw [Hid, HLW.out, if_neg (by rw [hbd]; simp)]
                        clear hbd hn1
                        go_wp2_with (go_at_call 81; refine HB2.out.mono ?_; rintro e w5 ⟨rfl, rfl⟩)
                        go_roundw
                        case rel => exact ⟨n + 1, by omega, by go_num, by rw [HL1.out], by rw [HL1.out], HST.out⟩
                        case measure => simp [intOf] <;> omega
                    · have i5 : decide ((1 : Int) < (n : Int)) = false := decide_eq_false (by omega)
                      have HL1 : Hid (lawL c (n + 1) = lawL c n) := by rw [Hid, HLW.out, if_neg (fun h => hn1 h.1)]
                      clear hn1
                      go_wp2_with fail
                      go_roundw
                      case rel => exact ⟨n + 1, by omega, by go_num, by rw [HL1.out], by rw [HL1.out], HST.out⟩
                      case measure => simp [intOf] <;> omega
          · go_wp2_with (go_at_call 81; refine HB1.out.mono ?_; rintro e w5 ⟨rfl, rfl⟩)
            go_loop [13, 14] (fun wt i => ∃ k : Nat, i = .int .i64 (k : Int) ∧ k ≤ s.m.nw.length ∧ wt = .int .i64 (if (s.m.nw.take k).contains (n : Int) = true then 3 else 2)) (fun _ i => s.m.nw.length - (intOf i).toNat)
            case atStart => exact ⟨0, rfl, Nat.zero_le _, by simp⟩
            case round =>
              obtain ⟨k, rfl, hk, rfl⟩ := hrel
              by_cases hkl : k < s.m.nw.length
              · obtain ⟨y, hy, htk, _⟩ := getElem?_of_lt hkl
                obtain ⟨b3, o3, rfl, hb3', y3⟩ := HC3.out k y hy
                have i1 : (0 : Int) ≤ (k : Int) := by omega
                have i2 : (k : Int) < (s.m.nw.length : Int) := by omega
                have HCT := Lib.hid (cont_take (x := (n : Int)) htk)
                clear hy htk
                cases hyn : (y == (n : Int))
                · rw [hyn, Bool.or_false] at HCT
                  go_wp2_with fail
                  go_round
                  case rel => exact ⟨k + 1, by go_num, by omega, by rw [HCT.out]⟩
                  case measure => simp [intOf] <;> omega
                · rw [hyn, Bool.or_true] at HCT
                  go_wp2_with fail
                  go_round
                  case rel => exact ⟨k + 1, by go_num, by omega, by rw [HCT.out, if_pos rfl]⟩
                  case measure => simp [intOf] <;> omega
              · obtain rfl : k = s.m.nw.length := by omega
                have j1 : decide ((s.m.nw.length : Int) < (s.m.nw.length : Int)) = false := by simp
                rw [List.take_length]
                generalize (if s.m.nw.contains (n : Int) = true then (3 : Int) else 2) = w1 at *
                go_wp2_with fail
                go_loop [13, 15] (fun wt i => ∃ k : Nat, i = .int .i64 (k : Int) ∧ k ≤ s.m.od.length ∧ wt = .int .i64 (if (s.m.od.take k).contains (n : Int) = true then 4 else w1)) (fun _ i => s.m.od.length - (intOf i).toNat)
                case atStart => exact ⟨0, rfl, Nat.zero_le _, by simp⟩
                case round =>
                  obtain ⟨k, rfl, hk, rfl⟩ := hrel
                  by_cases hkl : k < s.m.od.length
                  · obtain ⟨y, hy, htk, _⟩ := getElem?_of_lt hkl
                    obtain ⟨b4, o4, rfl, hb4', y4⟩ := HC4.out k y hy
                    have i3 : (0 : Int) ≤ (k : Int) := by omega
                    have i4 : (k : Int) < (s.m.od.length : Int) := by omega
                    have HCT := Lib.hid (cont_take (x := (n : Int)) htk)
                    clear hy htk
                    cases hyn : (y == (n : Int))
                    · rw [hyn, Bool.or_false] at HCT
                      go_wp2_with fail
                      go_round
                      case rel => exact ⟨k + 1, by go_num, by omega, by rw [HCT.out]⟩
                      case measure => simp [intOf] <;> omega
                    · rw [hyn, Bool.or_true] at HCT
                      go_wp2_with fail
                      go_round
                      case rel => exact ⟨k + 1, by go_num, by omega, by rw [HCT.out, if_pos rfl]⟩
                      case measure => simp [intOf] <;> omega
                  · obtain rfl : k = s.m.od.length := by omega
                    have j2 : decide ((s.m.od.length : Int) < (s.m.od.length : Int)) = false := by simp
                    rw [List.take_length, ← HKL.out]
                    by_cases hn1 : 1 < n
                    · have i5 : decide ((1 : Int) < (n : Int)) = true := decide_eq_true (by omega)
                      cases hbd : (c.b n).bad
                      · rw [hbd] at HB2
                        have HL1 : Hid (lawL c (n + 1) = (min (lawL c n).1 (c.b n).wear, max (lawL c n).2 (c.b n).wear)) := by rw [Hid, HLW.out, if_pos ⟨hn1, hbd⟩]
                        clear hbd hn1
                        go_wp2_with (first
                          | (go_at_call 81; refine HB2.out.mono ?_; rintro e w5 ⟨rfl, rfl⟩)
                          | (go_at_call 82; refine HW2.out.mono ?_; rintro e w5 ⟨rfl, rfl⟩))
                        all_goals
                          go_roundw
                          case rel => exact ⟨n + 1, by omega, by go_num, by rw [HL1.out] <;> (try (congr 1 <;> omega)), by rw [HL1.out] <;> (try (congr 1 <;> omega)), HST.out⟩
                          case measure => simp [intOf] <;> omega
                      · rw [hbd] at HB2
                        have HL1 : Hid (lawL c (n + 1) = lawL c n) := by rw [Hid, HLW.out, if_neg (by rw [hbd]; simp)]
                        clear hbd hn1
                        go_wp2_with (go_at_call 81; refine HB2.out.mono ?_; rintro e w5 ⟨rfl, rfl⟩)
                        go_roundw
                        case rel => exact ⟨n + 1, by omega, by go_num, by rw [HL1.out], by rw [HL1.out], HST.out⟩
                        case measure => simp [intOf] <;> omega
                    · have i5 : decide ((1 : Int) < (n : Int)) = false := decide_eq_false (by omega)
                      have HL1 : Hid (lawL c (n + 1) = lawL c n) := by rw [Hid, HLW.out, if_neg (fun h => hn1 h.1)]
                      clear hn1
                      go_wp2_with fail
                      go_roundw
                      case rel => exact ⟨n + 1, by omega, by go_num, by rw [HL1.out], by rw [HL1.out], HST.out⟩
                      case measure => simp [intOf] <;> omega
          · go_wp2_with (go_at_call 81; refine HB1.out.mono ?_; rintro e w5 ⟨rfl, rfl⟩)
            go_loop [13, 14] (fun wt i => ∃ k : Nat, i = .int .i64 (k : Int) ∧ k ≤ s.m.nw.length ∧ wt = .int .i64 (if (s.m.nw.take k).contains (n : Int) = true then 3 else 5)) (fun _ i => s.m.nw.length - (intOf i).toNat)
            case atStart => exact ⟨0, rfl, Nat.zero_le _, by simp⟩
            case round =>
              obtain ⟨k, rfl, hk, rfl⟩ := hrel
              by_cases hkl : k < s.m.nw.length
              · obtain ⟨y, hy, htk, _⟩ := getElem?_of_lt hkl
                obtain ⟨b3, o3, rfl, hb3', y3⟩ := HC3.out k y hy
                have i1 : (0 : Int) ≤ (k : Int) := by omega
                have i2 : (k : Int) < (s.m.nw.length : Int) := by omega
                have HCT := Lib.hid (cont_take (x := (n : Int)) htk)
                clear hy htk
                cases hyn : (y == (n : Int))
                · rw [hyn, Bool.or_false] at HCT
                  go_wp2_with fail
                  go_round
                  case rel => exact ⟨k + 1, by go_num, by omega, by rw [HCT.out]⟩
                  case measure => simp [intOf] <;> omega
                · rw [hyn, Bool.or_true] at HCT
                  go_wp2_with fail
                  go_round
                  case rel => exact ⟨k + 1, by go_num, by omega, by rw [HCT.out, if_pos rfl]⟩
                  case measure => simp [intOf] <;> omega
              · obtain rfl : k = s.m.nw.length := by omega
                have j1 : decide ((s.m.nw.length : Int) < (s.m.nw.length : Int)) = false := by simp
                rw [List.take_length]
                generalize (if s.m.nw.contains (n : Int) = true then (3 : Int) else 5) = w1 at *
                go_wp2_with fail
                go_loop [13, 15] (fun wt i => ∃ k : Nat, i = .int .i64 (k : Int) ∧ k ≤ s.m.od.length ∧ wt = .int .i64 (if (s.m.od.take k).contains (n : Int) = true then 4 else w1)) (fun _ i => s.m.od.length - (intOf i).toNat)
                case atStart => exact ⟨0, rfl, Nat.zero_le _, by simp⟩
                case round =>
                  obtain ⟨k, rfl, hk, rfl⟩ := hrel
                  by_cases hkl : k < s.m.od.length
                  · obtain ⟨y, hy, htk, _⟩ := getElem?_of_lt hkl
                    obtain ⟨b4, o4, rfl, hb4', y4⟩ := HC4.out k y hy
                    have i3 : (0 : Int) ≤ (k : Int) := by omega
                    have i4 : (k : Int) < (s.m.od.length : Int) := by omega
                    have HCT := Lib.hid (cont_take (x := (n : Int)) htk)
                    clear hy htk
                    cases hyn : (y == (n : Int))
                    · rw [hyn, Bool.or_false] at HCT
                      go_wp2_with fail
                      go_round
                      case rel => exact ⟨k + 1, by go_num, by omega, by rw [HCT.out]⟩
                      case measure => simp [intOf] <;> omega
                    · rw [hyn, Bool.or_true] at HCT
                      go_wp2_with fail
                      go_round
                      case rel => exact ⟨k + 1, by go_num, by omega, by rw [HCT.out, if_pos rfl]⟩
                      case measure => simp [intOf] <;> omega
                  · obtain rfl : k = s.m.od.length := by omega
                    have j2 : decide ((s.m.od.length : Int) < (s.m.od.length : Int)) = false := by simp
                    rw [List.take_length, ← HKL.out]
                    by_cases hn1 : 1 < n
                    · have i5 : decide ((1 : Int) < (n : Int)) = true := decide_eq_true (by omega)
                      cases hbd : (c.b n).bad
                      · rw [hbd] at HB2
                        have HL1 : Hid (lawL c (n + 1) = (min (lawL c n).1 (c.b n).wear, max (lawL c n).2 (c.b n).wear)) := by rw [Hid, HLW.out, if_pos ⟨hn1, hbd⟩]
                        clear hbd hn1
                        go_wp2_with (first
                          | (go_at_call 81; refine HB2.out.mono ?_; rintro e w5 ⟨rfl, rfl⟩)
                          | (go_at_call 82; refine HW2.out.mono ?_; rintro e w5 ⟨rfl, rfl⟩))
                        all_goals
                          go_roundw
                          case rel => exact ⟨n + 1, by omega, by go_num, by rw [HL1.out] <;> (try (congr 1 <;> omega)), by rw [HL1.out] <;> (try (congr 1 <;> omega)), HST.out⟩
                          case measure => simp [intOf] <;> omega
                      · rw [hbd] at HB2
                        have HL1 : Hid (lawL c (n + 1) = lawL c n) := by rw [Hid, HLW.out, if_neg (by rw [hbd]; simp)]
                        clear hbd hn1
                        go_wp2_with (go_at_call 81; refine HB2.out.mono ?_; rintro e w5 ⟨rfl, rfl⟩)
                        go_roundw
                        case rel => exact ⟨n + 1, by omega, by go_num, by rw [HL1.out], by rw [HL1.out], HST.out⟩
                        case measure => simp [intOf] <;> omega
                    · have i5 : decide ((1 : Int) < (n : Int)) = false := decide_eq_false (by omega)
                      have HL1 : Hid (lawL c (n + 1) = lawL c n) := by rw [Hid, HLW.out, if_neg (fun h => hn1 h.1)]
                      clear hn1
                      go_wp2_with fail
                      go_roundw
                      case rel => exact ⟨n + 1, by omega, by go_num, by rw [HL1.out], by rw [HL1.out], HST.out⟩
                      case measure => simp [intOf] <;> omega
          · go_wp2_with (go_at_call 81; refine HB1.out.mono ?_; rintro e w5 ⟨rfl, rfl⟩)
            go_loop [13, 14] (fun wt i => ∃ k : Nat, i = .int .i64 (k : Int) ∧ k ≤ s.m.nw.length ∧ wt = .int .i64 (if (s.m.nw.take k).contains (n : Int) = true then 3 else 0)) (fun _ i => s.m.nw.length - (intOf i).toNat)
            case atStart => exact ⟨0, rfl, Nat.zero_le _, by simp⟩
            case round =>
              obtain ⟨k, rfl, hk, rfl⟩ := hrel
              by_cases hkl : k < s.m.nw.length
              · obtain ⟨y, hy, htk, _⟩ := getElem?_of_lt hkl
                obtain ⟨b3, o3, rfl, hb3', y3⟩ := HC3.out k y hy
                have i1 : (0 : Int) ≤ (k : Int) := by omega
                have i2 : (k : Int) < (s.m.nw.length : Int) := by omega
                have HCT := Lib.hid (cont_take (x := (n : Int)) htk)
                clear hy htk
                cases hyn : (y == (n : Int))
                · rw [hyn, Bool.or_false] at HCT
                  go_wp2_with fail
                  go_round
                  case rel => exact ⟨k + 1, by go_num, by omega, by rw [HCT.out]⟩
                  case measure => simp [intOf] <;> omega
                · rw [hyn, Bool.or_true] at HCT
                  go_wp2_with fail
                  go_round
                  case rel => exact ⟨k + 1, by go_num, by omega, by rw [HCT.out, if_pos rfl]⟩
                  case measure => simp [intOf] <;> omega
              · obtain rfl : k = s.m.nw.length := by omega
                have j1 : decide ((s.m.nw.length : Int) < (s.m.nw.length : Int)) = false := by simp
                rw [List.take_length]
                generalize (if s.m.nw.contains (n : Int) = true then (3 : Int) else 0) = w1 at *
                go_wp2_with fail
                go_loop [13, 15] (fun wt i => ∃ k : Nat, i = .int .i64 (k : Int) ∧ k ≤ s.m.od.length ∧ wt = .int .i64 (if (s.m.od.take k).contains (n : Int) = true then 4 else w1)) (fun _ i => s.m.od.length - (intOf i).toNat)
                case atStart => exact ⟨0, rfl, Nat.zero_le _, by simp⟩
                case round =>
                  obtain ⟨k, rfl, hk, rfl⟩ := hrel
                  by_cases hkl : k < s.m.od.length
                  · obtain ⟨y, hy, htk, _⟩ := getElem?_of_lt hkl
                    obtain ⟨b4, o4, rfl, hb4', y4⟩ := HC4.out k y hy
                    have i3 : (0 : Int) ≤ (k : Int) := by omega
                    have i4 : (k : Int) < (s.m.od.length : Int) := by omega
                    have HCT := Lib.hid (cont_take (x := (n : Int)) htk)
                    clear hy htk
                    cases hyn : (y == (n : Int))
                    · rw [hyn, Bool.or_false] at HCT
                      go_wp2_with fail
                      go_round
                      case rel => exact ⟨k + 1, by go_num, by omega, by rw [HCT.out]⟩
                      case measure => simp [intOf] <;> omega
                    · rw [hyn, Bool.or_true] at HCT
                      go_wp2_with fail
                      go_round
                      case rel => exact ⟨k + 1, by go_num, by omega, by rw [HCT.out, if_pos rfl]⟩
                      case measure => simp [intOf] <;> omega
                  · obtain rfl : k = s.m.od.length := by omega
                    have j2 : decide ((s.m.od.length : Int) < (s.m.od.length : Int)) = false := by simp
                    rw [List.take_length, ← HKL.out]
                    by_cases hn1 : 1 < n
                    · have i5 : decide ((1 : Int) < (n : Int)) = true := decide_eq_true (by omega)
                      cases hbd : (c.b n).bad
                      · rw [hbd] at HB2
                        have HL1 : Hid (lawL c (n + 1) = (min (lawL c n).1 (c.b n).wear, max (lawL c n).2 (c.b n).wear)) := by rw [Hid, HLW.out, if_pos ⟨hn1, hbd⟩]
                        clear hbd hn1
                        go_wp2_with (first
                          | (go_at_call 81; refine HB2.out.mono ?_; rintro e w5 ⟨rfl, rfl⟩)
                          | (go_at_call 82; refine HW2.out.mono ?_; rintro e w5 ⟨rfl, rfl⟩))
                        all_goals
                          go_roundw
                          case rel => exact ⟨n + 1, by omega, by go_num, by rw [HL1.out] <;> (try (congr 1 <;> omega)), by rw [HL1.out] <;> (try (congr 1 <;> omega)), HST.out⟩
                          case measure => simp [intOf] <;> omega
                      · rw [hbd] at HB2
                        have HL1 : Hid (lawL c (n + 1) = lawL c n) := by rw [Hid, HLW.out, if_neg (by rw [hbd]; simp)]
                        clear hbd hn1
                        go_wp2_with (go_at_call 81; refine HB2.out.mono ?_; rintro e w5 ⟨rfl, rfl⟩)
                        go_roundw
                        case rel => exact ⟨n + 1, by omega, by go_num, by rw [HL1.out], by rw [HL1.out], HST.out⟩
                        case measure => simp [intOf] <;> omega
                    · have i5 : decide ((1 : Int) < (n : Int)) = false := decide_eq_false (by omega)
                      have HL1 : Hid (lawL c (n + 1) = lawL c n) := by rw [Hid, HLW.out, if_neg (fun h => hn1 h.1)]
                      clear hn1
                      go_wp2_with fail
                      go_roundw
                      case rel => exact ⟨n + 1, by omega, by go_num, by rw [HL1.out], by rw [HL1.out], HST.out⟩
                      case measure => simp [intOf] <;> omega
        · obtain rfl : n = 24 := by omega
          have g24 : ¬ ((24 : Int) < 24) := by omega
          clear HNW HOD HMC HFA
          go_wp2_with fail
          go_loopw [16] (fun i wr => ∃ k : Nat, k ≤ 6 ∧ i = .int .i64 (k : Int) ∧ Hid (LR (g8 + 1) w11 (kindM c s.m) 24 wr)) (fun i _ => (6 - intOf i).toNat)
          case atStart => exact ⟨0, by omega, rfl, hr⟩
          case round =>
            clear hr
            obtain ⟨k, hk, rfl, hr⟩ := hrel
            by_cases hlt : k < 6
            · have k1 : (k : Int) < 6 := by omega
              have k0 : (0 : Int) ≤ (k : Int) := by omega
              have hS0 : wr.drew.rangeAt g 0 (arrL (kindM c s.m)) ∧ wr.drew.cell? ⟨g8 + 1, k, none⟩ = some (.int .i64 (countK (kindM c s.m) k 24 : Nat)) ∧ Below wr.heap.size wr wr.drew := ⟨arrL_at ((HGK.out _ hr.out.bel).drewN 1), (hr.out.a.cell k).trans (arr6_get _ hlt), (Below.refl _ _).drew⟩
              have HSN : Hid (∀ w' : World, Below wr.heap.size wr w' → w'.rangeAt g 0 (arrL (kindM c s.m)) ∧ w'.cell? ⟨g8 + 1, k, none⟩ = some (.int .i64 (countK (kindM c s.m) k 24 : Nat)) ∧ Below wr.heap.size wr w') := fun w' hb =>
                ⟨arrL_at ((HGK.out _ hr.out.bel).below hb (HGK.out _ hr.out.bel).lt), ((hr.out.a.below hb hr.out.a.lt).cell k).trans (arr6_get _ hlt), hb⟩
              have HCN : Hid (∀ w' : World, (w'.rangeAt g 0 (arrL (kindM c s.m)) ∧ w'.cell? ⟨g8 + 1, k, none⟩ = some (.int .i64 (countK (kindM c s.m) k 24 : Nat)) ∧ Below wr.heap.size wr w') → Calls Try.prog 79 #[.agg (arrL (kindM c s.m)).toArray, .int .i64 (k : Int)] w' fun e w'' => e = .returned (.int .i64 (countK (kindM c s.m) k 24 : Nat)) ∧ (w''.rangeAt g 0 (arrL (kindM c s.m)) ∧ w''.cell? ⟨g8 + 1, k, none⟩ = some (.int .i64 (countK (kindM c s.m) k 24 : Nat)) ∧ Below wr.heap.size wr w'')) := fun w' hS =>
                (count_any (kindM c s.m) k w').mono fun e w'' ⟨h1, h2⟩ => ⟨h1, HSN.out w'' (hS.2.2.trans (h2.mono hS.2.2.size))⟩
              have HNX : Hid (∀ w' : World, Below wr.heap.size wr w' → LR (g8 + 1) w11 (kindM c s.m) 24 w') := fun w' hb =>
                ⟨hr.out.bel.trans (hb.mono (Nat.le_of_lt hr.out.a.lt)), hr.out.a.below hb hr.out.a.lt⟩
              have hu := Try.underlying82
              have hil : (Try.prog.info? 82).map (·.size) = some (arrL (kindM c s.m)).length := by rw [arrL_len]; kernel_rfl
              generalize arrL (kindM c s.m) = cl at *
              clear hr
              go_wp2_with fail
              refine wp_region_held_drew (S := fun w' => w'.rangeAt g 0 cl ∧ w'.cell? ⟨g8 + 1, k, none⟩ = some (.int .i64 (countK (kindM c s.m) k 24 : Nat)) ∧ Below wr.heap.size wr w') (by kernel_rfl) hS0 (fun hHeld => ?_)
              refine wpAnyH_take (i := 0) (oi := ⟨some 161, _, _, _, _, _⟩) (v := .agg cl.toArray) rfl (by kernel_rfl) (by kernel_rfl) (by kernel_rfl) (fun _ _ _ h => h) (yieldsIf_load_mid (by rfl) 82 _ rfl g 0 rfl cl _ (fun wS hSw => hSw.1) hu rfl hil) (by assumption) ?_
              simp only [Act.put, List.setIfInBounds_toArray, List.set_cons_zero, List.set_cons_succ]
              refine wpAnyH_take (i := 1) (oi := ⟨some 162, _, _, _, _, _⟩) (v := .int .i64 (k : Int)) rfl (by kernel_rfl) (by kernel_rfl) (by kernel_rfl) (fun _ _ _ h => h) (Or.inl ⟨by rfl, ?_⟩) (by assumption) ?_
              · intro wS hSw
                (try dsimp only at hSw)
                go_simp
              simp only [Act.put, List.setIfInBounds_toArray, List.set_cons_zero, List.set_cons_succ]
              refine wpAnyH_take (i := 3) (oi := ⟨some 164, _, _, _, _, _⟩) (v := .int .i64 (k : Int)) rfl (by kernel_rfl) (by kernel_rfl) (by kernel_rfl) (fun _ _ _ h => h) (Or.inl ⟨by rfl, ?_⟩) (by assumption) ?_
              · intro wS hSw
                (try dsimp only at hSw)
                go_simp
              simp only [Act.put, List.setIfInBounds_toArray, List.set_cons_zero, List.set_cons_succ]
              refine wpAnyH_take (i := 4) (oi := ⟨some 165, _, _, _, _, _⟩) (v := .pointer (some ⟨g8 + 1, k, none⟩)) rfl (by kernel_rfl) (by kernel_rfl) (by kernel_rfl) (fun _ _ _ h => h) (Or.inl ⟨by rfl, ?_⟩) (by assumption) ?_
              · intro wS hSw
                (try dsimp only at hSw)
                go_simp
              simp only [Act.put, List.setIfInBounds_toArray, List.set_cons_zero, List.set_cons_succ]
              refine wpAnyH_take (i := 5) (oi := ⟨some 166, _, _, _, _, _⟩) (v := .int .i64 (countK (kindM c s.m) k 24 : Nat)) rfl (by kernel_rfl) (by kernel_rfl) (by kernel_rfl) (fun _ _ _ h => h) (Or.inl ⟨by rfl, ?_⟩) (by assumption) ?_
              · intro wS hSw
                (try dsimp only at hSw)
                go_simp
              simp only [Act.put, List.setIfInBounds_toArray, List.set_cons_zero, List.set_cons_succ]
              refine wpAnyH_ready (rs := [2]) (by kernel_rfl) (by simp) ?_
              refine AllReadyH.cons (o := ⟨some 163, _, _, _, _, _⟩) rfl (fun K hK => ?_) AllReadyH.nil
              go_simp
              refine (HCN.out _ (by assumption)).mono ?_
              rintro e w7 ⟨rfl, hS7⟩
              refine hK.out _ _ ?_ (fun hHeld => ?_)
              · exact hS7
              clear hK K
              try simp only [Act.put, List.setIfInBounds_toArray, List.set_cons_zero, List.set_cons_succ]
              refine wpAnyH_take (i := 6) (oi := ⟨some 167, _, _, _, _, _⟩) (v := .bool false) rfl (by kernel_rfl) (by kernel_rfl) (by kernel_rfl) (fun _ _ _ h => h) (Or.inl ⟨by rfl, ?_⟩) (by assumption) ?_
              · intro wS hSw
                (try dsimp only at hSw)
                go_simp
              simp only [Act.put, List.setIfInBounds_toArray, List.set_cons_zero, List.set_cons_succ]
              refine wpAnyH_done (by kernel_rfl) ?_ _
              have HL7 := Lib.hid (HNX.out _ hHeld.2.2)
              go_wp2_with fail
              go_roundw
              case rel => exact ⟨k + 1, by omega, by go_num, HL7.out⟩
              case measure => simp [intOf] <;> omega
            · obtain rfl : k = 6 := by omega
              have k6 : ¬ ((6 : Int) < 6) := by omega
              have HSP := Lib.hid (spread_any w.heap.size p c wr (HCH.out wr hr.out.bel) (fun i hi => (HWE.out i hi).1))
              obtain ⟨q1, q2, _, _⟩ := HSE.out
              have HBF := Lib.hid (HBX.out wr hr.out.bel)
              rw [q1, q2] at HSP
              clear hr q1 q2
              go_wp2_with fail
              refine HSP.out.mono ?_
              rintro e w13 ⟨rfl, rfl⟩
              go_wp2_with fail
              go_ret
              exact ⟨by simp, HBF.out⟩

-- CLOSING

set_option maxRecDepth 100000 in
theorem surveySays_holds : Rows.SurveySaysSaid :=
  OpenClaim.holds_of_wide 11 Try.f11 rfl rfl rfl rfl rfl rfl rfl ⟨rfl, rfl, rfl, rfl, rfl⟩ rfl rfl rfl rfl rfl (by kernel_rfl) Try.func11 (by kernel_rfl)
    (of_decide_eq_true (by kernel_rfl)) (by unfold Func.isWrapper; first | (rw [if_pos (by decide +kernel)]; kernel_rfl) | (rw [if_neg (by decide +kernel)]; exact ⟨rfl, rfl⟩))
    (fun os started H enc _ => close_lifted Rows.surveySaysSpec 11 Try.f11 os started H enc (by kernel_rfl) Try.func11 (by kernel_rfl) rfl
      (fun ds hd => by
        rw [Try.params11] at hd
        match ds, hd with
        | [d1], _ => rfl)
      (by kernel_rfl)
      (ChangeSpec.witness6 (enc := enc) (C := Try.checked) false ⟨#[], #[.slice none 0 0], []⟩ 8 (by kernel_rfl) (by kernel_rfl) (by kernel_rfl) (by kernel_rfl))
      (fun W base args ds p hval hA => by
        rw [Try.params11] at hA hval
        obtain ⟨v0, d0, hargs, rfl, h0⟩ := trodAll_one hA
        obtain rfl : args = #[v0] := by cases args; simp_all
        obtain ⟨l0, hl0⟩ := acts_of (hval 0 _ v0 rfl rfl) h0
        exact surveySays_walk v0 l0 W hl0))
#print axioms surveySays_holds
end Go.Proofs.Ytaepdbkfaoiimaa
