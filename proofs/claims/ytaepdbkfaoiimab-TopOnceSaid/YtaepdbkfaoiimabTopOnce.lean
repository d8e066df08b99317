/- TopOnce returns true at every input, and leaves it as it was. Conditions: none. -/
import Derived.Test.YtaepdbkfaoiimabSheets
import Derived.Test.YtaepdbkfaoiimabMg
set_option linter.unusedVariables false
set_option linter.unusedSimpArgs false
namespace Go.Proofs.Ytaepdbkfaoiimab
open Go.ChangeShapes Go.WideShapes Go.ChangeAt Go.RowKit Go.WideMaps Go.WideElems
open Go.ChangeMaps (open_string shut_string)
attribute [local go_sem ↓] eql_err eql_nilerr neq_err neq_nilerr guard_err guard_nilerr guardn_err guardn_nilerr neq_sheet guard_sheet
theorem act_lit1 (B : Nat) (w : World) (x : Act) (he : Ents B w x.v x.l) (ho : ActOk x) : ActsR B (w.alloc (.cells #[.string x.kind, .string x.s, .int .i64 x.a, .int .i64 x.b, x.v] 61)) (.slice (some ⟨w.heap.size, 0, none⟩) 1 1) [x] := by
  have hb := Blk.new w 61 #[.string x.kind, .string x.s, .int .i64 x.a, .int .i64 x.b, x.v]
  refine ⟨⟨rfl, _, _, rfl, Nat.le_refl _, by simp, fun _ => ⟨_, _, rfl, .inr ⟨_, _, hb⟩, hb.lt, fun j u hu => ?_⟩⟩, fun y hy => ?_⟩
  · rw [hb.cell]
    have e : [x].flatMap Act.cells = [.string x.kind, .string x.s, .int .i64 x.a, .int .i64 x.b, x.v] := rfl
    rw [e] at hu
    simpa using hu
  · simp at hy
    subst hy
    exact ⟨he.below ((Below.refl _ _).alloc (Nat.le_refl _) _), ho⟩
theorem actsS_below {B : Nat} {w w' : World} {v : Value} {l : List Act} (h : ActsR B w v l) (hb : Below w.heap.size w w') : ActsR B w' v l := ⟨h.1.keep fun k hk hlt => hb.block k hlt, fun x hx => ⟨(h.2 x hx).1.below hb, (h.2 x hx).2⟩⟩
theorem once_one : ∃ c1 : Chip, Chip.new.write 3 ⟨#[120]⟩ = (c1, 0) ∧ (c1.b 3).l.length = 1 := ⟨_, rfl, rfl⟩
/-- Pages that no step of the act may change. -/
theorem page_keep {c c' : Chip} (h : Still c) (h' : Still c') {A n : Nat} {x : Sheet} (hf : ∀ b, b ≠ A → (c'.b b).l = (c.b b).l) (hA : (c'.b A).l = (c.b A).l ∨ (c'.b A).l = (c.b A).l ++ [x]) (hn : (c.b A).l.length = n) {b p : Nat} (hne : b = A → p ≠ n) : c'.read (b : Int) (p : Int) = c.read (b : Int) (p : Int) := by
  refine read_same h h' ?_
  by_cases e : b = A
  · have hp := hne e
    subst e
    rcases hA with e2 | e2
    · rw [e2]
    · rw [e2]
      rcases Nat.lt_or_ge p (c.b b).l.length with hlt | hge
      · rw [List.getElem?_append_left hlt]
      · rw [List.getElem?_eq_none (by simp; omega), List.getElem?_eq_none hge]
  · rw [hf b e]
set_option maxRecDepth 100000 in
set_option maxHeartbeats 8000000 in
theorem topOnce_walk (va : Value) (l : List Act) (kd sx : ByteArray) (xa xb : Int) (vx : Value) (lx : List Ent) (w : World) (ha : ActsR w.heap.size w va l) (hx : Ents w.heap.size w vx lx) (hok : ActOk ⟨kd, sx, xa, xb, vx, lx⟩) :
    Calls Try.prog 7 #[va, .agg #[.string kd, .string sx, .int .i64 xa, .int .i64 xb, vx]] w fun e w' => e = .returned (.bool true) ∧ Below w.heap.size w w' := by
  obtain ⟨A, cp, rfl, _, _, kX⟩ := hx.form
  have hb0 : Below w.heap.size w (w.alloc (.cells #[.string kd, .string sx, .int .i64 xa, .int .i64 xb, .slice A lx.length cp] 61)) := (Below.refl _ _).alloc (Nat.le_refl _) _
  have HSZ0 : Hid ((w.alloc (.cells #[.string kd, .string sx, .int .i64 xa, .int .i64 xb, .slice A lx.length cp] 61)).heap.size = w.heap.size + 1) := by simp [Hid]
  have HNEW := Lib.hid (cnew_any w.heap.size (w.alloc (.cells #[.string kd, .string sx, .int .i64 xa, .int .i64 xb, .slice A lx.length cp] 61)) (by rw [HSZ0.out]; omega))
  have HAC := Lib.hid (fun W (hW : Below w.heap.size w W) => acted_any w.heap.size va l W (actsS_below ha hW))
  have HLL := Lib.hid (fun W (hW : Below w.heap.size w W) => lightActs_any w.heap.size va l 80 W (actsS_below ha hW))
  have HLA : Hid (∀ W, Below w.heap.size w W → Calls Try.prog 35 #[.slice (some ⟨W.heap.size, 0, none⟩) 1 1, .int .i64 1] (W.alloc (.cells #[.string kd, .string sx, .int .i64 xa, .int .i64 xb, .slice A lx.length cp] 61)) fun e w' => e = .returned (.bool (lightA 1 [⟨kd, sx, xa, xb, .slice A lx.length cp, lx⟩])) ∧ (W.alloc (.cells #[.string kd, .string sx, .int .i64 xa, .int .i64 xb, .slice A lx.length cp] 61)) = w') := fun W hW =>
    lightActs_any w.heap.size _ _ 1 _ (act_lit1 w.heap.size W ⟨kd, sx, xa, xb, .slice A lx.length cp, lx⟩ (hx.below hW) hok)
  have HB0 := Lib.hid hb0
  have HG0 : Hid (Blk (w.alloc (.cells #[.string kd, .string sx, .int .i64 xa, .int .i64 xb, .slice A lx.length cp] 61)) w.heap.size 61 #[.string kd, .string sx, .int .i64 xa, .int .i64 xb, .slice A lx.length cp]) := Blk.new _ _ _
  have hsx : sx.size ≤ 9223372036854775807 := hok.2.1
  obtain ⟨c1, e1, e2⟩ := once_one
  have E := Lib.hid (And.intro e1 e2)
  obtain ⟨A1, cp1, rfl, _, _, _⟩ := actsS_form ha
  clear ha hx hok hb0 kX e1 e2
  go_enter Try.func7, Try.ntmps7
  go_wp2_with (go_at_call 32; refine HNEW.out.mono ?_; rintro e w1 ⟨p1, rfl, hp1, hr1, hb1⟩)
  have hw := cwrite_any w.heap.size p1 Chip.new 3 ⟨#[120]⟩ w1 hr1 (by decide)
  rw [E.out.1] at hw
  have HW := Lib.hid hw
  have HB1 := Lib.hid (HB0.out.trans (hb1.mono (by rw [HSZ0.out]; omega)))
  have HG1 := Lib.hid (HG0.out.below hb1 HG0.out.lt)
  have HP1 : Hid (w.heap.size + 1 ≤ p1) := by rw [← HSZ0.out]; exact hp1
  clear hr1 hb1 hw hp1 HNEW HG0 HB0
  refine HW.out.mono ?_
  rintro e w2 ⟨rfl, hr2, hf2⟩
  have hnx := next_any w.heap.size p1 c1 3 w2 hr2 (by omega) (by omega)
  rw [show (3 : Int).toNat = 3 from rfl, E.out.2] at hnx
  have HNX := Lib.hid hnx
  have HB2 : Hid (Below w.heap.size w w2) := HB1.out.trans (hf2.below HB1.out.size)
  have HG2 := Lib.hid (HG1.out.fr hf2 (.inr (.inr (by decide))))
  have HLL2 := Lib.hid (HLL.out w2 HB2.out)
  have HLA2 := Lib.hid (HLA.out w2 HB2.out)
  have HAC2 := Lib.hid (fun W (hW : Below w2.heap.size w2 W) => HAC.out W (HB2.out.trans (hW.mono HB2.out.size)))
  clear hr2 hf2 hnx HW HB1 HG1 HAC HLL HLA
  rw [show errV (c1, 0).2 = Value.nilIface from rfl]
  have x0 := HG2.out.cell 0
  have x1 := HG2.out.cell 1
  have x2 := HG2.out.cell 2
  have x3 := HG2.out.cell 3
  have x4 := HG2.out.cell 4
  simp at x0 x1 x2 x3 x4
  have hb23 : Below w2.heap.size w2 (w2.alloc (.cells #[.string kd, .string sx, .int .i64 xa, .int .i64 xb, .slice A lx.length cp] 61)) := (Below.refl _ _).alloc (Nat.le_refl _) _
  have y2 : (w2.alloc (.cells #[.string kd, .string sx, .int .i64 xa, .int .i64 xb, .slice A lx.length cp] 61)).cell? ⟨w.heap.size, 2, none⟩ = some (.int .i64 xa) := (hb23.cell (p := ⟨w.heap.size, 2, none⟩) HG2.out.lt).trans x2
  cases hl1 : lightA 80 l
  · rw [hl1] at HLL2
    clear hl1
    go_wp2_with (go_at_call 34; refine HNX.out.mono ?_; rintro e w3 ⟨rfl, rfl⟩)
    refine HLL2.out.mono ?_
    rintro e w3 ⟨rfl, rfl⟩
    go_wp2_with fail
    go_ret
    exact ⟨rfl, HB2.out⟩
  rw [hl1] at HLL2
  clear hl1
  have HB3 : Hid (Below w.heap.size w (w2.alloc (.cells #[.string kd, .string sx, .int .i64 xa, .int .i64 xb, .slice A lx.length cp] 61))) := HB2.out.trans (hb23.mono HB2.out.size)
  cases hl2 : lightA 1 [⟨kd, sx, xa, xb, .slice A lx.length cp, lx⟩]
  · rw [hl2] at HLA2
    clear hl2
    go_wp2_with (go_at_call 34; refine HNX.out.mono ?_; rintro e w3 ⟨rfl, rfl⟩)
    refine HLL2.out.mono ?_
    rintro e w3 ⟨rfl, rfl⟩
    go_wp2_with fail
    refine HLA2.out.mono ?_
    rintro e w3 ⟨rfl, rfl⟩
    go_wp2_with fail
    go_ret
    exact ⟨rfl, HB3.out⟩
  rw [hl2] at HLA2
  clear hl2
  by_cases hA : 0 ≤ xa ∧ xa < 24
  case neg =>
    by_cases hA0 : xa < 0
    · have t36 : decide (xa < 0) = true := decide_eq_true hA0
      clear hA hA0
      go_wp2_with (go_at_call 34; refine HNX.out.mono ?_; rintro e w3 ⟨rfl, rfl⟩)
      refine HLL2.out.mono ?_
      rintro e w3 ⟨rfl, rfl⟩
      go_wp2_with fail
      refine HLA2.out.mono ?_
      rintro e w3 ⟨rfl, rfl⟩
      go_wp2_with fail
      go_ret
      exact ⟨rfl, HB3.out⟩
    · have t36 : decide (xa < 0) = false := decide_eq_false hA0
      have t41 : decide (24 ≤ xa) = true := decide_eq_true (by omega)
      clear hA hA0
      go_wp2_with (go_at_call 34; refine HNX.out.mono ?_; rintro e w3 ⟨rfl, rfl⟩)
      refine HLL2.out.mono ?_
      rintro e w3 ⟨rfl, rfl⟩
      go_wp2_with fail
      refine HLA2.out.mono ?_
      rintro e w3 ⟨rfl, rfl⟩
      go_wp2_with fail
      go_ret
      exact ⟨rfl, HB3.out⟩
  obtain ⟨hA0, hA1⟩ := hA
  obtain ⟨a, rfl⟩ := Int.eq_ofNat_of_zero_le hA0
  have ha24 : a < 24 := by omega
  have t36 : decide ((a : Int) < 0) = false := decide_eq_false (by omega)
  have t41 : decide (24 ≤ (a : Int)) = false := decide_eq_false (by omega)
  have HAC3 := Lib.hid (HAC2.out _ hb23)
  go_wp2_with (go_at_call 34; refine HNX.out.mono ?_; rintro e w3 ⟨rfl, rfl⟩)
  refine HLL2.out.mono ?_
  rintro e w3 ⟨rfl, rfl⟩
  go_wp2_with fail
  refine HLA2.out.mono ?_
  rintro e w3 ⟨rfl, rfl⟩
  go_wp2_with fail
  have HG3 := Lib.hid (HG2.out.below hb23 HG2.out.lt)
  clear HNX HLL2 HLA2 HAC2 hb23 x0 x1 x2 x3 x4 y2 HB2 HG2 t36 t41
  generalize hW3 : (w2.alloc (.cells #[.string kd, .string sx, .int .i64 (a : Int), .int .i64 xb, .slice A lx.length cp] 61)) = w3 at *
  clear hW3
  refine HAC3.out.mono ?_
  rintro e w4 ⟨p, rfl, hp4, hc4, hb4⟩
  obtain ⟨hst, hwf⟩ := acted_still l
  generalize l.foldl actC Chip.new = c at *
  have HB4 := Lib.hid (HB3.out.trans (hb4.mono HB3.out.size))
  have HG4 := Lib.hid (HG3.out.below hb4 HG3.out.lt)
  have HC4 := Lib.hid hc4
  have HSH := Lib.hid (sheets_any w3.heap.size p c w4 hc4)
  have HZ3 : Hid (w.heap.size ≤ w3.heap.size) := HB3.out.size
  have HBB : Hid (w3.heap.size ≤ w4.heap.size) := hb4.size
  clear hb4 hc4 HAC3 HB3 HG3
  go_wp2_with fail
  refine HSH.out.mono ?_
  rintro e w5 ⟨rfl, hb5⟩
  have HC5 := Lib.hid (HC4.out.below hb5)
  have HG5 := Lib.hid (HG4.out.below hb5 HG4.out.lt)
  have HB5 := Lib.hid (HB4.out.trans (hb5.mono HB4.out.size))
  have hsz := arrS_size (pageN c)
  have ho := arrS_one (pageN c)
  have HPA := Lib.hid (fun i (hi : i < 192) => arrS_at (pageN c) hi)
  have hi6 : (Try.prog.info? 71).map (·.size) = some (arrS (pageN c)).size := by rw [hsz]; kernel_rfl
  have HBB5 : Hid (w3.heap.size ≤ w5.heap.size) := Nat.le_trans HBB.out hb5.size
  have x1 := HG5.out.cell 1
  have x2 := HG5.out.cell 2
  have x3 := HG5.out.cell 3
  simp at x1 x2 x3
  clear hb5 HSH HC4 HG4 HB4 HBB
  generalize arrS (pageN c) = cs at *
  have hb6 : Below w5.heap.size w5 (w5.alloc (.cells cs 71)) := (Below.refl _ _).alloc (Nat.le_refl _) _
  have y2 : (w5.alloc (.cells cs 71)).cell? ⟨w.heap.size, 2, none⟩ = some (.int .i64 (a : Int)) := (hb6.cell (p := ⟨w.heap.size, 2, none⟩) HG5.out.lt).trans x2
  go_wp2_with (refine wpList_store_row rfl 71 _ _ rfl w5.heap.size cs rfl rfl 71 _ (heap_alloc_new _ _) (by rw [hsz]; kernel_rfl) (by rw [hsz]; rfl) ho ?_; rw [World.setRow_alloc_new])
  clear y2
  have HS6 : Hid (Blk (w5.alloc (.cells cs 71)) w5.heap.size 71 cs) := Blk.new _ _ _
  have HC6 := Lib.hid (HC5.out.below hb6)
  have HG6 := Lib.hid (HG5.out.below hb6 HG5.out.lt)
  have HB6 : Hid (Below w.heap.size w (w5.alloc (.cells cs 71))) := HB5.out.trans (hb6.mono HB5.out.size)
  have HGL : Hid (w.heap.size < w5.heap.size) := HG5.out.lt
  have HBB6 : Hid (w3.heap.size ≤ (w5.alloc (.cells cs 71)).heap.size) := Nat.le_trans HBB5.out hb6.size
  clear hb6 HC5 HG5 HB5 hsz ho hi6 x1 x2 x3
  generalize (w5.alloc (.cells cs 71)) = w6 at *
  generalize w5.heap.size = g7 at *
  have x1 := HG6.out.cell 1
  have x2 := HG6.out.cell 2
  have x3 := HG6.out.cell 3
  simp at x1 x2 x3
  have hn1 := next_any w3.heap.size p c (a : Int) w6 HC6.out (by omega) (by omega)
  have hn2 := wear_any w3.heap.size p c (a : Int) w6 HC6.out (by omega) (by omega)
  rw [Int.toNat_natCast] at hn1 hn2
  have HN1 := Lib.hid hn1
  have HN2 := Lib.hid hn2
  have hw := cwrite_any w3.heap.size p c (a : Int) sx w6 HC6.out hsx
  obtain ⟨hst1, hwr1, hfar1, hpg1⟩ := still_write hst hwf (a : Int) sx
  have hwf1 := hwf.write_ (a : Int) sx
  rw [Int.toNat_natCast] at hfar1 hpg1
  obtain ⟨N, hN⟩ : ∃ N, (c.b a).l.length = N := ⟨_, rfl⟩
  obtain ⟨W0, hW0⟩ : ∃ W0, (c.b a).wear = W0 := ⟨_, rfl⟩
  rw [hN] at hn1 HN1
  rw [hW0] at HN2
  have hN8 : N ≤ 8 := by rw [← hN]; exact hwf.len a ha24
  generalize hcw : c.write (a : Int) sx = cw at *
  obtain ⟨c1w, n1w⟩ := cw
  simp only at hst1 hwr1 hfar1 hpg1 hwf1
  have HWR := Lib.hid hw
  have hand := and1 xb
  have hA1 : (c1w.b a).l = (c.b a).l ∨ (c1w.b a).l = (c.b a).l ++ [⟨pad sx, false⟩] := hpg1.elim (fun h => .inl h.2) (fun h => .inr h.2.1)
  clear hn1 hn2 hw hcw HC6
  by_cases her : xb % 2 = 1
  case neg =>
    have t64 : (xb % 2 == 1) = false := by rw [beq_eq_false_iff_ne]; exact her
    have HKP : Hid (∀ b k : Nat, b < 24 → k < 8 → ¬ (b = a ∧ (false = true ∨ k = N)) → c1w.read (b : Int) (k : Int) = c.read (b : Int) (k : Int)) := fun b k _ _ h => page_keep hst hst1 hfar1 hA1 hN (fun e e2 => h ⟨e, .inr e2⟩)
    have HFN : Hid (n1w = 0 → (c1w.b a).l.length = N + 1 ∧ (c1w.b a).wear = W0 ∧ N < 8 ∧ (c1w.read (a : Int) (N : Int)).2 = 0) := fun e => by
      rcases hpg1 with ⟨h1, _⟩ | ⟨_, h2, h3, _⟩
      · exact absurd e h1
      · rw [h2, List.length_append, hN]
        refine ⟨rfl, (hwr1 a).trans hW0, by omega, ?_⟩
        unfold Chip.read
        rw [hst1.down, if_neg (by simp), if_neg (by omega), Int.toNat_natCast, Int.toNat_natCast, h2, List.getElem?_append_right (by omega), show N - (c.b a).l.length = 0 by omega]
        rfl
    clear her hst hwf hst1 hwr1 hfar1 hpg1 hwf1 hA1 hN hW0
    refine HN1.out.mono ?_
    rintro e w7 ⟨rfl, rfl⟩
    go_wp2_with fail
    refine HN2.out.mono ?_
    rintro e w7 ⟨rfl, rfl⟩
    go_wp2_with fail
    refine HWR.out.mono ?_
    rintro e w8 ⟨rfl, hc8, hf8⟩
    have HC8 := Lib.hid hc8
    have HB8 := Lib.hid (HB6.out.trans ((hf8.below HBB6.out).mono HZ3.out))
    have HG8 := Lib.hid (HG6.out.fr hf8 (.inr (.inr (by decide))))
    have HS8 := Lib.hid (HS6.out.fr hf8 (.inr (.inr (by decide))))
    have x1 := HG8.out.cell 1
    have x2 := HG8.out.cell 2
    have x3 := HG8.out.cell 3
    simp at x1 x2 x3
    clear hc8 hf8 HWR HN1 HN2 HG6 HS6 HB6
    have HSH2 := Lib.hid (sheets_any w3.heap.size p c1w w8 HC8.out)
    go_wp2_with fail
    refine HSH2.out.mono ?_
    rintro e w9 ⟨rfl, hb9⟩
    have hb10 : Below w9.heap.size w9 (w9.alloc (.cells (arrS (pageN c1w)) 71)) := (Below.refl _ _).alloc (Nat.le_refl _) _
    have HN10 : Hid (Blk (w9.alloc (.cells (arrS (pageN c1w)) 71)) w9.heap.size 71 (arrS (pageN c1w))) := Blk.new _ _ _
    have HC10 := Lib.hid ((HC8.out.below hb9).below hb10)
    have HG10 := Lib.hid ((HG8.out.below hb9 HG8.out.lt).alloc (.cells (arrS (pageN c1w)) 71))
    have HS10 := Lib.hid ((HS8.out.below hb9 HS8.out.lt).alloc (.cells (arrS (pageN c1w)) 71))
    have HB10 := Lib.hid ((HB8.out.trans (hb9.mono HB8.out.size)).trans (hb10.mono (HB8.out.trans (hb9.mono HB8.out.size)).size))
    have hsz := arrS_size (pageN c1w)
    have ho := arrS_one (pageN c1w)
    have HPB := Lib.hid (fun i (hi : i < 192) => arrS_at (pageN c1w) hi)
    clear hb9 hb10 HSH2 HC8 HG8 HS8 HB8 x1 x2 x3
    generalize arrS (pageN c1w) = ds at *
    go_wp2_with (refine wpList_store_row rfl 71 _ _ rfl w9.heap.size ds rfl rfl 71 _ (heap_alloc_new _ _) (by rw [hsz]; kernel_rfl) (by rw [hsz]; rfl) ho ?_; rw [World.setRow_alloc_new])
    generalize (w9.alloc (.cells ds 71)) = w10 at *
    generalize w9.heap.size = g12 at *
    have x2 := HG10.out.cell 2
    simp at x2
    clear hsz ho
    go_loopw [13] (fun i wr => ∃ b n2 : Nat, b ≤ 24 ∧ i = .int .i64 (b : Int) ∧ wr = w10.drewN n2) (fun i _ => (24 - intOf i).toNat)
    case atStart => exact ⟨0, 0, by omega, rfl, rfl⟩
    case round =>
      obtain ⟨b, n1, hb, rfl, rfl⟩ := hrel
      by_cases hlt : b < 24
      · have g1 : (b : Int) < 24 := by omega
        have g0 : (0 : Int) ≤ (b : Int) := by omega
        go_wp2_with fail
        go_loopw [14] (fun i wr => ∃ k n2 : Nat, k ≤ 8 ∧ i = .int .i64 (k : Int) ∧ wr = w10.drewN n2) (fun i _ => (8 - intOf i).toNat)
        case atStart => exact ⟨0, n1, by omega, rfl, rfl⟩
        case round =>
          obtain ⟨k, n2, hk, rfl, rfl⟩ := hrel
          by_cases hkt : k < 8
          · have g3 : (k : Int) < 8 := by omega
            have g2 : (0 : Int) ≤ (k : Int) := by omega
            by_cases hba : b = a
            · subst hba
              have u1 : ((b : Int) == (b : Int)) = true := by simp
              by_cases hkn : k = N
              · subst hkn
                have u2 : ((k : Int) == (k : Int)) = true := by simp
                go_wp2_with fail
                go_roundw
                case rel => exact ⟨k + 1, n2, by omega, by go_num, rfl⟩
                case measure => simp [intOf] <;> omega
              · have u2 : ((k : Int) == (N : Int)) = false := by rw [beq_eq_false_iff_ne]; omega
                have hkp := HKP.out b k hlt hkt ((fun h => h.2.elim (fun e => by cases e) hkn))
                have y1 := (HPB.out (b * 8 + k) (by omega))
                have y2 := (HPA.out (b * 8 + k) (by omega))
                rw [pageN_at _ hkt, hkp] at y1
                rw [pageN_at _ hkt] at y2
                have z1 : w10.cell? ⟨g12, b * 16 + k * 2, none⟩ = _ := (HN10.out.cell (b * 16 + k * 2)).trans ((show ds[b * 16 + k * 2]? = ds[(b * 8 + k) * 2]? by rw [show b * 16 + k * 2 = (b * 8 + k) * 2 by omega]).trans y1.1)
                have z2 : w10.cell? ⟨g12, b * 16 + k * 2 + 1, none⟩ = _ := (HN10.out.cell (b * 16 + k * 2 + 1)).trans ((show ds[b * 16 + k * 2 + 1]? = ds[(b * 8 + k) * 2 + 1]? by rw [show b * 16 + k * 2 = (b * 8 + k) * 2 by omega]).trans y1.2)
                have z3 : w10.cell? ⟨g7, b * 16 + k * 2, none⟩ = _ := (HS10.out.cell (b * 16 + k * 2)).trans ((show cs[b * 16 + k * 2]? = cs[(b * 8 + k) * 2]? by rw [show b * 16 + k * 2 = (b * 8 + k) * 2 by omega]).trans y2.1)
                have z4 : w10.cell? ⟨g7, b * 16 + k * 2 + 1, none⟩ = _ := (HS10.out.cell (b * 16 + k * 2 + 1)).trans ((show cs[b * 16 + k * 2 + 1]? = cs[(b * 8 + k) * 2 + 1]? by rw [show b * 16 + k * 2 = (b * 8 + k) * 2 by omega]).trans y2.2)
                clear hkp y1 y2
                generalize c.read (b : Int) (k : Int) = rd at *
                obtain ⟨rs, rn⟩ := rd
                simp only at z1 z2 z3 z4
                go_wp2_with fail
                go_quiet (fail)
                go_wp2_with fail
                go_roundw
                case rel => exact ⟨k + 1, n2 + nq, by omega, by go_num, rfl⟩
                case measure => simp [intOf] <;> omega
            · have u1 : ((b : Int) == (a : Int)) = false := by rw [beq_eq_false_iff_ne]; omega
              have hkp := HKP.out b k hlt hkt ((fun h => hba h.1))
              have y1 := (HPB.out (b * 8 + k) (by omega))
              have y2 := (HPA.out (b * 8 + k) (by omega))
              rw [pageN_at _ hkt, hkp] at y1
              rw [pageN_at _ hkt] at y2
              have z1 : w10.cell? ⟨g12, b * 16 + k * 2, none⟩ = _ := (HN10.out.cell (b * 16 + k * 2)).trans ((show ds[b * 16 + k * 2]? = ds[(b * 8 + k) * 2]? by rw [show b * 16 + k * 2 = (b * 8 + k) * 2 by omega]).trans y1.1)
              have z2 : w10.cell? ⟨g12, b * 16 + k * 2 + 1, none⟩ = _ := (HN10.out.cell (b * 16 + k * 2 + 1)).trans ((show ds[b * 16 + k * 2 + 1]? = ds[(b * 8 + k) * 2 + 1]? by rw [show b * 16 + k * 2 = (b * 8 + k) * 2 by omega]).trans y1.2)
              have z3 : w10.cell? ⟨g7, b * 16 + k * 2, none⟩ = _ := (HS10.out.cell (b * 16 + k * 2)).trans ((show cs[b * 16 + k * 2]? = cs[(b * 8 + k) * 2]? by rw [show b * 16 + k * 2 = (b * 8 + k) * 2 by omega]).trans y2.1)
              have z4 : w10.cell? ⟨g7, b * 16 + k * 2 + 1, none⟩ = _ := (HS10.out.cell (b * 16 + k * 2 + 1)).trans ((show cs[b * 16 + k * 2 + 1]? = cs[(b * 8 + k) * 2 + 1]? by rw [show b * 16 + k * 2 = (b * 8 + k) * 2 by omega]).trans y2.2)
              clear hkp y1 y2
              generalize c.read (b : Int) (k : Int) = rd at *
              obtain ⟨rs, rn⟩ := rd
              simp only at z1 z2 z3 z4
              go_wp2_with fail
              go_quiet (fail)
              go_wp2_with fail
              go_roundw
              case rel => exact ⟨k + 1, n2 + nq, by omega, by go_num, rfl⟩
              case measure => simp [intOf] <;> omega
          · obtain rfl : k = 8 := by omega
            have g3 : ¬ ((8 : Int) < 8) := by omega
            go_wp2_with fail
            go_roundw
            case rel => exact ⟨b + 1, n2, by omega, by go_num, rfl⟩
            case measure => simp [intOf] <;> omega
      · obtain rfl : b = 24 := by omega
        have g1 : ¬ ((24 : Int) < 24) := by omega
        by_cases he0 : n1w = 0
        · obtain ⟨f1, f2, f3, f4⟩ := HFN.out he0
          have hq1 := next_any w3.heap.size p c1w (a : Int) (w10.drewN n1) (HC10.out.drewN n1) (by omega) (by omega)
          have hq2 := wear_any w3.heap.size p c1w (a : Int) (w10.drewN n1) (HC10.out.drewN n1) (by omega) (by omega)
          rw [Int.toNat_natCast, f1] at hq1
          rw [Int.toNat_natCast, f2] at hq2
          have yp := (HPB.out (a * 8 + N) (by omega)).2
          rw [pageN_at _ f3, f4] at yp
          have z9 : w10.cell? ⟨g12, a * 16 + N * 2 + 1, none⟩ = some (.int .i64 0) := (HN10.out.cell (a * 16 + N * 2 + 1)).trans (by rw [show a * 16 + N * 2 = (a * 8 + N) * 2 by omega]; exact yp)
          have g5 : (0 : Int) ≤ (N : Int) := by omega
          have g6 : (N : Int) < 8 := by omega
          have g7' : (0 : Int) ≤ (a : Int) := by omega
          have g8' : (a : Int) < 24 := by omega
          rw [he0, show errV 0 = Value.nilIface from rfl]
          have HQ1 := Lib.hid hq1
          have HQ2 := Lib.hid hq2
          clear hq1 hq2 he0 f1 f2
          go_wp2_with (first
            | (go_at_call 34; refine HQ1.out.mono ?_; rintro e w11 ⟨rfl, rfl⟩)
            | (go_at_call 38; refine HQ2.out.mono ?_; rintro e w11 ⟨rfl, rfl⟩))
          go_ret
          exact ⟨by simp, below_drewN' HB10.out n1⟩
        · rw [show errV n1w = .iface 107 (.int .i64 n1w) from if_neg he0]
          clear he0
          go_wp2_with fail
          go_ret
          exact ⟨rfl, below_drewN' HB10.out n1⟩
  case pos =>
    have t64 : (xb % 2 == 1) = true := by rw [beq_iff_eq]; exact her
    obtain ⟨hst2, hfar2, hpg2⟩ := still_erase hst1 (a : Int)
    rw [Int.toNat_natCast] at hfar2 hpg2
    have he := fun B p w h => cerase_any B p c1w (a : Int) w h
    generalize hce : c1w.erase (a : Int) = ce at *
    obtain ⟨c2, n2w⟩ := ce
    simp only at hst2 hfar2 hpg2 he
    have HER := Lib.hid he
    have HKP : Hid (∀ b k : Nat, b < 24 → k < 8 → ¬ (b = a ∧ (true = true ∨ k = N)) → c2.read (b : Int) (k : Int) = c.read (b : Int) (k : Int)) := fun b k _ _ h => by
      have hne : b ≠ a := fun e => h ⟨e, .inl rfl⟩
      exact read_same hst hst2 (by rw [hfar2 b hne, hfar1 b hne])
    have HFN : Hid (n2w = 0 → (c2.b a).l.length = 0 ∧ (c2.b a).wear = wrap64 (W0 + 1)) := fun e => by
      obtain ⟨h1, h2⟩ := hpg2 e
      rw [h1, h2, hwr1 a, hW0]
      exact ⟨rfl, rfl⟩
    clear her hst hwf hst1 hwr1 hfar1 hpg1 hwf1 hA1 hN hW0 he hce hst2 hfar2 hpg2
    refine HN1.out.mono ?_
    rintro e w7 ⟨rfl, rfl⟩
    go_wp2_with fail
    refine HN2.out.mono ?_
    rintro e w7 ⟨rfl, rfl⟩
    go_wp2_with fail
    refine HWR.out.mono ?_
    rintro e w7 ⟨rfl, hc7, hf7⟩
    have HC7 := Lib.hid hc7
    have HB7 := Lib.hid (HB6.out.trans ((hf7.below HBB6.out).mono HZ3.out))
    have HG7 := Lib.hid (HG6.out.fr hf7 (.inr (.inr (by decide))))
    have HS7 := Lib.hid (HS6.out.fr hf7 (.inr (.inr (by decide))))
    have HBB7 : Hid (w3.heap.size ≤ w7.heap.size) := Nat.le_trans HBB6.out (hf7.below HBB6.out).size
    have x1 := HG7.out.cell 1
    have x2 := HG7.out.cell 2
    have x3 := HG7.out.cell 3
    simp at x1 x2 x3
    clear hc7 hf7 HWR HN1 HN2 HG6 HS6 HB6
    have HE := Lib.hid (HER.out w3.heap.size p w7 HC7.out)
    clear HER HC7
    go_wp2_with fail
    refine HE.out.mono ?_
    rintro e w8 ⟨rfl, hc8, hf8⟩
    have HG6 := HG7
    have HS6 := HS7
    clear HG7 HS7 HE
    have HC8 := Lib.hid hc8
    have HB8 := Lib.hid (HB7.out.trans ((hf8.below HBB7.out).mono HZ3.out))
    have HG8 := Lib.hid (HG6.out.fr hf8 (.inr (.inr (by decide))))
    have HS8 := Lib.hid (HS6.out.fr hf8 (.inr (.inr (by decide))))
    have x1 := HG8.out.cell 1
    have x2 := HG8.out.cell 2
    have x3 := HG8.out.cell 3
    simp at x1 x2 x3
    clear hc8 hf8 HG6 HS6 HB7
    have HSH2 := Lib.hid (sheets_any w3.heap.size p c2 w8 HC8.out)
    go_wp2_with fail
    refine HSH2.out.mono ?_
    rintro e w9 ⟨rfl, hb9⟩
    have hb10 : Below w9.heap.size w9 (w9.alloc (.cells (arrS (pageN c2)) 71)) := (Below.refl _ _).alloc (Nat.le_refl _) _
    have HN10 : Hid (Blk (w9.alloc (.cells (arrS (pageN c2)) 71)) w9.heap.size 71 (arrS (pageN c2))) := Blk.new _ _ _
    have HC10 := Lib.hid ((HC8.out.below hb9).below hb10)
    have HG10 := Lib.hid ((HG8.out.below hb9 HG8.out.lt).alloc (.cells (arrS (pageN c2)) 71))
    have HS10 := Lib.hid ((HS8.out.below hb9 HS8.out.lt).alloc (.cells (arrS (pageN c2)) 71))
    have HB10 := Lib.hid ((HB8.out.trans (hb9.mono HB8.out.size)).trans (hb10.mono (HB8.out.trans (hb9.mono HB8.out.size)).size))
    have hsz := arrS_size (pageN c2)
    have ho := arrS_one (pageN c2)
    have HPB := Lib.hid (fun i (hi : i < 192) => arrS_at (pageN c2) hi)
    clear hb9 hb10 HSH2 HC8 HG8 HS8 HB8 x1 x2 x3
    generalize arrS (pageN c2) = ds at *
    go_wp2_with (refine wpList_store_row rfl 71 _ _ rfl w9.heap.size ds rfl rfl 71 _ (heap_alloc_new _ _) (by rw [hsz]; kernel_rfl) (by rw [hsz]; rfl) ho ?_; rw [World.setRow_alloc_new])
    generalize (w9.alloc (.cells ds 71)) = w10 at *
    generalize w9.heap.size = g12 at *
    have x2 := HG10.out.cell 2
    simp at x2
    clear hsz ho
    go_loopw [13] (fun i wr => ∃ b n2 : Nat, b ≤ 24 ∧ i = .int .i64 (b : Int) ∧ wr = w10.drewN n2) (fun i _ => (24 - intOf i).toNat)
    case atStart => exact ⟨0, 0, by omega, rfl, rfl⟩
    case round =>
      obtain ⟨b, n1, hb, rfl, rfl⟩ := hrel
      by_cases hlt : b < 24
      · have g1 : (b : Int) < 24 := by omega
        have g0 : (0 : Int) ≤ (b : Int) := by omega
        go_wp2_with fail
        go_loopw [14] (fun i wr => ∃ k n2 : Nat, k ≤ 8 ∧ i = .int .i64 (k : Int) ∧ wr = w10.drewN n2) (fun i _ => (8 - intOf i).toNat)
        case atStart => exact ⟨0, n1, by omega, rfl, rfl⟩
        case round =>
          obtain ⟨k, n2, hk, rfl, rfl⟩ := hrel
          by_cases hkt : k < 8
          · have g3 : (k : Int) < 8 := by omega
            have g2 : (0 : Int) ≤ (k : Int) := by omega
            by_cases hba : b = a
            · subst hba
              have u1 : ((b : Int) == (b : Int)) = true := by simp
              go_wp2_with fail
              go_roundw
              case rel => exact ⟨k + 1, n2, by omega, by go_num, rfl⟩
              case measure => simp [intOf] <;> omega
            · have u1 : ((b : Int) == (a : Int)) = false := by rw [beq_eq_false_iff_ne]; omega
              have hkp := HKP.out b k hlt hkt ((fun h => hba h.1))
              have y1 := (HPB.out (b * 8 + k) (by omega))
              have y2 := (HPA.out (b * 8 + k) (by omega))
              rw [pageN_at _ hkt, hkp] at y1
              rw [pageN_at _ hkt] at y2
              have z1 : w10.cell? ⟨g12, b * 16 + k * 2, none⟩ = _ := (HN10.out.cell (b * 16 + k * 2)).trans ((show ds[b * 16 + k * 2]? = ds[(b * 8 + k) * 2]? by rw [show b * 16 + k * 2 = (b * 8 + k) * 2 by omega]).trans y1.1)
              have z2 : w10.cell? ⟨g12, b * 16 + k * 2 + 1, none⟩ = _ := (HN10.out.cell (b * 16 + k * 2 + 1)).trans ((show ds[b * 16 + k * 2 + 1]? = ds[(b * 8 + k) * 2 + 1]? by rw [show b * 16 + k * 2 = (b * 8 + k) * 2 by omega]).trans y1.2)
              have z3 : w10.cell? ⟨g7, b * 16 + k * 2, none⟩ = _ := (HS10.out.cell (b * 16 + k * 2)).trans ((show cs[b * 16 + k * 2]? = cs[(b * 8 + k) * 2]? by rw [show b * 16 + k * 2 = (b * 8 + k) * 2 by omega]).trans y2.1)
              have z4 : w10.cell? ⟨g7, b * 16 + k * 2 + 1, none⟩ = _ := (HS10.out.cell (b * 16 + k * 2 + 1)).trans ((show cs[b * 16 + k * 2 + 1]? = cs[(b * 8 + k) * 2 + 1]? by rw [show b * 16 + k * 2 = (b * 8 + k) * 2 by omega]).trans y2.2)
              clear hkp y1 y2
              generalize c.read (b : Int) (k : Int) = rd at *
              obtain ⟨rs, rn⟩ := rd
              simp only at z1 z2 z3 z4
              go_wp2_with fail
              go_quiet (fail)
              go_wp2_with fail
              go_roundw
              case rel => exact ⟨k + 1, n2 + nq, by omega, by go_num, rfl⟩
              case measure => simp [intOf] <;> omega
          · obtain rfl : k = 8 := by omega
            have g3 : ¬ ((8 : Int) < 8) := by omega
            go_wp2_with fail
            go_roundw
            case rel => exact ⟨b + 1, n2, by omega, by go_num, rfl⟩
            case measure => simp [intOf] <;> omega
      · obtain rfl : b = 24 := by omega
        have g1 : ¬ ((24 : Int) < 24) := by omega
        by_cases he0 : n2w = 0
        · obtain ⟨f1, f2⟩ := HFN.out he0
          have hq1 := next_any w3.heap.size p c2 (a : Int) (w10.drewN n1) (HC10.out.drewN n1) (by omega) (by omega)
          have hq2 := wear_any w3.heap.size p c2 (a : Int) (w10.drewN n1) (HC10.out.drewN n1) (by omega) (by omega)
          rw [Int.toNat_natCast, f1] at hq1
          rw [Int.toNat_natCast, f2] at hq2
          rw [he0, show errV 0 = Value.nilIface from rfl]
          have HQ1 := Lib.hid hq1
          have HQ2 := Lib.hid hq2
          clear hq1 hq2 he0 f1 f2
          go_wp2_with (first
            | (go_at_call 34; refine HQ1.out.mono ?_; rintro e w11 ⟨rfl, rfl⟩)
            | (go_at_call 38; refine HQ2.out.mono ?_; rintro e w11 ⟨rfl, rfl⟩))
          go_ret
          exact ⟨by simp, below_drewN' HB10.out n1⟩
        · rw [show errV n2w = .iface 107 (.int .i64 n2w) from if_neg he0]
          clear he0
          go_wp2_with fail
          go_ret
          exact ⟨rfl, below_drewN' HB10.out n1⟩

-- CLOSING

set_option maxRecDepth 100000 in
theorem topOnce_holds : Rows.TopOnceSaid :=
  OpenClaim.holds_of_wide 7 Try.f7 rfl rfl rfl rfl rfl rfl rfl ⟨rfl, rfl, rfl, rfl, rfl⟩ rfl rfl rfl rfl rfl (by kernel_rfl) Try.func7 (by kernel_rfl)
    (of_decide_eq_true (by kernel_rfl)) (by unfold Func.isWrapper; first | (rw [if_pos (by decide +kernel)]; kernel_rfl) | (rw [if_neg (by decide +kernel)]; exact ⟨rfl, rfl⟩))
    (fun os started H enc _ => close_lifted Rows.topOnceSpec 7 Try.f7 os started H enc (by kernel_rfl) Try.func7 (by kernel_rfl) rfl
      (fun ds hd => by
        rw [Try.params7] at hd
        match ds, hd with
        | [d1, d2], _ => rfl)
      (by kernel_rfl)
      (ChangeSpec.witness6 (enc := enc) (C := Try.checked) false ⟨#[], #[.slice none 0 0, .agg #[.string ByteArray.empty, .string ByteArray.empty, .int .i64 0, .int .i64 0, .slice none 0 0]], []⟩ 8 (by kernel_rfl) (by kernel_rfl) (by kernel_rfl) (by kernel_rfl))
      (fun W base args ds p hval hA => by
        rw [Try.params7] at hA hval
        obtain ⟨v0, v1, d0, d1, p0, p1, hargs, rfl, rfl, h0, h1⟩ := trodAll_two hA
        obtain rfl : args = #[v0, v1] := by cases args; simp_all
        obtain ⟨l0, hl0⟩ := acts_of (hval 0 _ v0 rfl rfl) h0
        obtain ⟨l1, hl1⟩ := act_of (hval 1 _ v1 rfl rfl) h1
        exact (by obtain ⟨rfl, he1, hok1⟩ := hl1; exact topOnce_walk v0 l0 l1.kind l1.s l1.a l1.b l1.v l1.l W hl0 he1 hok1)))
#print axioms topOnce_holds
end Go.Proofs.Ytaepdbkfaoiimab
