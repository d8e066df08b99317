/- TopNewest returns true at every input, and leaves it as it was. Conditions: none. -/
import Derived.Test.YtaepdbkfaoiimabNote
import Derived.Test.YtaepdbkfaoiimabManSame
import Derived.Test.YtaepdbkfaoiimabOpen2
import Derived.Test.YtaepdbkfaoiimabBits
import Derived.Deep.DeepCutAuto
import Derived.Deep.CutBlock
set_option linter.unusedVariables false
set_option linter.unusedSimpArgs false
namespace Go.Proofs.Ytaepdbkfaoiimab
open Go.ChangeShapes Go.WideShapes Go.ChangeAt Go.RowKit Go.WideMaps Go.WideElems
open Go.ChangeMaps (open_string shut_string)
attribute [local go_sem ↓] eql_err eql_nilerr neq_err neq_nilerr guard_err guard_nilerr guardn_err guardn_nilerr
/-- A manifest's block with two numbers alone. -/
def BlkL (w : World) (g : Nat) (e L : Int) : Prop := Blk w g 50 #[.int .i64 e, .int .i64 L, .slice none 0 0, .slice none 0 0]
theorem BlkL.cells {w : World} {g : Nat} {e L : Int} (h : BlkL w g e L) : (w.cell? ⟨g, 0, none⟩ = some (.int .i64 e) ∧ w.cell? ⟨g, 1, none⟩ = some (.int .i64 L) ∧ w.cell? ⟨g, 2, none⟩ = some (.slice none 0 0) ∧ w.cell? ⟨g, 3, none⟩ = some (.slice none 0 0)) ∧
    w.frozen? ⟨g, 0, none⟩ = false ∧ w.frozen? ⟨g, 1, none⟩ = false ∧ w.frozen? ⟨g, 2, none⟩ = false ∧ w.frozen? ⟨g, 3, none⟩ = false := by
  have y0 := Blk.cell h 0
  have y1 := Blk.cell h 1
  have y2 := Blk.cell h 2
  have y3 := Blk.cell h 3
  simp at y0 y1 y2 y3
  exact ⟨⟨y0, y1, y2, y3⟩, Blk.frozen h 0, Blk.frozen h 1, Blk.frozen h 2, Blk.frozen h 3⟩
def BlkS (w : World) (g : Nat) (e L : Int) (A3 : Option Addr) (k3 : Nat) (A4 : Option Addr) (k4 : Nat) : Prop := Blk w g 50 #[.int .i64 e, .int .i64 L, .slice A3 0 k3, .slice A4 0 k4]
theorem BlkS.cells {w : World} {g : Nat} {e L : Int} {A3 : Option Addr} {k3 : Nat} {A4 : Option Addr} {k4 : Nat} (h : BlkS w g e L A3 k3 A4 k4) : (w.cell? ⟨g, 0, none⟩ = some (.int .i64 e) ∧ w.cell? ⟨g, 1, none⟩ = some (.int .i64 L) ∧ w.cell? ⟨g, 2, none⟩ = some (.slice A3 0 k3) ∧ w.cell? ⟨g, 3, none⟩ = some (.slice A4 0 k4)) ∧
    w.frozen? ⟨g, 0, none⟩ = false ∧ w.frozen? ⟨g, 1, none⟩ = false := by
  have y0 := Blk.cell h 0
  have y1 := Blk.cell h 1
  have y2 := Blk.cell h 2
  have y3 := Blk.cell h 3
  simp at y0 y1 y2 y3
  exact ⟨⟨y0, y1, y2, y3⟩, Blk.frozen h 0, Blk.frozen h 1⟩
theorem same_log (B : Nat) (W : World) (e L e' L' : Int) (A1 A2 A3 A4 : Option Addr) (k1 k2 k3 k4 : Nat) (h1 : Ints B W (.slice A1 0 k1) []) (h2 : Ints B W (.slice A2 0 k2) []) (h3 : Ints B W (.slice A3 0 k3) []) (h4 : Ints B W (.slice A4 0 k4) []) :
    Calls Try.prog 31 #[.agg #[.int .i64 e, .int .i64 L, .slice A1 0 k1, .slice A2 0 k2], .agg #[.int .i64 e', .int .i64 L', .slice A3 0 k3, .slice A4 0 k4]] W fun d w' => d = .returned (.bool (decide (e = e') && decide (L = L'))) ∧ Below W.heap.size W w' := by
  have := sameman_any B _ _ (manL e L) (manL e' L') W ⟨_, _, rfl, h1, h2⟩ ⟨_, _, rfl, h3, h4⟩
  rw [show sameM (manL e L) (manL e' L') = (decide (e = e') && decide (L = L')) by simp [sameM, manL]; rfl] at this
  exact this
/-- What lies where behind the loop. -/
structure NwE (w : World) (p g : Nat) (how : Int) (W : World) : Prop where
  ok : ∃ c e L e' L', ChipR w.heap.size W p c ∧ BlkL W g e L ∧ BlkL W (g + 1) e' L' ∧ Below w.heap.size w W ∧ Back c how (manL e L) (manL e' L') ∧ (1 ≤ e ∧ e ≤ 50) ∧ (1 ≤ e' ∧ e' ≤ 50) ∧ g ≠ p ∧ g + 1 ≠ p
set_option maxRecDepth 20000 in
set_option maxHeartbeats 8000000 in
theorem topNewest_walk (v : Value) (l : List Int) (fuse how : Int) (w : World) (h : Ints w.heap.size w v l) (hfu : fuse ≤ 9223372036854775807) (hfl : -9223372036854775808 ≤ fuse) :
    Calls Try.prog 9 #[v, .int .i64 fuse, .int .i64 how] w fun e w' => e = .returned (.bool true) ∧ Below w.heap.size w w' := by
  obtain ⟨A, cp, rfl, q1, q2, hcell⟩ := h.form
  have HL := Lib.hid hcell
  clear hcell h
  obtain ⟨c1, e1, wf1, d1, f1, h1⟩ := note_new (n := manL 1 5) (manL_fault (by decide) (by decide) (by decide) (by decide))
  have HNEW := Lib.hid (cnew_any w.heap.size w (Nat.le_refl _))
  have HNT : Hid (∀ W p, ChipR w.heap.size W p Chip.new → Calls Try.prog 44 #[.pointer (some ⟨p, 0, none⟩), .int .i64 0, .agg #[.int .i64 1, .int .i64 5, .slice none 0 0, .slice none 0 0]] W fun e w' => e = .returned (.tuple #[.int .i64 0, .nilIface]) ∧ ChipR w.heap.size w' p c1 ∧ Fr w.heap.size (· = p) W w') := by
    intro W p hW
    have := note_any w.heap.size p Chip.new 0 _ (manL 1 5) W hW (.inl rfl) ⟨_, _, rfl, Rd.nil _ _ _ _, Rd.nil _ _ _ _⟩ (by decide) (by decide)
    rw [e1] at this
    exact this
  have HARM : Hid (∀ W p n, n ≤ 9223372036854775807 → ChipR w.heap.size W p c1 → Calls Try.prog 40 #[.pointer (some ⟨p, 0, none⟩), .int .i64 n] W fun e w' => e = .returned (.tuple #[]) ∧ ChipR w.heap.size w' p (c1.arm n) ∧ Fr w.heap.size (· = p) W w') := fun W p n hn hW => arm_any w.heap.size p c1 n W hW hn
  have HD1 := Lib.hid d1
  have HW1 := Lib.hid wf1
  have HH1 := Lib.hid h1
  clear e1 wf1 d1 f1 h1
  by_cases hl40 : l.length ≤ 40
  case neg =>
    have t36 : decide ((40 : Int) < (l.length : Int)) = true := decide_eq_true (by omega)
    go_enter Try.func9, Try.ntmps9
    go_wp2_with (go_at_call 32; refine HNEW.out.mono ?_; rintro e w1 ⟨p, rfl, hp, hr1, hb1⟩)
    have HB1 := Lib.hid hb1
    have HN := Lib.hid (HNT.out w1 p hr1)
    clear hr1 hb1 HNEW HNT
    go_wp2_with (go_at_call 44; refine HN.out.mono ?_; rintro e w2 ⟨rfl, hr2, hf2⟩)
    have HB2 : Hid (Below w.heap.size w w2) := HB1.out.trans (hf2.below HB1.out.size)
    clear hr2 hf2 HN HB1
    go_wp2_with fail
    go_ret
    exact ⟨rfl, HB2.out⟩
  have t36 : decide ((40 : Int) < (l.length : Int)) = false := decide_eq_false (by omega)
  go_enter Try.func9, Try.ntmps9
  go_wp2_with (go_at_call 32; refine HNEW.out.mono ?_; rintro e w1 ⟨p, rfl, hp, hr1, hb1⟩)
  have HB1 := Lib.hid hb1
  have HN := Lib.hid (HNT.out w1 p hr1)
  clear hr1 hb1 HNEW HNT
  go_wp2_with (go_at_call 44; refine HN.out.mono ?_; rintro e w2 ⟨rfl, hr2, hf2⟩)
  have HB2 : Hid (Below w.heap.size w w2) := HB1.out.trans (hf2.below HB1.out.size)
  have HA := Lib.hid (HARM.out w2 p (min (max fuse (-1)) 60) (by omega) hr2)
  clear hr2 hf2 HN HB1 HARM
  go_upto_block 0 with (go_at_call 40; refine HA.out.mono ?_; rintro e w3 ⟨rfl, hr3, hf3⟩)
  have HB3 : Hid (Below w.heap.size w w3) := HB2.out.trans (hf3.below HB2.out.size)
  have HR3 := Lib.hid hr3
  clear hr3 hf3 HA HB2
  have HS3 : Hid (BlkL ((w3.alloc (.cells #[.int .i64 1, .int .i64 5, .slice none 0 0, .slice none 0 0] 50)).alloc (.cells #[.int .i64 1, .int .i64 5, .slice none 0 0, .slice none 0 0] 50)) w3.heap.size 1 5 ∧ BlkL ((w3.alloc (.cells #[.int .i64 1, .int .i64 5, .slice none 0 0, .slice none 0 0] 50)).alloc (.cells #[.int .i64 1, .int .i64 5, .slice none 0 0, .slice none 0 0] 50)) (w3.heap.size + 1) 1 5 ∧ ChipR w.heap.size ((w3.alloc (.cells #[.int .i64 1, .int .i64 5, .slice none 0 0, .slice none 0 0] 50)).alloc (.cells #[.int .i64 1, .int .i64 5, .slice none 0 0, .slice none 0 0] 50)) p (c1.arm (min (max fuse (-1)) 60)) ∧ Below w.heap.size w ((w3.alloc (.cells #[.int .i64 1, .int .i64 5, .slice none 0 0, .slice none 0 0] 50)).alloc (.cells #[.int .i64 1, .int .i64 5, .slice none 0 0, .slice none 0 0] 50))) := by
    have h2 := Blk.new (w3.alloc (.cells #[.int .i64 1, .int .i64 5, .slice none 0 0, .slice none 0 0] 50)) 50 #[.int .i64 1, .int .i64 5, .slice none 0 0, .slice none 0 0]
    rw [World.size_alloc] at h2
    have hb : Below w3.heap.size w3 ((w3.alloc (.cells #[.int .i64 1, .int .i64 5, .slice none 0 0, .slice none 0 0] 50)).alloc (.cells #[.int .i64 1, .int .i64 5, .slice none 0 0, .slice none 0 0] 50)) := ((Below.refl _ _).alloc (Nat.le_refl _) _).alloc (by simp) _
    exact ⟨(Blk.new w3 50 #[.int .i64 1, .int .i64 5, .slice none 0 0, .slice none 0 0]).alloc _, h2, HR3.out.below hb, HB3.out.trans (hb.mono HB3.out.size)⟩
  have HPG : Hid (w3.heap.size ≠ p ∧ w3.heap.size + 1 ≠ p) := by have := HR3.out.lt; exact ⟨by omega, by omega⟩
  have HARM2 : Hid (Head (c1.arm (min (max fuse (-1)) 60)) (manL 1 5) 0 ∧ (c1.arm (min (max fuse (-1)) 60)).down = false) := ⟨HH1.out.same rfl rfl, HD1.out⟩
  have HB3' : Hid (w.heap.size ≤ w3.heap.size) := HB3.out.size
  generalize c1.arm (min (max fuse (-1)) 60) = c2 at *
  generalize hg : w3.heap.size = g at *
  have HGG : Hid (w3.heap.size = g) := hg
  go_cut [12] (fun x wx => Hid (NwE w p g how wx))
  case first =>
    go_wp2_with fail
    go_loopw [8, 12] (fun a i wr => ∃ (k : Nat) (L at_ : Int) (c : Chip), i = .int .i64 (k : Int) ∧ a = .int .i64 at_ ∧ k ≤ l.length ∧ (2 ≤ L ∧ L < 24) ∧ Hid (BlkL wr g ((k : Int) + 1) L) ∧ Hid (BlkL wr (g + 1) ((k : Int) + 1) L) ∧ Hid (ChipR w.heap.size wr p c) ∧ Hid (Below w.heap.size w wr) ∧ Hid (Head c (manL ((k : Int) + 1) L) at_) ∧ Hid (c.down = false)) (fun _ i _ => l.length - (intOf i).toNat)
    case atStart => exact ⟨0, 5, 0, c2, rfl, rfl, Nat.zero_le _, ⟨by decide, by decide⟩, HS3.out.1, HS3.out.2.1, HS3.out.2.2.1, HS3.out.2.2.2, HARM2.out.1, HARM2.out.2⟩
    case round =>
      obtain ⟨k, L, at_, c, rfl, rfl, hk, hL, hx, hy, hc, hbl, hhd, hup⟩ := hrel
      obtain ⟨⟨x0, x1, x2, x3⟩, _⟩ := hx.out.cells
      obtain ⟨⟨y0, y1, y2, y3⟩, y4, y5, y6, y7⟩ := hy.out.cells
      by_cases hlt : k < l.length
      · obtain ⟨n, hn, _, _⟩ := getElem?_of_lt hlt
        obtain ⟨b, o, rfl, hb, d0⟩ := HL.out k n hn
        have d1 := (hbl.out.cell (p := ⟨b, o + k, none⟩) hb).trans d0
        have g1 : (0 : Int) ≤ (k : Int) := by omega
        have g2 : (k : Int) < (l.length : Int) := by omega
        have a15 := and15 n
        have hn0 : 0 ≤ n % 16 := by omega
        have hn1 : n % 16 < 16 := by omega
        clear d0 hn
        go_wp2_with fail
        have hgb : w.heap.size ≤ g + 1 := by have := HB3'.out; omega
        have HY4 : Hid (BlkL ((((wr.setCell ⟨g + 1, 0, none⟩ (.int .i64 ((k : Int) + 1 + 1))).setCell ⟨g + 1, 1, none⟩ (.int .i64 (2 + n % 16))).setCell ⟨g + 1, 2, none⟩ (.slice none 0 0)).setCell ⟨g + 1, 3, none⟩ (.slice none 0 0)).drew (g + 1) ((k : Int) + 1 + 1) (2 + n % 16)) := (store4 hy.out _ _ _ _).drewN 1
        have HX4 : Hid (BlkL ((((wr.setCell ⟨g + 1, 0, none⟩ (.int .i64 ((k : Int) + 1 + 1))).setCell ⟨g + 1, 1, none⟩ (.int .i64 (2 + n % 16))).setCell ⟨g + 1, 2, none⟩ (.slice none 0 0)).setCell ⟨g + 1, 3, none⟩ (.slice none 0 0)).drew g ((k : Int) + 1) L) := (blk_far4 hx.out (by omega) _ _ _ _).drewN 1
        have HC4 : Hid (ChipR w.heap.size ((((wr.setCell ⟨g + 1, 0, none⟩ (.int .i64 ((k : Int) + 1 + 1))).setCell ⟨g + 1, 1, none⟩ (.int .i64 (2 + n % 16))).setCell ⟨g + 1, 2, none⟩ (.slice none 0 0)).setCell ⟨g + 1, 3, none⟩ (.slice none 0 0)).drew p c) := (hc.out.man4 hy.out hgb _ _ _ _).drewN 1
        have HB4 : Hid (Below w.heap.size w ((((wr.setCell ⟨g + 1, 0, none⟩ (.int .i64 ((k : Int) + 1 + 1))).setCell ⟨g + 1, 1, none⟩ (.int .i64 (2 + n % 16))).setCell ⟨g + 1, 2, none⟩ (.slice none 0 0)).setCell ⟨g + 1, 3, none⟩ (.slice none 0 0)).drew) := (below4 hbl.out hgb _ _ _ _).drew
        obtain ⟨c', a', kk, hne, hwf', hcalm, hcase⟩ := note_next hc.out.wf hup.out hhd.out (n := manL ((k : Int) + 1 + 1) (2 + n % 16)) (manL_fault (by omega) (by omega) (by omega) (by omega)) (show (k : Int) + 1 < (k : Int) + 1 + 1 by omega) how
        have hnt := note_any w.heap.size p c at_ _ (manL ((k : Int) + 1 + 1) (2 + n % 16)) ((((wr.setCell ⟨g + 1, 0, none⟩ (.int .i64 ((k : Int) + 1 + 1))).setCell ⟨g + 1, 1, none⟩ (.int .i64 (2 + n % 16))).setCell ⟨g + 1, 2, none⟩ (.slice none 0 0)).setCell ⟨g + 1, 3, none⟩ (.slice none 0 0)).drew HC4.out hhd.out.at_ ⟨_, _, rfl, Rd.nil _ _ _ _, Rd.nil _ _ _ _⟩ (by simp [manL]) (by simp [manL])
        rw [hne] at hnt
        clear hgb hne hwf' hcalm hx hc hbl
        rcases hcase with ⟨rfl, hup', hhd'⟩ | ⟨rfl, hbk⟩
        · have HN : Hid (Calls Try.prog 44 #[.pointer (some ⟨p, 0, none⟩), .int .i64 at_, .agg #[.int .i64 ((k : Int) + 1 + 1), .int .i64 (2 + n % 16), .slice none 0 0, .slice none 0 0]] ((((wr.setCell ⟨g + 1, 0, none⟩ (.int .i64 ((k : Int) + 1 + 1))).setCell ⟨g + 1, 1, none⟩ (.int .i64 (2 + n % 16))).setCell ⟨g + 1, 2, none⟩ (.slice none 0 0)).setCell ⟨g + 1, 3, none⟩ (.slice none 0 0)).drew fun e w' => e = .returned (.tuple #[.int .i64 a', .nilIface]) ∧ ChipR w.heap.size w' p c' ∧ Fr w.heap.size (· = p) ((((wr.setCell ⟨g + 1, 0, none⟩ (.int .i64 ((k : Int) + 1 + 1))).setCell ⟨g + 1, 1, none⟩ (.int .i64 (2 + n % 16))).setCell ⟨g + 1, 2, none⟩ (.slice none 0 0)).setCell ⟨g + 1, 3, none⟩ (.slice none 0 0)).drew w') := hnt
          have HU := Lib.hid hup'
          have HH := Lib.hid hhd'
          clear hnt hup' hhd' hup hhd
          go_region
          go_wp2_with (go_at_call 44; refine HN.out.mono ?_; rintro e w6 ⟨rfl, hc6, hf6⟩)
          clear x0 x1 x2 x3 y0 y1 y2 y3 y4 y5 y6 y7
          have HX6 : Hid (BlkL w6 g ((k : Int) + 1) L) := Blk.fr HX4.out hf6 (.inr (.inr (by decide)))
          have HY6 : Hid (BlkL w6 (g + 1) ((k : Int) + 1 + 1) (2 + n % 16)) := Blk.fr HY4.out hf6 (.inr (.inr (by decide)))
          have HC6 := Lib.hid hc6
          have HB6 : Hid (Below w.heap.size w w6) := HB4.out.trans (hf6.below HB4.out.size)
          have HNU : Hid (Calls Try.prog 28 #[.nilIface] w6 fun e w' => e = .returned (.int .i64 0) ∧ w6 = w') := number_any 0 w6
          obtain ⟨⟨x0, x1, x2, x3⟩, x4, x5, x6, x7⟩ := HX6.out.cells
          obtain ⟨⟨y0, y1, y2, y3⟩, _⟩ := HY6.out.cells
          clear hc6 hf6 HN HX4 HY4 HC4 HB4
          go_wp2_with (go_at_call 28; refine HNU.out.mono ?_; rintro e w7 ⟨rfl, rfl⟩)
          go_roundw
          case rel =>
            refine ⟨k + 1, 2 + n % 16, a', c', by go_num, rfl, by omega, ⟨by omega, by omega⟩, ?_, ?_, HC6.out.man4 HX6.out HB3'.out _ _ _ _, below4 HB6.out HB3'.out _ _ _ _, ?_, HU.out⟩
            · rw [show ((k + 1 : Nat) : Int) = (k : Int) + 1 by omega]; exact store4 HX6.out _ _ _ _
            · rw [show ((k + 1 : Nat) : Int) = (k : Int) + 1 by omega]; exact blk_far4 HY6.out (by omega) _ _ _ _
            · rw [show ((k + 1 : Nat) : Int) = (k : Int) + 1 by omega]; exact HH.out
          case measure => simp [intOf] <;> omega
        · have HN : Hid (Calls Try.prog 44 #[.pointer (some ⟨p, 0, none⟩), .int .i64 at_, .agg #[.int .i64 ((k : Int) + 1 + 1), .int .i64 (2 + n % 16), .slice none 0 0, .slice none 0 0]] ((((wr.setCell ⟨g + 1, 0, none⟩ (.int .i64 ((k : Int) + 1 + 1))).setCell ⟨g + 1, 1, none⟩ (.int .i64 (2 + n % 16))).setCell ⟨g + 1, 2, none⟩ (.slice none 0 0)).setCell ⟨g + 1, 3, none⟩ (.slice none 0 0)).drew fun e w' => e = .returned (.tuple #[.int .i64 a', .iface 107 (.int .i64 9)]) ∧ ChipR w.heap.size w' p c' ∧ Fr w.heap.size (· = p) ((((wr.setCell ⟨g + 1, 0, none⟩ (.int .i64 ((k : Int) + 1 + 1))).setCell ⟨g + 1, 1, none⟩ (.int .i64 (2 + n % 16))).setCell ⟨g + 1, 2, none⟩ (.slice none 0 0)).setCell ⟨g + 1, 3, none⟩ (.slice none 0 0)).drew w') := hnt
          have HK := Lib.hid hbk
          clear hnt hbk hup hhd
          go_region
          go_wp2_with (go_at_call 44; refine HN.out.mono ?_; rintro e w6 ⟨rfl, hc6, hf6⟩)
          clear x0 x1 x2 x3 y0 y1 y2 y3 y4 y5 y6 y7
          have HX6 : Hid (BlkL w6 g ((k : Int) + 1) L) := Blk.fr HX4.out hf6 (.inr (.inr (by decide)))
          have HY6 : Hid (BlkL w6 (g + 1) ((k : Int) + 1 + 1) (2 + n % 16)) := Blk.fr HY4.out hf6 (.inr (.inr (by decide)))
          have HC6 := Lib.hid hc6
          have HB6 : Hid (Below w.heap.size w w6) := HB4.out.trans (hf6.below HB4.out.size)
          have HNU : Hid (Calls Try.prog 28 #[.iface 107 (.int .i64 9)] w6 fun e w' => e = .returned (.int .i64 9) ∧ w6 = w') := number_any 9 w6
          clear hc6 hf6 HN HX4 HY4 HC4 HB4
          go_wp2_with (go_at_call 28; refine HNU.out.mono ?_; rintro e w7 ⟨rfl, rfl⟩)
          go_meet
          exact ⟨⟨c', (k : Int) + 1, L, (k : Int) + 1 + 1, 2 + n % 16, HC6.out, HX6.out, HY6.out, HB6.out, HK.out, ⟨by omega, by omega⟩, ⟨by omega, by omega⟩, HPG.out.1, HPG.out.2⟩⟩
      · have t47 : decide ((k : Int) < (l.length : Int)) = false := decide_eq_false (by omega)
        go_wp2_with fail
        go_meet
        exact ⟨⟨c, (k : Int) + 1, L, (k : Int) + 1, L, hc.out, hx.out, hy.out, hbl.out, back_calm how hc.out.wf hup.out hhd.out _, ⟨by omega, by omega⟩, ⟨by omega, by omega⟩, HPG.out.1, HPG.out.2⟩⟩
  case rest =>
    obtain ⟨c, e0, L0, e1, L1, hc, hx, hy, hbl, hbk, he0, he1, hp1, hp2⟩ := hcut.out.ok
    have HX := Lib.hid hx
    have HY := Lib.hid hy
    have HBL := Lib.hid hbl
    have HBK := Lib.hid hbk
    have HP := Lib.hid (And.intro hp1 hp2)
    have HRS := Lib.hid (restart_any w.heap.size p c how wc hc)
    clear hcut hc hx hy hbl hbk hp1 hp2 HS3 HARM2 HR3 HH1 HW1 HD1 HB3 HL
    go_wp2_with (go_at_call 43; refine HRS.out.mono ?_; rintro e w5 ⟨rfl, hr5, hf5⟩)
    obtain ⟨x, a, hxm, hhd⟩ := HBK.out
    obtain ⟨e, L, rfl, he, hsm⟩ : ∃ e L, x = manL e L ∧ (1 ≤ e ∧ e ≤ 50) ∧ ((decide (e = e0) && decide (L = L0)) = true ∨ ((decide (e = e0) && decide (L = L0)) = false ∧ (decide (e = e1) && decide (L = L1)) = true)) := by
      rcases hxm with rfl | rfl
      · exact ⟨e0, L0, rfl, he0, .inl (by simp)⟩
      · refine ⟨e1, L1, rfl, he1, ?_⟩
        cases hh : (decide (e1 = e0) && decide (L1 = L0))
        · exact .inr ⟨rfl, by simp⟩
        · exact .inl rfl
    obtain ⟨c7, a7, en7, st7, hd7⟩ := (Sit.back how hr5.wf hhd).note (n := manL (e + 1) 9) (manL_fault (by omega) (by omega) (by decide) (by decide)) (show e < e + 1 by omega)
    have HF5 := Lib.hid (find_log w.heap.size p (c.restart how) e L a w5 hr5 rfl hhd)
    have HR5 := Lib.hid hr5
    have HB5 : Hid (Below w.heap.size w w5) := HBL.out.trans (hf5.below HBL.out.size)
    have HX5 : Hid (BlkL w5 g e0 L0) := Blk.fr HX.out hf5 (.inr (.inr (by decide)))
    have HY5 : Hid (BlkL w5 (g + 1) e1 L1) := Blk.fr HY.out hf5 (.inr (.inr (by decide)))
    have HN7 : Hid (∀ W A3 k3 A4 k4, ChipR w.heap.size W p (c.restart how) → Ints w.heap.size W (.slice A3 0 k3) [] → Ints w.heap.size W (.slice A4 0 k4) [] → Calls Try.prog 44 #[.pointer (some ⟨p, 0, none⟩), .int .i64 a, .agg #[.int .i64 (e + 1), .int .i64 9, .slice A3 0 k3, .slice A4 0 k4]] W fun e w' => e = .returned (.tuple #[.int .i64 a7, .nilIface]) ∧ ChipR w.heap.size w' p c7 ∧ Fr w.heap.size (· = p) W w') := by
      intro W A3 k3 A4 k4 hW h3 h4
      have := note_any w.heap.size p (c.restart how) a _ (manL (e + 1) 9) W hW hhd.at_ ⟨_, _, rfl, h3, h4⟩ (by simp [manL]) (by simp [manL])
      rw [en7] at this
      exact this
    have HF7 : Hid (∀ W, ChipR w.heap.size W p c7 → _) := fun W hW => find_log w.heap.size p c7 (e + 1) 9 a7 W hW st7.up hd7
    clear hxm hhd en7 st7 hd7 hr5 hf5 HRS HX HY HBL HBK
    have HX5' := Lib.hid (fun W (hb : Below w5.heap.size w5 W) => And.intro (BlkL.cells (Blk.below HX5.out hb (Blk.lt HX5.out))) (Blk.lt (Blk.below HX5.out hb (Blk.lt HX5.out))))
    have HY5' := Lib.hid (fun W (hb : Below w5.heap.size w5 W) => And.intro (BlkL.cells (Blk.below HY5.out hb (Blk.lt HY5.out))) (Blk.lt (Blk.below HY5.out hb (Blk.lt HY5.out))))
    have HSM := Lib.hid (same_log w.heap.size)
    rcases hsm with hsm | ⟨hsm, hsm2⟩
    · go_wp2_with (go_at_call 45; refine HF5.out.mono ?_; rintro d w6 ⟨A3, k3, A4, k4, rfl, h3, h4, hb6⟩; obtain ⟨⟨⟨x0, x1, x2, x3⟩, _⟩, x4⟩ := HX5'.out w6 hb6; obtain ⟨⟨⟨y0, y1, y2, y3⟩, _⟩, y4⟩ := HY5'.out w6 hb6)
      refine (HSM.out _ e L e0 L0 A3 A4 none none k3 k4 0 0 (ints_nil h3) (ints_nil h4) (Rd.nil _ _ _ _) (Rd.nil _ _ _ _)).mono ?_
      rintro d w7 ⟨rfl, hb7⟩
      rw [hsm]
      clear hsm
      have hz7 : BlkS w7 w6.heap.size e L A3 k3 A4 k4 := Blk.below (Blk.new w6 50 #[.int .i64 e, .int .i64 L, .slice A3 0 k3, .slice A4 0 k4]) hb7 (by simp)
      obtain ⟨⟨z0, z1, z2, z3⟩, z4, z5⟩ := BlkS.cells hz7
      have hbb : Below w5.heap.size w5 w7 := (hb6.trans (((Below.refl _ _).alloc (Nat.le_refl _) _).mono hb6.size)).trans (hb7.mono (by have := hb6.size; rw [World.size_alloc]; omega))
      have hgq : w.heap.size ≤ w6.heap.size := Nat.le_trans HB5.out.size hb6.size
      have hr7 := HR5.out.below hbb
      have HR8 : Hid (ChipR w.heap.size ((w7.setCell ⟨w6.heap.size, 0, none⟩ (.int .i64 (e + 1))).setCell ⟨w6.heap.size, 1, none⟩ (.int .i64 9)) p (c.restart how)) := (hr7.man hz7 hgq _).man (Blk.set_ hz7 0 _) hgq _
      have HZ8 : Hid (BlkS ((w7.setCell ⟨w6.heap.size, 0, none⟩ (.int .i64 (e + 1))).setCell ⟨w6.heap.size, 1, none⟩ (.int .i64 9)) w6.heap.size (e + 1) 9 A3 k3 A4 k4) := Blk.set_ (Blk.set_ hz7 0 _) 1 _
      have HB8 : Hid (Below w.heap.size w ((w7.setCell ⟨w6.heap.size, 0, none⟩ (.int .i64 (e + 1))).setCell ⟨w6.heap.size, 1, none⟩ (.int .i64 9))) := ((HB5.out.trans (hbb.mono HB5.out.size)).setCell (p := ⟨w6.heap.size, 0, none⟩) hgq _).setCell (p := ⟨w6.heap.size, 1, none⟩) hgq _
      have HN8 := Lib.hid (HN7.out _ A3 k3 A4 k4 HR8.out (ints_nil h3) (ints_nil h4))
      have H3 := Lib.hid h3
      have H4 := Lib.hid h4
      clear hz7 hbb hgq hr7 h3 h4 x0 x1 x2 x3 x4 y0 y1 y2 y3 y4 hb6 hb7
      go_wp2_with fail
      refine HN8.out.mono ?_
      rintro d w9 ⟨rfl, hr9, hf9⟩
      clear z0 z1 z2 z3 z4 z5
      have HF9 := Lib.hid (HF7.out w9 hr9)
      have HZ9 : Hid (BlkS w9 w6.heap.size (e + 1) 9 A3 k3 A4 k4) := Blk.fr HZ8.out hf9 (.inr (.inr (by decide)))
      have HB9 : Hid (Below w.heap.size w w9) := HB8.out.trans (hf9.below HB8.out.size)
      clear hr9 hf9 HZ8 HB8 HR8 HN8
      go_wp2_with fail
      refine HF9.out.mono ?_
      rintro d w10 ⟨A5, k5, A6, k6, rfl, h5, h6, hb10⟩
      have HB10 : Hid (Below w.heap.size w (w10.alloc (.cells #[.int .i64 (e + 1), .int .i64 9, .slice A5 0 k5, .slice A6 0 k6] 50))) := (HB9.out.trans (hb10.mono HB9.out.size)).alloc (Nat.le_trans HB9.out.size hb10.size) _
      have hz10 : BlkS w10 w6.heap.size (e + 1) 9 A3 k3 A4 k4 := Blk.below HZ9.out hb10 (Blk.lt HZ9.out)
      obtain ⟨⟨z0, z1, z2, z3⟩, _⟩ := BlkS.cells hz10
      have z4 := Blk.lt hz10
      have HS10 := Lib.hid (HSM.out (w10.alloc (.cells #[.int .i64 (e + 1), .int .i64 9, .slice A5 0 k5, .slice A6 0 k6] 50)) (e + 1) 9 (e + 1) 9 A5 A6 A3 A4 k5 k6 k3 k4 (ints_nil h5) (ints_nil h6) (ints_nil H3.out) (ints_nil H4.out))
      clear hz10 hb10 h5 h6 HF9 HB9
      go_wp2_with fail
      refine HS10.out.mono ?_
      rintro d w11 ⟨rfl, hb11⟩
      have HB11 : Hid (Below w.heap.size w w11) := HB10.out.trans (hb11.mono HB10.out.size)
      clear hb11
      go_wp2_with fail
      go_ret
      exact ⟨by simp, HB11.out⟩
    · go_wp2_with (go_at_call 45; refine HF5.out.mono ?_; rintro d w6 ⟨A3, k3, A4, k4, rfl, h3, h4, hb6⟩; obtain ⟨⟨⟨x0, x1, x2, x3⟩, _⟩, x4⟩ := HX5'.out w6 hb6; obtain ⟨⟨⟨y0, y1, y2, y3⟩, _⟩, y4⟩ := HY5'.out w6 hb6)
      refine (HSM.out _ e L e0 L0 A3 A4 none none k3 k4 0 0 (ints_nil h3) (ints_nil h4) (Rd.nil _ _ _ _) (Rd.nil _ _ _ _)).mono ?_
      rintro d w7 ⟨rfl, hb7⟩
      rw [hsm]
      clear hsm
      have hyy := Blk.below (Blk.below HY5.out hb6 (Blk.lt HY5.out)) (((Below.refl _ _).alloc (Nat.le_refl _) (.cells #[.int .i64 e, .int .i64 L, .slice A3 0 k3, .slice A4 0 k4] 50)).trans (hb7.mono (by simp))) y4
      obtain ⟨⟨y5, y6, y7, y8⟩, _⟩ := BlkL.cells hyy
      have hz7 : BlkS w7 w6.heap.size e L A3 k3 A4 k4 := Blk.below (Blk.new w6 50 #[.int .i64 e, .int .i64 L, .slice A3 0 k3, .slice A4 0 k4]) hb7 (by simp)
      obtain ⟨⟨z0, z1, z2, z3⟩, _⟩ := BlkS.cells hz7
      clear hyy hz7
      go_wp2_with fail
      refine (HSM.out _ e L e1 L1 A3 A4 none none k3 k4 0 0 (ints_nil h3) (ints_nil h4) (Rd.nil _ _ _ _) (Rd.nil _ _ _ _)).mono ?_
      rintro d w8 ⟨rfl, hb8⟩
      rw [hsm2]
      have hb7' := hb7
      clear hsm2 y5 y6 y7 y8 z0 z1 z2 z3 hb7
      have hb7 := hb7'.trans (hb8.mono hb7'.size)
      clear hb7' hb8
      have hz7 : BlkS w8 w6.heap.size e L A3 k3 A4 k4 := Blk.below (Blk.new w6 50 #[.int .i64 e, .int .i64 L, .slice A3 0 k3, .slice A4 0 k4]) hb7 (by simp)
      obtain ⟨⟨z0, z1, z2, z3⟩, z4, z5⟩ := BlkS.cells hz7
      have hbb : Below w5.heap.size w5 w8 := (hb6.trans (((Below.refl _ _).alloc (Nat.le_refl _) _).mono hb6.size)).trans (hb7.mono (by have := hb6.size; rw [World.size_alloc]; omega))
      have hgq : w.heap.size ≤ w6.heap.size := Nat.le_trans HB5.out.size hb6.size
      have hr7 := HR5.out.below hbb
      have HR8 : Hid (ChipR w.heap.size ((w8.setCell ⟨w6.heap.size, 0, none⟩ (.int .i64 (e + 1))).setCell ⟨w6.heap.size, 1, none⟩ (.int .i64 9)) p (c.restart how)) := (hr7.man hz7 hgq _).man (Blk.set_ hz7 0 _) hgq _
      have HZ8 : Hid (BlkS ((w8.setCell ⟨w6.heap.size, 0, none⟩ (.int .i64 (e + 1))).setCell ⟨w6.heap.size, 1, none⟩ (.int .i64 9)) w6.heap.size (e + 1) 9 A3 k3 A4 k4) := Blk.set_ (Blk.set_ hz7 0 _) 1 _
      have HB8 : Hid (Below w.heap.size w ((w8.setCell ⟨w6.heap.size, 0, none⟩ (.int .i64 (e + 1))).setCell ⟨w6.heap.size, 1, none⟩ (.int .i64 9))) := ((HB5.out.trans (hbb.mono HB5.out.size)).setCell (p := ⟨w6.heap.size, 0, none⟩) hgq _).setCell (p := ⟨w6.heap.size, 1, none⟩) hgq _
      have HN8 := Lib.hid (HN7.out _ A3 k3 A4 k4 HR8.out (ints_nil h3) (ints_nil h4))
      have H3 := Lib.hid h3
      have H4 := Lib.hid h4
      clear hz7 hbb hgq hr7 h3 h4 x0 x1 x2 x3 x4 y0 y1 y2 y3 y4 hb6 hb7
      go_wp2_with fail
      refine HN8.out.mono ?_
      rintro d w9 ⟨rfl, hr9, hf9⟩
      clear z0 z1 z2 z3 z4 z5
      have HF9 := Lib.hid (HF7.out w9 hr9)
      have HZ9 : Hid (BlkS w9 w6.heap.size (e + 1) 9 A3 k3 A4 k4) := Blk.fr HZ8.out hf9 (.inr (.inr (by decide)))
      have HB9 : Hid (Below w.heap.size w w9) := HB8.out.trans (hf9.below HB8.out.size)
      clear hr9 hf9 HZ8 HB8 HR8 HN8
      go_wp2_with fail
      refine HF9.out.mono ?_
      rintro d w10 ⟨A5, k5, A6, k6, rfl, h5, h6, hb10⟩
      have HB10 : Hid (Below w.heap.size w (w10.alloc (.cells #[.int .i64 (e + 1), .int .i64 9, .slice A5 0 k5, .slice A6 0 k6] 50))) := (HB9.out.trans (hb10.mono HB9.out.size)).alloc (Nat.le_trans HB9.out.size hb10.size) _
      have hz10 : BlkS w10 w6.heap.size (e + 1) 9 A3 k3 A4 k4 := Blk.below HZ9.out hb10 (Blk.lt HZ9.out)
      obtain ⟨⟨z0, z1, z2, z3⟩, _⟩ := BlkS.cells hz10
      have z4 := Blk.lt hz10
      have HS10 := Lib.hid (HSM.out (w10.alloc (.cells #[.int .i64 (e + 1), .int .i64 9, .slice A5 0 k5, .slice A6 0 k6] 50)) (e + 1) 9 (e + 1) 9 A5 A6 A3 A4 k5 k6 k3 k4 (ints_nil h5) (ints_nil h6) (ints_nil H3.out) (ints_nil H4.out))
      clear hz10 hb10 h5 h6 HF9 HB9
      go_wp2_with fail
      refine HS10.out.mono ?_
      rintro d w11 ⟨rfl, hb11⟩
      have HB11 : Hid (Below w.heap.size w w11) := HB10.out.trans (hb11.mono HB10.out.size)
      clear hb11
      go_wp2_with fail
      go_ret
      exact ⟨by simp, HB11.out⟩

-- CLOSING

set_option maxRecDepth 100000 in
theorem topNewest_holds : Rows.TopNewestSaid :=
  OpenClaim.holds_of_wide 9 Try.f9 rfl rfl rfl rfl rfl rfl rfl ⟨rfl, rfl, rfl, rfl, rfl⟩ rfl rfl rfl rfl rfl (by kernel_rfl) Try.func9 (by kernel_rfl)
    (of_decide_eq_true (by kernel_rfl)) (by unfold Func.isWrapper; first | (rw [if_pos (by decide +kernel)]; kernel_rfl) | (rw [if_neg (by decide +kernel)]; exact ⟨rfl, rfl⟩))
    (fun os started H enc _ => close_lifted Rows.topNewestSpec 9 Try.f9 os started H enc (by kernel_rfl) Try.func9 (by kernel_rfl) rfl
      (fun ds hd => by
        rw [Try.params9] at hd
        match ds, hd with
        | [d1, d2, d3], _ => rfl)
      (by kernel_rfl)
      (ChangeSpec.witness6 (enc := enc) (C := Try.checked) false ⟨#[], #[.slice none 0 0, .int .i64 0, .int .i64 0], []⟩ 8 (by kernel_rfl) (by kernel_rfl) (by kernel_rfl) (by kernel_rfl))
      (fun W base args ds p hval hA => by
        rw [Try.params9] at hA hval
        obtain ⟨v0, v1, v2, d0, d1, d2, p0, p1, p2, hargs, rfl, rfl, h0, h1, h2⟩ := trodAll_three hA
        obtain rfl : args = #[v0, v1, v2] := by cases args; simp_all
        obtain ⟨l0, hl0⟩ := ints_of (hval 0 _ v0 rfl rfl) h0
        obtain ⟨n1, rfl, rfl, rfl, wn1⟩ := open_int Try.underlying3 (hval 1 _ v1 rfl rfl) h1
        obtain ⟨n2, rfl, rfl, rfl, wn2⟩ := open_int Try.underlying3 (hval 2 _ v2 rfl rfl) h2
        exact topNewest_walk v0 l0 n1 n2 W hl0.1 (lit64 wn1).2 (lit64 wn1).1))
#print axioms topNewest_holds
end Go.Proofs.Ytaepdbkfaoiimab
