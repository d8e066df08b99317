/- The contract of store.Manifest. Conditions: none but those that it names. -/
import Derived.Test.YtaepdbkfaoiimacMf
set_option linter.unusedVariables false
set_option linter.unusedSimpArgs false
namespace Go.Proofs.Ytaepdbkfaoiimac
open Go.RowKit
section
variable {B g k i j : Nat} {w : World} {cs : Array Value} {a0 a1 a2 a3 b0 b1 b2 b3 x y : Value}
theorem man_two (hz : Blk w k 52 #[a0, a1, a2, a3]) (hne : k ≠ g) : Blk ((((((w.setCell ⟨g, i, none⟩ x).setCell ⟨g, j, none⟩ y).setCell ⟨k, 0, none⟩ b0).setCell ⟨k, 1, none⟩ b1).setCell ⟨k, 2, none⟩ b2).setCell ⟨k, 3, none⟩ b3) k 52 #[b0, b1, b2, b3] :=
  store4 ((hz.far (p := ⟨g, i, none⟩) hne x).far (p := ⟨g, j, none⟩) hne y) b0 b1 b2 b3
theorem ints_two {v : Value} {l : List Int} (h : Ints B w v l) (hz : Blk w k 52 #[a0, a1, a2, a3]) (hg : Blk w g 52 cs) (hne : k ≠ g) (hBg : B ≤ g) (hBk : B ≤ k) : Ints B ((((((w.setCell ⟨g, i, none⟩ x).setCell ⟨g, j, none⟩ y).setCell ⟨k, 0, none⟩ b0).setCell ⟨k, 1, none⟩ b1).setCell ⟨k, 2, none⟩ b2).setCell ⟨k, 3, none⟩ b3) v l := by
  have h1 := Rd.far' (o := i) h hg hBg (by decide) x
  have h2 := Rd.far' (o := j) h1 (hg.set_ i x) hBg (by decide) y
  have hz2 := (hz.far (p := ⟨g, i, none⟩) hne x).far (p := ⟨g, j, none⟩) hne y
  exact Rd.far' (Rd.far' (Rd.far' (Rd.far' h2 hz2 hBk (by decide) _) (hz2.set_ 0 _) hBk (by decide) _) ((hz2.set_ 0 _).set_ 1 _) hBk (by decide) _) (((hz2.set_ 0 _).set_ 1 _).set_ 2 _) hBk (by decide) _
theorem below_two {n : Nat} {w0 : World} (h : Below n w0 w) (hg : n ≤ g) (hk : n ≤ k) : Below n w0 ((((((w.setCell ⟨g, i, none⟩ x).setCell ⟨g, j, none⟩ y).setCell ⟨k, 0, none⟩ b0).setCell ⟨k, 1, none⟩ b1).setCell ⟨k, 2, none⟩ b2).setCell ⟨k, 3, none⟩ b3) :=
  below4 ((h.setCell (p := ⟨g, i, none⟩) hg x).setCell (p := ⟨g, j, none⟩) hg y) hk b0 b1 b2 b3
end
set_option maxRecDepth 20000 in
set_option maxHeartbeats 4000000 in
theorem sman_any (B : Nat) (q p : Nat) (s : SM) (F : List Nat) (w : World) (h : StoreR B w q p s F) (h1 : s.m.nw.length ≤ 1000) (h2 : s.m.od.length ≤ 1000) :
    Calls Try.prog 23 #[.pointer (some ⟨q, 0, none⟩)] w fun e w' => ∃ A3 c3 A4 c4, e = .returned (.agg #[.int .i64 s.m.ep, .int .i64 s.m.log, .slice A3 s.m.nw.length c3, .slice A4 s.m.od.length c4]) ∧ Ints B w' (.slice A3 s.m.nw.length c3) s.m.nw ∧ Ints B w' (.slice A4 s.m.od.length c4) s.m.od ∧ Below w.heap.size w w' := by
  have fin : ∀ (wr : World) (tmps : Array Value) (A3 A4 : Option Addr) (c3 c4 : Nat), Blk wr w.heap.size 52 #[.int .i64 s.m.ep, .int .i64 s.m.log, .slice A3 s.m.nw.length c3, .slice A4 s.m.od.length c4] → Ints B wr (.slice A3 s.m.nw.length c3) s.m.nw → Ints B wr (.slice A4 s.m.od.length c4) s.m.od → Below w.heap.size w wr → tmps[2]? = some (.pointer (some ⟨w.heap.size, 0, none⟩)) →
      bodyPost Try.prog Try.f23 (fun e w' => ∃ A3 c3 A4 c4, e = .returned (.agg #[.int .i64 s.m.ep, .int .i64 s.m.log, .slice A3 s.m.nw.length c3, .slice A4 s.m.od.length c4]) ∧ Ints B w' (.slice A3 s.m.nw.length c3) s.m.nw ∧ Ints B w' (.slice A4 s.m.od.length c4) s.m.od ∧ Below w.heap.size w w') .ret { tmps := tmps, defers := [] } wr := by
    intro wr tmps A3 A4 c3 c4 hk h3 h4 hb t2
    have y0 := hk.cell 0
    have y1 := hk.cell 1
    have y2 := hk.cell 2
    have y3 := hk.cell 3
    simp at y0 y1 y2 y3
    exact bodyPost_ret (v := .agg #[.int .i64 s.m.ep, .int .i64 s.m.log, .slice A3 s.m.nw.length c3, .slice A4 s.m.od.length c4]) (by simp [results, Try.results23, go_sem, t2, y0, y1, y2, y3]) rfl ⟨A3, c3, A4, c4, rfl, h3, h4, hb⟩
  have FIN := Lib.hid fin
  clear fin
  have hlt := h.lt
  obtain ⟨A1, c1, A2, c2, t, n, hk, hn, ho, _, hB, _⟩ := h
  have x1 := hk.cell 1
  have x2 := hk.cell 2
  have x3 := hk.cell 3
  have x4 := hk.cell 4
  simp at x1 x2 x3 x4
  have hb2 : Below w.heap.size w ((w.alloc (.cells #[.int .i64 0, .int .i64 0, .slice none 0 0, .slice none 0 0] 52)).alloc (.cells #[.int .i64 s.m.ep, .int .i64 s.m.log, .slice A1 s.m.nw.length c1, .slice A2 s.m.od.length c2] 52)) := ((Below.refl _ _).alloc (Nat.le_refl _) _).alloc (by simp) _
  have hg : Blk ((w.alloc (.cells #[.int .i64 0, .int .i64 0, .slice none 0 0, .slice none 0 0] 52)).alloc (.cells #[.int .i64 s.m.ep, .int .i64 s.m.log, .slice A1 s.m.nw.length c1, .slice A2 s.m.od.length c2] 52)) (w.heap.size + 1) 52 #[.int .i64 s.m.ep, .int .i64 s.m.log, .slice A1 s.m.nw.length c1, .slice A2 s.m.od.length c2] := by
    have := Blk.new (w.alloc (.cells #[.int .i64 0, .int .i64 0, .slice none 0 0, .slice none 0 0] 52)) 52 #[.int .i64 s.m.ep, .int .i64 s.m.log, .slice A1 s.m.nw.length c1, .slice A2 s.m.od.length c2]
    rw [World.size_alloc] at this
    exact this
  have hz : Blk ((w.alloc (.cells #[.int .i64 0, .int .i64 0, .slice none 0 0, .slice none 0 0] 52)).alloc (.cells #[.int .i64 s.m.ep, .int .i64 s.m.log, .slice A1 s.m.nw.length c1, .slice A2 s.m.od.length c2] 52)) w.heap.size 52 #[.int .i64 0, .int .i64 0, .slice none 0 0, .slice none 0 0] := (Blk.new w _ _).alloc _
  have HN := Lib.hid (fun W (hW : Below w.heap.size w W) => hn.below hW)
  have HO := Lib.hid (fun W (hW : Below w.heap.size w W) => ho.below hW)
  have HB2 := Lib.hid hb2
  have HG := Lib.hid hg
  have HZ := Lib.hid hz
  clear hk hn ho hb2 hg hz
  go_enter Try.func23, Try.ntmps23
  go_wp2_with fail
  generalize hW : ((w.alloc (.cells #[.int .i64 0, .int .i64 0, .slice none 0 0, .slice none 0 0] 52)).alloc (.cells #[.int .i64 s.m.ep, .int .i64 s.m.log, .slice A1 s.m.nw.length c1, .slice A2 s.m.od.length c2] 52)) = W at *
  have HBW := Lib.hid (fun W' (h : Below W.heap.size W W') => HB2.out.trans (h.mono HB2.out.size))
  have hgl := HG.out.lt
  have g0 := HG.out.cell 0
  have g1 := HG.out.cell 1
  have g2 := HG.out.cell 2
  have g3 := HG.out.cell 3
  have f2 := HG.out.frozen 2
  have f3 := HG.out.frozen 3
  simp at g0 g1 g2 g3
  have HC1 := Lib.hid (clone_any B _ s.m.nw W.drew (HN.out _ HB2.out.drew) (by omega))
  clear x1 x2 x3 x4 hW
  go_region_with (first
    | (go_at_call 45; refine (clone_any B _ s.m.od w4 (HO.out _ hb4) (by omega)).mono ?_; rintro e w5 ⟨v5, rfl, hv5, hb5⟩; obtain ⟨A4, c4, rfl, _, _, _⟩ := hv5.form; have hb45 := hb4.trans (hb5.mono hb4.size); have hg5 := hg4.below hb5 hg4.lt; have hl5 := hg5.lt; have p2 := hg5.cell 2; have p3 := hg5.cell 3; have r2 := hg5.frozen 2; have r3 := hg5.frozen 3; simp at p2 p3)
    | (go_at_call 45; refine HC1.out.mono ?_; rintro e w4 ⟨v4, rfl, hv4, hb4'⟩; obtain ⟨A3, c3, rfl, _, _, _⟩ := hv4.form; have hb4 := HB2.out.drew.trans (hb4'.mono HB2.out.size); have hg4 := (HG.out.drewN 1).below hb4' hgl; have hl4 := hg4.lt; have o2 := hg4.cell 2; have o3 := hg4.cell 3; have q2 := hg4.frozen 2; have q3 := hg4.frozen 3; simp at o2 o3))
  all_goals
    have hz5 := ((HZ.out.drewN 1).below hb4' (show w.heap.size < W.heap.size by have := HZ.out.lt; exact this)).below hb5 (Nat.lt_of_lt_of_le HZ.out.lt hb4'.size)
    have z0 := hz5.cell 0
    have z1 := hz5.cell 1
    have z2 := hz5.cell 2
    have z3 := hz5.cell 3
    have z4 := hz5.frozen 0
    have z5 := hz5.frozen 1
    have z6 := hz5.frozen 2
    have z7 := hz5.frozen 3
    simp at z0 z1 z2 z3
    have p0 := hg5.cell 0
    have p1 := hg5.cell 1
    simp at p0 p1
    have H5 := Lib.hid (And.intro hz5 (And.intro hg5 (And.intro (hv4.below hb5) (And.intro hv5 hb45))))
    have HBW0 : Hid (B ≤ w.heap.size) := by have := hB; have := hlt; exact Nat.le_trans hB (Nat.le_of_lt hlt)
    have HGB : Hid (B ≤ w.heap.size + 1) := Nat.le_trans HBW0.out (Nat.le_succ _)
    clear hz5 hg5 hv4 hv5 hb45 hb5 hb4 hb4' hg4 o2 o3 q2 q3
    go_wp2_with fail
    exact FIN.out _ _ A3 A4 c3 c4 (man_two H5.out.1 (by omega)) (ints_two H5.out.2.2.1 H5.out.1 H5.out.2.1 (by omega) HGB.out HBW0.out) (ints_two H5.out.2.2.2.1 H5.out.1 H5.out.2.1 (by omega) HGB.out HBW0.out) (below_two H5.out.2.2.2.2 (by omega) (Nat.le_refl _)) rfl
end Go.Proofs.Ytaepdbkfaoiimac
