/- The contract of manifest.Parse. Conditions: none but the sizes of any memory. -/
import Derived.Test.YtaepdbkfaoiimaaMan
set_option linter.unusedVariables false
set_option linter.unusedSimpArgs false
namespace Go.Proofs.Ytaepdbkfaoiimaa
open Go.RowKit
attribute [local go_sem] bt_idx bt_wrap bt_extract

def merr (s : ByteArray) : Nat := if manOf s = none then 4 else 0
theorem own_other {w w' : World} {base e size n : Nat} {v : Value} {xs : List Value} {row : Option Nat} (h : w.ownsRow base e size v n xs) (hg : w.grownBy w' row) (hr : ∀ g, v.ownBlock = some g → row ≠ some g) : w'.ownsRow base e size v n xs := by
  refine ⟨h.1, ?_⟩
  rcases h.2 with hn | ⟨g, cap, cur, h1, hg', hh, hrest⟩
  · exact .inl hn
  · exact .inr ⟨g, cap, cur, h1, hg', (hg.block g (heap_lt hh) (hr g (by rw [h1]; rfl)).symm).trans hh, hrest⟩
theorem blk_other {w w' : World} {g T e base size n : Nat} {cs : Array Value} {u : Value} {xs : List Value} (h : Blk w g T cs) (ho : w.ownsRow base e size u n xs) (he : e ≠ T) (hg : w.grownBy w' u.ownBlock) : Blk w' g T cs :=
  (hg.block g h.lt fun e' => by
    obtain ⟨c, hc⟩ := own_type ho e'.symm
    unfold Blk at h
    rw [h] at hc
    injection hc with hc
    injection hc with _ e2
    exact he e2.symm).trans h

theorem store4 {w : World} {g : Nat} {T : TypeId} {a0 a1 a2 a3 : Value} (h : Blk w g T #[a0, a1, a2, a3]) (b0 b1 b2 b3 : Value) :
    Blk ((((w.setCell ⟨g, 0, none⟩ b0).setCell ⟨g, 1, none⟩ b1).setCell ⟨g, 2, none⟩ b2).setCell ⟨g, 3, none⟩ b3) g T #[b0, b1, b2, b3] := (((h.set_ 0 _).set_ 1 _).set_ 2 _).set_ 3 _
theorem below4 {n g : Nat} {w w' : World} (h : Below n w w') (hg : n ≤ g) (b0 b1 b2 b3 : Value) :
    Below n w ((((w'.setCell ⟨g, 0, none⟩ b0).setCell ⟨g, 1, none⟩ b1).setCell ⟨g, 2, none⟩ b2).setCell ⟨g, 3, none⟩ b3) :=
  (((h.setCell (p := ⟨g, 0, none⟩) hg _).setCell (p := ⟨g, 1, none⟩) hg _).setCell (p := ⟨g, 2, none⟩) hg _).setCell (p := ⟨g, 3, none⟩) hg _
theorem blk_far4 {w : World} {g g' : Nat} {T : TypeId} {cs : Array Value} (h : Blk w g T cs) (hne : g ≠ g') (b0 b1 b2 b3 : Value) :
    Blk ((((w.setCell ⟨g', 0, none⟩ b0).setCell ⟨g', 1, none⟩ b1).setCell ⟨g', 2, none⟩ b2).setCell ⟨g', 3, none⟩ b3) g T cs :=
  (((h.far (p := ⟨g', 0, none⟩) hne _).far (p := ⟨g', 1, none⟩) hne _).far (p := ⟨g', 2, none⟩) hne _).far (p := ⟨g', 3, none⟩) hne _
theorem range_at {α : Type} (f : Nat → α) {n k : Nat} (h : k < n) : ((List.range n).map f).take (k + 1) = ((List.range n).map f).take k ++ [f k] := by
  have h1 : k < ((List.range n).map f).length := by simpa using h
  rw [List.take_succ_eq_append_getElem h1]
  simp
theorem own_ne_blk {w : World} {base e size n g T : Nat} {v : Value} {xs : List Value} {cs : Array Value} (h : w.ownsRow base e size v n xs) (hb : Blk w g T cs) (he : e ≠ T) : v.ownBlock ≠ some g := fun e' => by
  obtain ⟨c, hc⟩ := own_type h e'
  unfold Blk at hb
  rw [hb] at hc
  injection hc with hc
  injection hc with _ e2
  exact he e2.symm
theorem own_blt {w : World} {base e size n g : Nat} {v : Value} {xs : List Value} (h : w.ownsRow base e size v n xs) (hg : v.ownBlock = some g) : g < w.heap.size := by
  obtain ⟨c, hc⟩ := own_type h hg
  exact heap_lt hc
/-- One row of numbers grows by one, its slice lies in block G; another row and another block stay. -/
theorem step_rows {wr w4 : World} {base G R n1 n2 n4 i : Nat} {v1 v2 v4 x : Value} {xs1 xs2 xs4 : List Value} {csG csR : Array Value} (hG : Blk wr G 91 csG) (hR : Blk wr R 91 csR)
    (h1 : wr.ownsRow base 3 1 v1 n1 xs1) (h2 : wr.ownsRow base 3 1 v2 n2 xs2) (hne : ∀ g, v1.ownBlock = some g → v2.ownBlock ≠ some g)
    (hg : (wr.alloc (.cells #[x] 3)).grownBy w4 v1.ownBlock) (h4 : w4.ownsRow base 3 1 v4 n4 xs4) (hat : v4.ownBlock = v1.ownBlock ∨ v4.ownBlock = some (wr.alloc (.cells #[x] 3)).heap.size) (hGR : R ≠ G) :
    Blk (w4.setCell ⟨G, i, none⟩ v4) G 91 (csG.setIfInBounds i v4) ∧ Blk (w4.setCell ⟨G, i, none⟩ v4) R 91 csR ∧ (w4.setCell ⟨G, i, none⟩ v4).ownsRow base 3 1 v4 n4 xs4 ∧
      (w4.setCell ⟨G, i, none⟩ v4).ownsRow base 3 1 v2 n2 xs2 ∧ (∀ g, v4.ownBlock = some g → v2.ownBlock ≠ some g) := by
  have hG4 := blk_other (hG.alloc (.cells #[x] 3)) (own_alloc h1 (.cells #[x] 3)) (by decide) hg
  have hR4 := blk_other (hR.alloc (.cells #[x] 3)) (own_alloc h1 (.cells #[x] 3)) (by decide) hg
  have h24 := own_other (own_alloc h2 (.cells #[x] 3)) hg (fun g e1 e2 => hne g e2 e1)
  refine ⟨hG4.set_ _ _, hR4.far (p := ⟨G, i, none⟩) hGR _, ownsRow_setCell_other h4 (a := ⟨G, i, none⟩) (own_ne_blk h4 hG4 (by decide)) _, ownsRow_setCell_other h24 (a := ⟨G, i, none⟩) (own_ne_blk h24 hG4 (by decide)) _, fun g e1 e2 => ?_⟩
  rcases hat with hat | hat
  · exact hne g (hat ▸ e1) e2
  · have := own_blt h2 e2
    rw [hat] at e1
    injection e1 with e1
    rw [World.size_alloc] at e1
    omega
theorem Rd.far' {B T sz n : Nat} {w : World} {v : Value} {xs : List Value} (h : Rd B T sz w v n xs) {g o : Nat} {cs : Array Value} {T' : TypeId} {fz : Nat × Nat} (hg : w.heap[g]? = some (.cells cs T' fz)) (hB : B ≤ g) (hT : T' ≠ T) (x : Value) :
    Rd B T sz (w.setCell ⟨g, o, none⟩ x) v n xs := by
  refine h.keep fun k hk hlt => Below.heap_setCell _ _ _ _ fun e => ?_
  have e' : k = g := e
  subst e'
  rcases hk with hk | ⟨cs', fz', hk⟩
  · omega
  · rw [hg] at hk
    injection hk with hk
    injection hk with _ e
    exact hT e
theorem ints_far4 {w : World} {g B : Nat} {v : Value} {l : List Int} {cs : Array Value} (h : Ints 0 w v l) (hb : Blk w g 91 cs) (b0 b1 b2 b3 : Value) :
    Ints B ((((w.setCell ⟨g, 0, none⟩ b0).setCell ⟨g, 1, none⟩ b1).setCell ⟨g, 2, none⟩ b2).setCell ⟨g, 3, none⟩ b3) v l :=
  Rd.mono (Rd.far' (Rd.far' (Rd.far' (Rd.far' h hb (Nat.zero_le _) (by decide) _) (hb.set_ 0 _) (Nat.zero_le _) (by decide) _) ((hb.set_ 0 _).set_ 1 _) (Nat.zero_le _) (by decide) _) (((hb.set_ 0 _).set_ 1 _).set_ 2 _) (Nat.zero_le _) (by decide) _) (Nat.zero_le B)
set_option maxRecDepth 20000 in
set_option maxHeartbeats 8000000 in
theorem mparse_any (B : Nat) (s : ByteArray) (w : World) (hs : s.size ≤ 9223372036854775807) :
    Calls Try.prog 61 #[.string s] w fun e w' => ∃ v, e = .returned (.tuple #[v, errV (merr s)]) ∧ ManV B w' v ((manOf s).getD Man.zero) ∧ Below w.heap.size w w' := by
  have finN : ∀ (wr : World) (tmps : Array Value), manOf s = none → Below w.heap.size w wr → Blk wr w.heap.size 91 #[.int .i64 0, .int .i64 0, .slice none 0 0, .slice none 0 0] → tmps[2]? = some (.pointer (some ⟨w.heap.size, 0, none⟩)) → tmps[3]? = some (errV 4) →
      bodyPost Try.prog Try.f61 (fun e w' => ∃ v, e = .returned (.tuple #[v, errV (merr s)]) ∧ ManV B w' v ((manOf s).getD Man.zero) ∧ Below w.heap.size w w') .ret { tmps := tmps, defers := [] } wr := by
    intro wr tmps hn hb hk t2 t3
    have y0 := hk.cell 0
    have y1 := hk.cell 1
    have y2 := hk.cell 2
    have y3 := hk.cell 3
    simp at y0 y1 y2 y3
    refine bodyPost_ret (v := .tuple #[.agg #[.int .i64 0, .int .i64 0, .slice none 0 0, .slice none 0 0], errV 4]) (by simp [results, Try.results61, go_sem, t2, t3, y0, y1, y2, y3]) rfl ⟨_, by rw [merr, if_pos hn], by rw [hn]; exact ManV.zero _ _, hb⟩
  have finS : ∀ (wr : World) (tmps : Array Value) (a0 a1 : Int) (a2 a3 : Value), manOf s = some (manAt s) → Below w.heap.size w wr → Blk wr w.heap.size 91 #[.int .i64 a0, .int .i64 a1, a2, a3] → ManV B wr (.agg #[.int .i64 a0, .int .i64 a1, a2, a3]) (manAt s) → (∃ A n c, a2 = .slice A n c) → (∃ A n c, a3 = .slice A n c) → tmps[2]? = some (.pointer (some ⟨w.heap.size, 0, none⟩)) → tmps[3]? = some .nilIface →
      bodyPost Try.prog Try.f61 (fun e w' => ∃ v, e = .returned (.tuple #[v, errV (merr s)]) ∧ ManV B w' v ((manOf s).getD Man.zero) ∧ Below w.heap.size w w') .ret { tmps := tmps, defers := [] } wr := by
    rintro wr tmps a0 a1 _ _ hn hb hk hm ⟨A2, n2, c2, rfl⟩ ⟨A3, n3, c3, rfl⟩ t2 t3
    have y0 := hk.cell 0
    have y1 := hk.cell 1
    have y2 := hk.cell 2
    have y3 := hk.cell 3
    simp at y0 y1 y2 y3
    refine bodyPost_ret (v := .tuple #[.agg #[.int .i64 a0, .int .i64 a1, .slice A2 n2 c2, .slice A3 n3 c3], .nilIface]) (by simp [results, Try.results61, go_sem, t2, t3, y0, y1, y2, y3]) rfl ⟨_, by rw [merr, if_neg (by rw [hn]; simp)]; rfl, by rw [hn]; exact hm, hb⟩
  have FIN2 := Lib.hid finS
  clear finS
  have FIN := Lib.hid finN
  clear finN
  by_cases b1 : s.size < 7
  · have HN : Hid (manOf s = none) := by rw [Hid, manOf, if_pos (.inl b1)]
    have t1 : decide ((s.size : Int) < 7) = true := decide_eq_true (by omega)
    clear b1
    go_enter Try.func61, Try.ntmps61
    go_wp2_with fail
    go_quiet (fail)
    go_wp2_with fail
    exact FIN.out _ _ HN.out (below4 (below_drewN' ((Below.refl w.heap.size w).alloc (Nat.le_refl _) _) nq) (Nat.le_refl _) _ _ _ _) (store4 (Blk.drewN (Blk.new w 91 #[.int .i64 0, .int .i64 0, .slice none 0 0, .slice none 0 0]) nq) _ _ _ _) rfl rfl
  have t1 : decide ((s.size : Int) < 7) = false := decide_eq_false (by omega)
  have j0 : 0 < s.size := by omega
  have j1 : (1 : Int) < (s.size : Int) := by omega
  have j2 : (2 : Int) < (s.size : Int) := by omega
  have j3 : (3 : Int) < (s.size : Int) := by omega
  have j4 : (4 : Int) < (s.size : Int) := by omega
  have j5 : (5 : Int) < (s.size : Int) := by omega
  have j6 : (6 : Int) < (s.size : Int) := by omega
  by_cases b2 : bt s 0 ≠ 77
  · have HN : Hid (manOf s = none) := by rw [Hid, manOf, if_pos (.inr (.inl b2))]
    have t2 : ((bt s 0 : Int) != 77) = true := by rw [bne_iff_ne]; omega
    clear b2
    go_enter Try.func61, Try.ntmps61
    go_wp2_with fail
    go_quiet (fail)
    go_wp2_with fail
    exact FIN.out _ _ HN.out (below4 (below_drewN' ((Below.refl w.heap.size w).alloc (Nat.le_refl _) _) nq) (Nat.le_refl _) _ _ _ _) (store4 (Blk.drewN (Blk.new w 91 #[.int .i64 0, .int .i64 0, .slice none 0 0, .slice none 0 0]) nq) _ _ _ _) rfl rfl
  have b2' : bt s 0 = 77 := by omega
  have t2 : ((bt s 0 : Int) != 77) = false := by rw [b2']; rfl
  have t2' : ((bt s 0 : Int) == 77) = true := by rw [b2']; rfl
  by_cases b3 : s.size < 7 + bt s 5 + bt s 6
  · have HN : Hid (manOf s = none) := by rw [Hid, manOf, if_pos (.inr (.inr b3))]
    have t3 : decide ((s.size : Int) < 7 + (bt s 5 : Int) + (bt s 6 : Int)) = true := decide_eq_true (by omega)
    have l5 := bt_lt s 5
    have l6 := bt_lt s 6
    clear b2 b2' b3
    go_enter Try.func61, Try.ntmps61
    go_wp2_with fail
    go_quiet (fail)
    go_wp2_with fail
    exact FIN.out _ _ HN.out (below4 (below_drewN' ((Below.refl w.heap.size w).alloc (Nat.le_refl _) _) nq) (Nat.le_refl _) _ _ _ _) (store4 (Blk.drewN (Blk.new w 91 #[.int .i64 0, .int .i64 0, .slice none 0 0, .slice none 0 0]) nq) _ _ _ _) rfl rfl
  have HMO : Hid (manOf s = if (manAt s).fault = 0 then some (manAt s) else none) := by rw [Hid, manOf, if_neg (by omega)]
  have t3 : decide ((s.size : Int) < 7 + (bt s 5 : Int) + (bt s 6 : Int)) = false := decide_eq_false (by omega)
  have l1 := bt_lt s 1
  have l2 := bt_lt s 2
  have l3 := bt_lt s 3
  have l4 := bt_lt s 4
  have l5 := bt_lt s 5
  have l6 := bt_lt s 6
  have HB3 : Hid (7 + bt s 5 + bt s 6 ≤ s.size) := by rw [Hid]; omega
  clear b2 b2' b3
  go_enter Try.func61, Try.ntmps61
  go_wp2_with fail
  go_quiet (fail)
  go_wp2_with fail
  have hnb := Blk.new ((w.alloc (.cells #[.int .i64 0, .int .i64 0, .slice none 0 0, .slice none 0 0] 91)).drewN (nq + 1)) 91 #[.int .i64 0, .int .i64 0, .slice none 0 0, .slice none 0 0]
  have k0 := hnb.cell 0
  have k1 := hnb.cell 1
  have k2 := hnb.cell 2
  have k3 := hnb.cell 3
  have z0 := hnb.frozen 0
  have z1 := hnb.frozen 1
  have z2 := hnb.frozen 2
  have z3 := hnb.frozen 3
  simp at k0 k1 k2 k3 z0 z1 z2 z3
  clear hnb
  have HNQ : Hid (nq = nq) := rfl
  go_region
  clear k0 k1 k2 k3 z0 z1 z2 z3
  have hb2 : Below w.heap.size w (((w.alloc (.cells #[.int .i64 0, .int .i64 0, .slice none 0 0, .slice none 0 0] 91)).drewN (nq + 1)).alloc (.cells #[.int .i64 ((bt s 1 : Int) + 256 * (bt s 2 : Int) + 65536 * (bt s 3 : Int)), .int .i64 (bt s 4 : Int), .slice none 0 0, .slice none 0 0] 91)) := (below_drewN' ((Below.refl w.heap.size w).alloc (Nat.le_refl _) _) (nq + 1)).alloc (by simp) _
  have hk2 : Blk (((w.alloc (.cells #[.int .i64 0, .int .i64 0, .slice none 0 0, .slice none 0 0] 91)).drewN (nq + 1)).alloc (.cells #[.int .i64 ((bt s 1 : Int) + 256 * (bt s 2 : Int) + 65536 * (bt s 3 : Int)), .int .i64 (bt s 4 : Int), .slice none 0 0, .slice none 0 0] 91)) (w.heap.size + 1) 91 #[.int .i64 ((bt s 1 : Int) + 256 * (bt s 2 : Int) + 65536 * (bt s 3 : Int)), .int .i64 (bt s 4 : Int), .slice none 0 0, .slice none 0 0] := by
    have h := Blk.new ((w.alloc (.cells #[.int .i64 0, .int .i64 0, .slice none 0 0, .slice none 0 0] 91)).drewN (nq + 1)) 91 #[.int .i64 ((bt s 1 : Int) + 256 * (bt s 2 : Int) + 65536 * (bt s 3 : Int)), .int .i64 (bt s 4 : Int), .slice none 0 0, .slice none 0 0]
    have e : ((w.alloc (.cells #[.int .i64 0, .int .i64 0, .slice none 0 0, .slice none 0 0] 91)).drewN (nq + 1)).heap.size = w.heap.size + 1 := World.size_alloc w _
    rw [e] at h
    exact h
  have hr2 : Blk (((w.alloc (.cells #[.int .i64 0, .int .i64 0, .slice none 0 0, .slice none 0 0] 91)).drewN (nq + 1)).alloc (.cells #[.int .i64 ((bt s 1 : Int) + 256 * (bt s 2 : Int) + 65536 * (bt s 3 : Int)), .int .i64 (bt s 4 : Int), .slice none 0 0, .slice none 0 0] 91)) w.heap.size 91 #[.int .i64 0, .int .i64 0, .slice none 0 0, .slice none 0 0] := (Blk.drewN (Blk.new w 91 #[.int .i64 0, .int .i64 0, .slice none 0 0, .slice none 0 0]) (nq + 1)).alloc _
  generalize (((w.alloc (.cells #[.int .i64 0, .int .i64 0, .slice none 0 0, .slice none 0 0] 91)).drewN (nq + 1)).alloc (.cells #[.int .i64 ((bt s 1 : Int) + 256 * (bt s 2 : Int) + 65536 * (bt s 3 : Int)), .int .i64 (bt s 4 : Int), .slice none 0 0, .slice none 0 0] 91)) = w2 at *
  have HB2 := Lib.hid hb2
  have HK2 := Lib.hid hk2
  have HR2 := Lib.hid hr2
  clear hb2 hk2 hr2 HNQ
  go_wp2_with fail
  go_quiet (fail)
  go_wp2_with fail
  go_loopw [54] (fun i wr => ∃ (k : Nat) (vN vO : Value), i = .int .i64 (k : Int) ∧ k ≤ bt s 5 + bt s 6 ∧ Hid (Blk wr (w.heap.size + 1) 91 #[.int .i64 ((bt s 1 : Int) + 256 * (bt s 2 : Int) + 65536 * (bt s 3 : Int)), .int .i64 (bt s 4 : Int), vN, vO]) ∧ Hid (Blk wr w.heap.size 91 #[.int .i64 0, .int .i64 0, .slice none 0 0, .slice none 0 0]) ∧
      Hid (wr.ownsRow w.heap.size 3 1 vN (min k (bt s 5)) (((manAt s).nw.take k).map (.int .i64))) ∧ Hid (wr.ownsRow w.heap.size 3 1 vO (k - bt s 5) (((manAt s).od.take (k - bt s 5)).map (.int .i64))) ∧ Hid (∀ g, vN.ownBlock = some g → vO.ownBlock ≠ some g) ∧ Below w.heap.size w wr) (fun i _ => bt s 5 + bt s 6 - (intOf i).toNat)
  case atStart => exact ⟨0, .slice none 0 0, .slice none 0 0, rfl, Nat.zero_le _, Blk.drewN HK2.out _, Blk.drewN HR2.out _, by rw [Hid]; simpa using World.ownsRow_nil _ _ _ _, by rw [Hid]; simpa using World.ownsRow_nil _ _ _ _, fun g h => by (cases h), below_drewN' HB2.out _⟩
  case round =>
    obtain ⟨k, vN, vO, rfl, hk, hm, hres, hoN, hoO, hne, hbl⟩ := hrel
    obtain ⟨AN, cN, rfl⟩ := rd_form' (Rd.of_own (B := 0) hoN.out)
    obtain ⟨AO, cO, rfl⟩ := rd_form' (Rd.of_own (B := 0) hoO.out)
    have y0 := hm.out.cell 0
    have y1 := hm.out.cell 1
    have y2 := hm.out.cell 2
    have y3 := hm.out.cell 3
    have f2 := hm.out.frozen 2
    have f3 := hm.out.frozen 3
    have hml := hm.out.lt
    have HM2 := Lib.hid hm.out
    simp at y0 y1 y2 y3
    by_cases hlt : k < bt s 5 + bt s 6
    · have i0 : (0 : Int) ≤ 7 + (k : Int) := by omega
      have i1 : 7 + (k : Int) < (s.size : Int) := by have := HB3.out; omega
      have i2 : (7 + (k : Int)).toNat = 7 + k := by omega
      have i3 : 7 + k < s.size := by have := HB3.out; omega
      have l7 := bt_lt s (7 + k)
      have hbs := hbl.size
      obtain ⟨ii, hi, hz0, hz1, hz2⟩ := info_parts info_int
      have hone := Lib.hid (Rd.of_own (B := B) (own_one (base := 0) (Blk.new wr 3 #[.int .i64 (bt s (7 + k) : Int)]) (by omega)))
      have HB' := Lib.hid (hbl.alloc hbl.size (.cells #[.int .i64 (bt s (7 + k) : Int)] 3))
      have HI2 := Lib.hid i2
      clear i2
      by_cases hN : k < bt s 5
      · have t5 : decide ((k : Int) < (bt s 5 : Int)) = true := decide_eq_true (by omega)
        have hown' := Lib.hid (own_alloc hoN.out (.cells #[.int .i64 (bt s (7 + k) : Int)] 3))
        have hmn : min k (bt s 5) ≤ 1000000 := by omega
        go_wp2_with (at_builtin; go_loud (refine wpList_append_rd _ rfl (.tmp 68) (.tmp 70) 41 rfl w.heap.size 3 ii _ 1 8 Try.underlying41 hi hz0 hz1 hz2 rfl (by decide) _ _ _ rfl hown'.out B 3 _ 1 _ rfl hone.out (by simp [Value.oneCell']) (by unfold maxLen; omega) (by omega) (by simp; omega) ?_); intro v4 w4 hown4 hg4 hat4; have hst := step_rows (i := 2) hm.out hres.out hoN.out hoO.out hne.out hg4 hown4 hat4 (by omega); have hb4 := below_own HB'.out (Nat.le_refl _) hown'.out hg4; obtain ⟨A4, c4, rfl⟩ := rd_form' (Rd.of_own (B := 0) hown4); have hG4 := blk_other (hm.out.alloc (.cells #[.int .i64 (bt s (7 + k) : Int)] 3)) hown'.out (by decide) hg4; have q2 := hG4.cell 2; have q3 := hG4.frozen 2; simp at q2; have HST := Lib.hid hst; have HB4 := Lib.hid hb4; clear hst hb4 hG4 hown4 hg4 hat4)
        go_roundw
        case rel =>
          obtain ⟨r1, r2, r3, r4, r5⟩ := HST.out
          refine ⟨k + 1, _, _, by go_num, by omega, r1, r2, ?_, ?_, r5, HB4.out.setCell (p := ⟨w.heap.size + 1, 2, none⟩) (by show w.heap.size ≤ w.heap.size + 1; omega) _⟩
          · rw [Hid, show (manAt s).nw.take (k + 1) = (manAt s).nw.take k ++ [(bt s (7 + k) : Int)] from range_at _ hN, show min (k + 1) (bt s 5) = min k (bt s 5) + 1 by omega]
            simpa using r3
          · rw [Hid, show k + 1 - bt s 5 = k - bt s 5 by omega]
            exact r4
        case measure => simp [intOf] <;> omega
      · have t5 : decide ((k : Int) < (bt s 5 : Int)) = false := decide_eq_false (by omega)
        have hown' := Lib.hid (own_alloc hoO.out (.cells #[.int .i64 (bt s (7 + k) : Int)] 3))
        have hmn : k - bt s 5 ≤ 1000000 := by omega
        have hne2 : Hid (∀ g, (Value.slice AO (k - bt s 5) cO).ownBlock = some g → (Value.slice AN (min k (bt s 5)) cN).ownBlock ≠ some g) := fun g e1 e2 => hne.out g e2 e1
        go_wp2_with (at_builtin; go_loud (refine wpList_append_rd _ rfl (.tmp 74) (.tmp 76) 41 rfl w.heap.size 3 ii _ 1 8 Try.underlying41 hi hz0 hz1 hz2 rfl (by decide) _ _ _ rfl hown'.out B 3 _ 1 _ rfl hone.out (by simp [Value.oneCell']) (by unfold maxLen; omega) (by omega) (by simp; omega) ?_); intro v4 w4 hown4 hg4 hat4; have hst := step_rows (i := 3) hm.out hres.out hoO.out hoN.out hne2.out hg4 hown4 hat4 (by omega); have hb4 := below_own HB'.out (Nat.le_refl _) hown'.out hg4; obtain ⟨A4, c4, rfl⟩ := rd_form' (Rd.of_own (B := 0) hown4); have hG4 := blk_other (hm.out.alloc (.cells #[.int .i64 (bt s (7 + k) : Int)] 3)) hown'.out (by decide) hg4; have q2 := hG4.cell 3; have q3 := hG4.frozen 3; simp at q2; have HST := Lib.hid hst; have HB4 := Lib.hid hb4; clear hst hb4 hG4 hown4 hg4 hat4)
        go_roundw
        case rel =>
          obtain ⟨r1, r2, r3, r4, r5⟩ := HST.out
          have hk2 : k - bt s 5 < bt s 6 := by omega
          have e7 : 7 + bt s 5 + (k - bt s 5) = 7 + k := by omega
          refine ⟨k + 1, _, _, by go_num, by omega, r1, r2, ?_, ?_, fun g e1 e2 => r5 g e2 e1, HB4.out.setCell (p := ⟨w.heap.size + 1, 3, none⟩) (by show w.heap.size ≤ w.heap.size + 1; omega) _⟩
          · have e : (manAt s).nw.length = bt s 5 := by simp [manAt]
            rw [Hid, show (manAt s).nw.take (k + 1) = (manAt s).nw.take k by rw [List.take_of_length_le (by omega), List.take_of_length_le (by omega)], show min (k + 1) (bt s 5) = min k (bt s 5) by omega]
            exact r4
          · have e : (manAt s).od.take (k - bt s 5 + 1) = (manAt s).od.take (k - bt s 5) ++ [(bt s (7 + bt s 5 + (k - bt s 5)) : Int)] := range_at _ hk2
            rw [e7] at e
            rw [Hid, show k + 1 - bt s 5 = k - bt s 5 + 1 by omega, e]
            simpa using r3
        case measure => simp [intOf] <;> omega
    · have hkk : k = bt s 5 + bt s 6 := by omega
      have eN : (manAt s).nw.length = bt s 5 := by simp [manAt]
      have eO : (manAt s).od.length = bt s 6 := by simp [manAt]
      rw [List.take_of_length_le (show (manAt s).nw.length ≤ k by omega)] at hoN
      rw [List.take_of_length_le (show (manAt s).od.length ≤ k - bt s 5 by omega)] at hoO
      have m1 : min k (bt s 5) = (manAt s).nw.length := by omega
      have m2 : k - bt s 5 = (manAt s).od.length := by omega
      rw [m1] at hoN y2
      rw [m2] at hoO y3
      rw [m1, m2] at HM2
      have hman : ∀ B', ManV B' wr (.agg #[.int .i64 ((bt s 1 : Int) + 256 * (bt s 2 : Int) + 65536 * (bt s 3 : Int)), .int .i64 (bt s 4 : Int), .slice AN (manAt s).nw.length cN, .slice AO (manAt s).od.length cO]) (manAt s) := fun B' => ⟨_, _, rfl, Rd.of_own hoN.out, Rd.of_own hoO.out⟩
      have HMAN := Lib.hid hman
      have HCK := Lib.hid (mcheck_any 0 _ (manAt s) wr (hman 0) (by omega) (by omega))
      have HRES := Lib.hid hres.out
      have HBL := Lib.hid hbl
      have u0 := hres.out.cell 0
      have u1 := hres.out.cell 1
      have u2 := hres.out.cell 2
      have u3 := hres.out.cell 3
      simp at u0 u1 u2 u3
      have hrl := hres.out.lt
      clear hman hoN hoO m1 m2 eN eO hne hm f2 f3 hbl t3
      by_cases hf : (manAt s).fault = 0
      · have HM : Hid (manOf s = some (manAt s)) := by rw [Hid, HMO.out, if_pos hf]
        rw [hf, show errV 0 = Value.nilIface from rfl] at HCK
        clear hf
        go_wp2_with fail
        refine HCK.out.mono ?_
        rintro e w6 ⟨rfl, hb6⟩
        have hm6 := HM2.out.below hb6 hml
        have hr6 := HRES.out.below hb6 hrl
        have c0 := hm6.cell 0
        have c1 := hm6.cell 1
        have c2 := hm6.cell 2
        have c3 := hm6.cell 3
        have v0 := hr6.cell 0
        have v1 := hr6.cell 1
        have v2 := hr6.cell 2
        have v3 := hr6.cell 3
        simp at c0 c1 c2 c3 v0 v1 v2 v3
        have x0 := hr6.frozen 0
        have x1 := hr6.frozen 1
        have x2 := hr6.frozen 2
        have x3 := hr6.frozen 3
        have HR6 := Lib.hid hr6
        have HB6 := Lib.hid (HBL.out.trans (hb6.mono HBL.out.size))
        have HMM := Lib.hid ((HMAN.out 0).below hb6)
        clear hm6 hr6 hb6 HCK y0 y1 y2 y3 u0 u1 u2 u3
        go_wp2_with fail
        refine FIN2.out _ _ ((bt s 1 : Int) + 256 * (bt s 2 : Int) + 65536 * (bt s 3 : Int)) (bt s 4 : Int) (.slice AN (manAt s).nw.length cN) (.slice AO (manAt s).od.length cO) HM.out (below4 HB6.out (Nat.le_refl _) _ _ _ _) (store4 HR6.out _ _ _ _) ?_ ⟨_, _, _, rfl⟩ ⟨_, _, _, rfl⟩ rfl rfl
        obtain ⟨vn, vo, e1, e2, e3⟩ := HMM.out
        cases e1
        exact ⟨_, _, rfl, ints_far4 e2 HR6.out _ _ _ _, ints_far4 e3 HR6.out _ _ _ _⟩
      · have HN : Hid (manOf s = none) := by rw [Hid, HMO.out, if_neg hf]
        have he : errV (manAt s).fault = .iface 137 (.int .i64 (manAt s).fault) := if_neg hf
        rw [he] at HCK
        clear hf he
        go_wp2_with fail
        refine HCK.out.mono ?_
        rintro e w6 ⟨rfl, hb6⟩
        have hm6 := HM2.out.below hb6 hml
        have hr6 := HRES.out.below hb6 hrl
        have c0 := hm6.cell 0
        have c1 := hm6.cell 1
        have c2 := hm6.cell 2
        have c3 := hm6.cell 3
        have v0 := hr6.cell 0
        have v1 := hr6.cell 1
        have v2 := hr6.cell 2
        have v3 := hr6.cell 3
        simp at c0 c1 c2 c3 v0 v1 v2 v3
        have x0 := hr6.frozen 0
        have x1 := hr6.frozen 1
        have x2 := hr6.frozen 2
        have x3 := hr6.frozen 3
        have HR6 := Lib.hid hr6
        have HB6 := Lib.hid (HBL.out.trans (hb6.mono HBL.out.size))
        have HMM := Lib.hid ((HMAN.out 0).below hb6)
        clear hm6 hr6 hb6 HCK y0 y1 y2 y3 u0 u1 u2 u3
        go_wp2_with fail
        exact FIN.out _ _ HN.out (below4 HB6.out (Nat.le_refl _) _ _ _ _) (store4 HR6.out _ _ _ _) rfl rfl
end Go.Proofs.Ytaepdbkfaoiimaa
