/- The contract of the document's ManifestOf. Conditions: none but the sizes of any memory. -/
import Derived.Test.YtaepdbkfaoiimaaManRef
import Derived.Deep.RegionLawGrows
set_option linter.unusedVariables false
set_option linter.unusedSimpArgs false
namespace Go.Proofs.Ytaepdbkfaoiimaa
open Go.RowKit
attribute [local go_sem] bt_idx bt_wrap bt_extract
theorem of_blk {W w4 : World} {G base k : Nat} {cs : Array Value} {v : Value} {xs : List Value} (hG : Blk W G 91 cs) (ho : W.ownsRow base 3 1 v k xs) (hg : W.grownBy w4 v.ownBlock) : Blk w4 G 91 cs := blk_other hG ho (by decide) hg
set_option maxRecDepth 20000 in
set_option maxHeartbeats 8000000 in
theorem rmof_any (B : Nat) (s : ByteArray) (w : World) (hs : s.size ≤ 9223372036854775807) :
    Calls Try.prog 62 #[.string s] w fun e w' => ∃ v, e = .returned (.tuple #[v, .int .i64 (merr s)]) ∧ ManV B w' v ((manOf s).getD Man.zero) ∧ Below w.heap.size w w' := by
  have finN : ∀ (wr : World) (tmps : Array Value), manOf s = none → Below w.heap.size w wr → Blk wr w.heap.size 91 #[.int .i64 0, .int .i64 0, .slice none 0 0, .slice none 0 0] → tmps[2]? = some (.pointer (some ⟨w.heap.size, 0, none⟩)) → tmps[3]? = some (.int .i64 4) →
      bodyPost Try.prog Try.f62 (fun e w' => ∃ v, e = .returned (.tuple #[v, .int .i64 (merr s)]) ∧ ManV B w' v ((manOf s).getD Man.zero) ∧ Below w.heap.size w w') .ret { tmps := tmps, defers := [] } wr := by
    intro wr tmps hn hb hk t2 t3
    have y0 := hk.cell 0
    have y1 := hk.cell 1
    have y2 := hk.cell 2
    have y3 := hk.cell 3
    simp at y0 y1 y2 y3
    refine bodyPost_ret (v := .tuple #[.agg #[.int .i64 0, .int .i64 0, .slice none 0 0, .slice none 0 0], (.int .i64 4)]) (by simp [results, Try.results62, go_sem, t2, t3, y0, y1, y2, y3]) rfl ⟨_, by rw [merr, if_pos hn]; rfl, by rw [hn]; exact ManV.zero _ _, hb⟩
  have finS : ∀ (wr : World) (tmps : Array Value) (a0 a1 : Int) (a2 a3 : Value), manOf s = some (manAt s) → Below w.heap.size w wr → Blk wr w.heap.size 91 #[.int .i64 a0, .int .i64 a1, a2, a3] → ManV B wr (.agg #[.int .i64 a0, .int .i64 a1, a2, a3]) (manAt s) → (∃ A n c, a2 = .slice A n c) → (∃ A n c, a3 = .slice A n c) → tmps[2]? = some (.pointer (some ⟨w.heap.size, 0, none⟩)) → tmps[3]? = some (.int .i64 0) →
      bodyPost Try.prog Try.f62 (fun e w' => ∃ v, e = .returned (.tuple #[v, .int .i64 (merr s)]) ∧ ManV B w' v ((manOf s).getD Man.zero) ∧ Below w.heap.size w w') .ret { tmps := tmps, defers := [] } wr := by
    rintro wr tmps a0 a1 _ _ hn hb hk hm ⟨A2, n2, c2, rfl⟩ ⟨A3, n3, c3, rfl⟩ t2 t3
    have y0 := hk.cell 0
    have y1 := hk.cell 1
    have y2 := hk.cell 2
    have y3 := hk.cell 3
    simp at y0 y1 y2 y3
    refine bodyPost_ret (v := .tuple #[.agg #[.int .i64 a0, .int .i64 a1, .slice A2 n2 c2, .slice A3 n3 c3], .int .i64 0]) (by simp [results, Try.results62, go_sem, t2, t3, y0, y1, y2, y3]) rfl ⟨_, by rw [merr, if_neg (by rw [hn]; simp)]; rfl, by rw [hn]; exact hm, hb⟩
  have FIN2 := Lib.hid finS
  clear finS
  have FIN := Lib.hid finN
  clear finN
  by_cases b1 : s.size < 7
  · have HN : Hid (manOf s = none) := by rw [Hid, manOf, if_pos (.inl b1)]
    have t1 : decide ((s.size : Int) < 7) = true := decide_eq_true (by omega)
    clear b1
    go_enter Try.func62, Try.ntmps62
    go_wp2_with fail
    exact FIN.out _ _ HN.out ((Below.refl w.heap.size w).alloc (Nat.le_refl _) _) (Blk.new w _ _) rfl rfl
  have t1 : decide ((s.size : Int) < 7) = false := decide_eq_false (by omega)
  have j0 : 0 < s.size := by omega
  have j1 : (1 : Int) < (s.size : Int) := by omega
  have j2 : (2 : Int) < (s.size : Int) := by omega
  have j3 : (3 : Int) < (s.size : Int) := by omega
  have j4 : (4 : Int) < (s.size : Int) := by omega
  have j5 : (5 : Int) < (s.size : Int) := by omega
  have j6 : (6 : Int) < (s.size : Int) := by omega
  by_cases b2 : bt s 0 ≠ 77
  · have HN : Hid (manOf s = none) := by rw [Hid, manOf, if_pos (.inr (.inl b2))]
    have t2 : ((bt s 0 : Int) != 77) = true := by rw [bne_iff_ne]; omega
    clear b2
    go_enter Try.func62, Try.ntmps62
    go_wp2_with fail
    exact FIN.out _ _ HN.out ((Below.refl w.heap.size w).alloc (Nat.le_refl _) _) (Blk.new w _ _) rfl rfl
  have b2' : bt s 0 = 77 := by omega
  have t2 : ((bt s 0 : Int) != 77) = false := by rw [b2']; rfl
  have t2' : ((bt s 0 : Int) == 77) = true := by rw [b2']; rfl
  by_cases b3 : s.size < 7 + bt s 5 + bt s 6
  · have HN : Hid (manOf s = none) := by rw [Hid, manOf, if_pos (.inr (.inr b3))]
    have t3 : decide ((s.size : Int) < 7 + (bt s 5 : Int) + (bt s 6 : Int)) = true := decide_eq_true (by omega)
    have l5 := bt_lt s 5
    have l6 := bt_lt s 6
    clear b2 b2' b3
    go_enter Try.func62, Try.ntmps62
    go_wp2_with fail
    exact FIN.out _ _ HN.out ((Below.refl w.heap.size w).alloc (Nat.le_refl _) _) (Blk.new w _ _) rfl rfl
  have HMO : Hid (manOf s = if (manAt s).fault = 0 then some (manAt s) else none) := by rw [Hid, manOf, if_neg (by omega)]
  have t3 : decide ((s.size : Int) < 7 + (bt s 5 : Int) + (bt s 6 : Int)) = false := decide_eq_false (by omega)
  have l1 := bt_lt s 1
  have l2 := bt_lt s 2
  have l3 := bt_lt s 3
  have l4 := bt_lt s 4
  have l5 := bt_lt s 5
  have l6 := bt_lt s 6
  have HB3 : Hid (7 + bt s 5 + bt s 6 ≤ s.size) := by rw [Hid]; omega
  clear b2 b2' b3
  go_enter Try.func62, Try.ntmps62
  go_wp2_with fail
  have hnb := Blk.new ((w.alloc (.cells #[.int .i64 0, .int .i64 0, .slice none 0 0, .slice none 0 0] 91)).drew) 91 #[.int .i64 0, .int .i64 0, .slice none 0 0, .slice none 0 0]
  have k0 := hnb.cell 0
  have k1 := hnb.cell 1
  have k2 := hnb.cell 2
  have k3 := hnb.cell 3
  have z0 := hnb.frozen 0
  have z1 := hnb.frozen 1
  have z2 := hnb.frozen 2
  have z3 := hnb.frozen 3
  simp at k0 k1 k2 k3 z0 z1 z2 z3
  clear hnb
  go_region
  clear k0 k1 k2 k3 z0 z1 z2 z3
  have hb2 : Below w.heap.size w ((w.alloc (.cells #[.int .i64 0, .int .i64 0, .slice none 0 0, .slice none 0 0] 91)).alloc (.cells #[.int .i64 ((bt s 1 : Int) + 256 * (bt s 2 : Int) + 65536 * (bt s 3 : Int)), .int .i64 (bt s 4 : Int), .slice none 0 0, .slice none 0 0] 91)).drew := (((Below.refl w.heap.size w).alloc (Nat.le_refl _) _).alloc (by simp) _).drew
  have hk2 : Blk ((w.alloc (.cells #[.int .i64 0, .int .i64 0, .slice none 0 0, .slice none 0 0] 91)).alloc (.cells #[.int .i64 ((bt s 1 : Int) + 256 * (bt s 2 : Int) + 65536 * (bt s 3 : Int)), .int .i64 (bt s 4 : Int), .slice none 0 0, .slice none 0 0] 91)).drew (w.heap.size + 1) 91 #[.int .i64 ((bt s 1 : Int) + 256 * (bt s 2 : Int) + 65536 * (bt s 3 : Int)), .int .i64 (bt s 4 : Int), .slice none 0 0, .slice none 0 0] := by
    have h := (Blk.new (w.alloc (.cells #[.int .i64 0, .int .i64 0, .slice none 0 0, .slice none 0 0] 91)) 91 #[.int .i64 ((bt s 1 : Int) + 256 * (bt s 2 : Int) + 65536 * (bt s 3 : Int)), .int .i64 (bt s 4 : Int), .slice none 0 0, .slice none 0 0]).drewN 1
    rw [World.size_alloc] at h
    exact h
  have hr2 : Blk ((w.alloc (.cells #[.int .i64 0, .int .i64 0, .slice none 0 0, .slice none 0 0] 91)).alloc (.cells #[.int .i64 ((bt s 1 : Int) + 256 * (bt s 2 : Int) + 65536 * (bt s 3 : Int)), .int .i64 (bt s 4 : Int), .slice none 0 0, .slice none 0 0] 91)).drew w.heap.size 91 #[.int .i64 0, .int .i64 0, .slice none 0 0, .slice none 0 0] := ((Blk.new w 91 #[.int .i64 0, .int .i64 0, .slice none 0 0, .slice none 0 0]).alloc _).drewN 1
  generalize ((w.alloc (.cells #[.int .i64 0, .int .i64 0, .slice none 0 0, .slice none 0 0] 91)).alloc (.cells #[.int .i64 ((bt s 1 : Int) + 256 * (bt s 2 : Int) + 65536 * (bt s 3 : Int)), .int .i64 (bt s 4 : Int), .slice none 0 0, .slice none 0 0] 91)).drew = w2 at *
  have HB2 := Lib.hid hb2
  have HK2 := Lib.hid hk2
  have HR2 := Lib.hid hr2
  clear hb2 hk2 hr2
  go_wp2_with fail
  obtain ⟨ii, hi, hz0, hz1, hz2⟩ := info_parts info_int
  go_loopw [7] (fun i wr => ∃ (k : Nat) (vN : Value), i = .int .i64 (k : Int) ∧ k ≤ bt s 5 ∧ Hid (Blk wr (w.heap.size + 1) 91 #[.int .i64 ((bt s 1 : Int) + 256 * (bt s 2 : Int) + 65536 * (bt s 3 : Int)), .int .i64 (bt s 4 : Int), vN, .slice none 0 0]) ∧ Hid (Blk wr w.heap.size 91 #[.int .i64 0, .int .i64 0, .slice none 0 0, .slice none 0 0]) ∧
      Hid (wr.ownsRow w.heap.size 3 1 vN k (((manAt s).nw.take k).map (.int .i64))) ∧ Below w.heap.size w wr) (fun i _ => bt s 5 - (intOf i).toNat)
  case atStart => exact ⟨0, .slice none 0 0, rfl, Nat.zero_le _, HK2.out, HR2.out, by rw [Hid]; simpa using World.ownsRow_nil _ _ _ _, HB2.out⟩
  case round =>
    obtain ⟨k, vN, rfl, hk, hm, hres, hoN, hbl⟩ := hrel
    obtain ⟨AN, cN, rfl⟩ := rd_form' (Rd.of_own (B := 0) hoN.out)
    have y2 := hm.out.cell 2
    have f2 := hm.out.frozen 2
    have hml := hm.out.lt
    simp at y2
    by_cases hlt : k < bt s 5
    · have i0 : (0 : Int) ≤ 7 + (k : Int) := by omega
      have i1 : 7 + (k : Int) < (s.size : Int) := by have := HB3.out; omega
      have i2 : (7 + (k : Int)).toNat = 7 + k := by omega
      have i3 : 7 + k < s.size := by have := HB3.out; omega
      have l7 := bt_lt s (7 + k)
      have t51 : decide ((k : Int) < (bt s 5 : Int)) = true := decide_eq_true (by omega)
      have HB' : Hid (Below w.heap.size w (wr.alloc (.cells #[.int .i64 (bt s (7 + k) : Int)] 3)).drew) := (hbl.alloc hbl.size _).drew
      have HOW : Hid ((wr.alloc (.cells #[.int .i64 (bt s (7 + k) : Int)] 3)).drew.ownsRow w.heap.size 3 1 (.slice AN k cN) k (((manAt s).nw.take k).map (.int .i64))) := own_alloc hoN.out (.cells #[.int .i64 (bt s (7 + k) : Int)] 3)
      have HONE : Hid (Ints B (wr.alloc (.cells #[.int .i64 (bt s (7 + k) : Int)] 3)).drew (.slice (some ⟨wr.heap.size, 0, none⟩) 1 1) [(bt s (7 + k) : Int)]) := Rd.of_own (B := B) (own_one (base := 0) ((Blk.new wr 3 #[.int .i64 (bt s (7 + k) : Int)]).drewN 1) (Nat.zero_le _))
      have T1 : Hid (k + 1 ≤ maxLen ∧ (k + 1) * 8 ≤ 140737488355328 ∧ w.heap.size ≤ (wr.alloc (.cells #[.int .i64 (bt s (7 + k) : Int)] 3)).drew.heap.size) := ⟨by unfold maxLen; omega, by omega, HB'.out.size⟩
      have HS0 : Hid ((wr.drew.cell? ⟨w.heap.size + 1, 2, none⟩ = some (.slice AN k cN) ∧ wr.drew.frozen? ⟨w.heap.size + 1, 2, none⟩ = false) ∧ (wr.alloc (.cells #[.int .i64 (bt s (7 + k) : Int)] 3)).drew.cell? ⟨w.heap.size + 1, 2, none⟩ = some (.slice AN k cN) ∧ (wr.alloc (.cells #[.int .i64 (bt s (7 + k) : Int)] 3)).drew.frozen? ⟨w.heap.size + 1, 2, none⟩ = false) := by
        have h := (hm.out.alloc (.cells #[.int .i64 (bt s (7 + k) : Int)] 3)).drewN 1
        have h2 := h.cell 2
        simp at h2
        exact ⟨⟨y2, f2⟩, h2, h.frozen 2⟩
      have hw : IntKind.i64.wrap (7 + (k : Int)) = 7 + (k : Int) := by rw [IntKind.wrap_i64]; omega
      have HI2 := Lib.hid i2
      have HR0 : Hid (Blk (wr.alloc (.cells #[.int .i64 (bt s (7 + k) : Int)] 3)).drew w.heap.size 91 #[.int .i64 0, .int .i64 0, .slice none 0 0, .slice none 0 0]) := (hres.out.alloc _).drewN 1
      have HG0 : Hid (Blk (wr.alloc (.cells #[.int .i64 (bt s (7 + k) : Int)] 3)).drew (w.heap.size + 1) 91 #[.int .i64 ((bt s 1 : Int) + 256 * (bt s 2 : Int) + 65536 * (bt s 3 : Int)), .int .i64 (bt s 4 : Int), .slice AN k cN, .slice none 0 0]) := (hm.out.alloc _).drewN 1
      have hwb : IntKind.i64.wrap (bt s (7 + k) : Int) = (bt s (7 + k) : Int) := by rw [IntKind.wrap_i64]; omega
      go_wp2_with fail
      obtain ⟨⟨s0, _⟩, s1, _⟩ := HS0.out
      go_region_law (refine step_append_rd rfl (.tmp 55) (.tmp 61) 41 rfl w.heap.size 3 ii (.int .i64 0) 1 8 Try.underlying41 hi hz0 hz1 hz2 rfl (by decide) (.slice AN k cN) k (((manAt s).nw.take k).map (.int .i64)) rfl HOW.out B 3 (.slice (some ⟨wr.heap.size, 0, none⟩) 1 1) 1 ([(bt s (7 + k) : Int)].map (.int .i64)) rfl HONE.out ints_one T1.out.1 T1.out.2.1 T1.out.2.2 ?_; intro v4 w4 hown4 hg4 hat4; have hG4 := of_blk HG0.out HOW.out hg4; have hq4 := hG4.cell 2; have hf4 := hG4.frozen 2; simp at hq4; obtain ⟨A4, c4, rfl⟩ := rd_form' (Rd.of_own (B := 0) hown4); have hf5 := (hG4.set_ 2 (.slice A4 (k + 1) c4)).frozen 2)
      all_goals
        have HFIN : Hid (Blk (w4.setCell ⟨w.heap.size + 1, 2, none⟩ (.slice A4 (k + 1) c4)) (w.heap.size + 1) 91 #[.int .i64 ((bt s 1 : Int) + 256 * (bt s 2 : Int) + 65536 * (bt s 3 : Int)), .int .i64 (bt s 4 : Int), .slice A4 (k + 1) c4, .slice none 0 0] ∧ Blk (w4.setCell ⟨w.heap.size + 1, 2, none⟩ (.slice A4 (k + 1) c4)) w.heap.size 91 #[.int .i64 0, .int .i64 0, .slice none 0 0, .slice none 0 0] ∧
            (w4.setCell ⟨w.heap.size + 1, 2, none⟩ (.slice A4 (k + 1) c4)).ownsRow w.heap.size 3 1 (.slice A4 (k + 1) c4) (k + 1) (((manAt s).nw.take (k + 1)).map (.int .i64)) ∧ Below w.heap.size w (w4.setCell ⟨w.heap.size + 1, 2, none⟩ (.slice A4 (k + 1) c4))) := by
          refine ⟨hG4.set_ 2 _, (of_blk HR0.out HOW.out hg4).far (p := ⟨w.heap.size + 1, 2, none⟩) (by show w.heap.size ≠ w.heap.size + 1; omega) _, ?_, (below_own HB'.out (Nat.le_refl _) HOW.out hg4).setCell (p := ⟨w.heap.size + 1, 2, none⟩) (by show w.heap.size ≤ w.heap.size + 1; omega) _⟩
          rw [show (manAt s).nw.take (k + 1) = (manAt s).nw.take k ++ [(bt s (7 + k) : Int)] from range_at _ hlt, List.map_append]
          exact ownsRow_setCell_other hown4 (a := ⟨w.heap.size + 1, 2, none⟩) (own_ne_blk hown4 hG4 (by decide)) _
        clear hown4 hg4 hat4 hG4 hq4 hf4 hf5
        go_wp2_with fail
        go_roundw
        case rel => exact ⟨k + 1, _, by go_num, by omega, HFIN.out⟩
        case measure => simp [intOf] <;> omega
    · obtain rfl : k = bt s 5 := by omega
      have t51 : decide ((bt s 5 : Int) < (bt s 5 : Int)) = false := by simp
      have eN : (manAt s).nw.length = bt s 5 := by simp [manAt]
      rw [List.take_of_length_le (by omega)] at hoN
      go_wp2_with fail
      have HFL : Hid ((manAt s).nw.length = bt s 5 ∧ (manAt s).od.length = bt s 6) := ⟨by simp [manAt], by simp [manAt]⟩
      have HOK : Hid (AN = AN) := rfl
      obtain ⟨wo, hwo⟩ : ∃ wo : World, wo = wr := ⟨_, rfl⟩
      clear eN t51 y2 f2
      go_loopw [8] (fun i wr => ∃ (k : Nat) (vO : Value), i = .int .i64 (k : Int) ∧ k ≤ bt s 6 ∧ Hid (Blk wr (w.heap.size + 1) 91 #[.int .i64 ((bt s 1 : Int) + 256 * (bt s 2 : Int) + 65536 * (bt s 3 : Int)), .int .i64 (bt s 4 : Int), .slice AN (bt s 5) cN, vO]) ∧ Hid (Blk wr w.heap.size 91 #[.int .i64 0, .int .i64 0, .slice none 0 0, .slice none 0 0]) ∧
          Hid (wr.ownsRow w.heap.size 3 1 (.slice AN (bt s 5) cN) (bt s 5) ((manAt s).nw.map (.int .i64))) ∧ Hid (wr.ownsRow w.heap.size 3 1 vO k (((manAt s).od.take k).map (.int .i64))) ∧ Hid (∀ g, vO.ownBlock = some g → (Value.slice AN (bt s 5) cN).ownBlock ≠ some g) ∧ Below w.heap.size w wr) (fun i _ => bt s 6 - (intOf i).toNat)
      case atStart => exact ⟨0, .slice none 0 0, rfl, Nat.zero_le _, hm.out, hres.out, hoN.out, by rw [Hid]; simpa using World.ownsRow_nil _ _ _ _, fun g h => by (cases h), hbl⟩
      case round =>
        clear hm hres hoN hbl hml
        obtain ⟨k, vO, rfl, hk, hm, hres, hoN, hoO, hne, hbl⟩ := hrel
        obtain ⟨AO, cO, rfl⟩ := rd_form' (Rd.of_own (B := 0) hoO.out)
        have y3 := hm.out.cell 3
        have f3 := hm.out.frozen 3
        have hml := hm.out.lt
        simp at y3
        by_cases hlt : k < bt s 6
        · have i0 : (0 : Int) ≤ 7 + (bt s 5 : Int) + (k : Int) := by omega
          have i1 : 7 + (bt s 5 : Int) + (k : Int) < (s.size : Int) := by have := HB3.out; omega
          have i2 : (7 + (bt s 5 : Int) + (k : Int)).toNat = 7 + bt s 5 + k := by omega
          have i3 : 7 + bt s 5 + k < s.size := by have := HB3.out; omega
          have l7 := bt_lt s (7 + bt s 5 + k)
          have t66 : decide ((k : Int) < (bt s 6 : Int)) = true := decide_eq_true (by omega)
          have HB' : Hid (Below w.heap.size w (wr.alloc (.cells #[.int .i64 (bt s (7 + bt s 5 + k) : Int)] 3)).drew) := (hbl.alloc hbl.size _).drew
          have HOW : Hid ((wr.alloc (.cells #[.int .i64 (bt s (7 + bt s 5 + k) : Int)] 3)).drew.ownsRow w.heap.size 3 1 (.slice AO k cO) k (((manAt s).od.take k).map (.int .i64))) := own_alloc hoO.out (.cells #[.int .i64 (bt s (7 + bt s 5 + k) : Int)] 3)
          have HON : Hid ((wr.alloc (.cells #[.int .i64 (bt s (7 + bt s 5 + k) : Int)] 3)).drew.ownsRow w.heap.size 3 1 (.slice AN (bt s 5) cN) (bt s 5) ((manAt s).nw.map (.int .i64))) := own_alloc hoN.out (.cells #[.int .i64 (bt s (7 + bt s 5 + k) : Int)] 3)
          have HONE : Hid (Ints B (wr.alloc (.cells #[.int .i64 (bt s (7 + bt s 5 + k) : Int)] 3)).drew (.slice (some ⟨wr.heap.size, 0, none⟩) 1 1) [(bt s (7 + bt s 5 + k) : Int)]) := Rd.of_own (B := B) (own_one (base := 0) ((Blk.new wr 3 #[.int .i64 (bt s (7 + bt s 5 + k) : Int)]).drewN 1) (Nat.zero_le _))
          have T1 : Hid (k + 1 ≤ maxLen ∧ (k + 1) * 8 ≤ 140737488355328 ∧ w.heap.size ≤ (wr.alloc (.cells #[.int .i64 (bt s (7 + bt s 5 + k) : Int)] 3)).drew.heap.size) := ⟨by unfold maxLen; omega, by omega, HB'.out.size⟩
          have HS0 : Hid ((wr.drew.cell? ⟨w.heap.size + 1, 3, none⟩ = some (.slice AO k cO) ∧ wr.drew.frozen? ⟨w.heap.size + 1, 3, none⟩ = false) ∧ (wr.alloc (.cells #[.int .i64 (bt s (7 + bt s 5 + k) : Int)] 3)).drew.cell? ⟨w.heap.size + 1, 3, none⟩ = some (.slice AO k cO) ∧ (wr.alloc (.cells #[.int .i64 (bt s (7 + bt s 5 + k) : Int)] 3)).drew.frozen? ⟨w.heap.size + 1, 3, none⟩ = false) := by
            have h := (hm.out.alloc (.cells #[.int .i64 (bt s (7 + bt s 5 + k) : Int)] 3)).drewN 1
            have h2 := h.cell 3
            simp at h2
            exact ⟨⟨y3, f3⟩, h2, h.frozen 3⟩
          have hw : IntKind.i64.wrap (7 + (bt s 5 : Int)) = 7 + (bt s 5 : Int) := by rw [IntKind.wrap_i64]; omega
          have hw2 : IntKind.i64.wrap (7 + (bt s 5 : Int) + (k : Int)) = 7 + (bt s 5 : Int) + (k : Int) := by rw [IntKind.wrap_i64]; omega
          have HR0 : Hid (Blk (wr.alloc (.cells #[.int .i64 (bt s (7 + bt s 5 + k) : Int)] 3)).drew w.heap.size 91 #[.int .i64 0, .int .i64 0, .slice none 0 0, .slice none 0 0]) := (hres.out.alloc _).drewN 1
          have HG0 : Hid (Blk (wr.alloc (.cells #[.int .i64 (bt s (7 + bt s 5 + k) : Int)] 3)).drew (w.heap.size + 1) 91 #[.int .i64 ((bt s 1 : Int) + 256 * (bt s 2 : Int) + 65536 * (bt s 3 : Int)), .int .i64 (bt s 4 : Int), .slice AN (bt s 5) cN, .slice AO k cO]) := (hm.out.alloc _).drewN 1
          have hwb : IntKind.i64.wrap (bt s (7 + bt s 5 + k) : Int) = (bt s (7 + bt s 5 + k) : Int) := by rw [IntKind.wrap_i64]; omega
          go_wp2_with fail
          obtain ⟨⟨s0, _⟩, s1, _⟩ := HS0.out
          go_region_law (refine step_append_rd rfl (.tmp 70) (.tmp 78) 41 rfl w.heap.size 3 ii (.int .i64 0) 1 8 Try.underlying41 hi hz0 hz1 hz2 rfl (by decide) (.slice AO k cO) k (((manAt s).od.take k).map (.int .i64)) rfl HOW.out B 3 (.slice (some ⟨wr.heap.size, 0, none⟩) 1 1) 1 ([(bt s (7 + bt s 5 + k) : Int)].map (.int .i64)) rfl HONE.out ints_one T1.out.1 T1.out.2.1 T1.out.2.2 ?_; intro v4 w4 hown4 hg4 hat4; have hG4 := of_blk HG0.out HOW.out hg4; have hq4 := hG4.cell 3; have hf4 := hG4.frozen 3; simp at hq4; obtain ⟨A4, c4, rfl⟩ := rd_form' (Rd.of_own (B := 0) hown4); have hf5 := (hG4.set_ 3 (.slice A4 (k + 1) c4)).frozen 3)
          all_goals
            have HFIN : Hid (Blk (w4.setCell ⟨w.heap.size + 1, 3, none⟩ (.slice A4 (k + 1) c4)) (w.heap.size + 1) 91 #[.int .i64 ((bt s 1 : Int) + 256 * (bt s 2 : Int) + 65536 * (bt s 3 : Int)), .int .i64 (bt s 4 : Int), .slice AN (bt s 5) cN, .slice A4 (k + 1) c4] ∧ Blk (w4.setCell ⟨w.heap.size + 1, 3, none⟩ (.slice A4 (k + 1) c4)) w.heap.size 91 #[.int .i64 0, .int .i64 0, .slice none 0 0, .slice none 0 0] ∧
                (w4.setCell ⟨w.heap.size + 1, 3, none⟩ (.slice A4 (k + 1) c4)).ownsRow w.heap.size 3 1 (.slice AN (bt s 5) cN) (bt s 5) ((manAt s).nw.map (.int .i64)) ∧
                (w4.setCell ⟨w.heap.size + 1, 3, none⟩ (.slice A4 (k + 1) c4)).ownsRow w.heap.size 3 1 (.slice A4 (k + 1) c4) (k + 1) (((manAt s).od.take (k + 1)).map (.int .i64)) ∧ (∀ g, (Value.slice A4 (k + 1) c4).ownBlock = some g → (Value.slice AN (bt s 5) cN).ownBlock ≠ some g) ∧ Below w.heap.size w (w4.setCell ⟨w.heap.size + 1, 3, none⟩ (.slice A4 (k + 1) c4))) := by
              refine ⟨hG4.set_ 3 _, (of_blk HR0.out HOW.out hg4).far (p := ⟨w.heap.size + 1, 3, none⟩) (by show w.heap.size ≠ w.heap.size + 1; omega) _, ?_, ?_, fun g e1 e2 => ?_, (below_own HB'.out (Nat.le_refl _) HOW.out hg4).setCell (p := ⟨w.heap.size + 1, 3, none⟩) (by show w.heap.size ≤ w.heap.size + 1; omega) _⟩
              · have h := own_other HON.out hg4 (fun g e1 e2 => hne.out g e2 e1)
                exact ownsRow_setCell_other h (a := ⟨w.heap.size + 1, 3, none⟩) (own_ne_blk h hG4 (by decide)) _
              · rw [show (manAt s).od.take (k + 1) = (manAt s).od.take k ++ [(bt s (7 + bt s 5 + k) : Int)] from range_at _ hlt, List.map_append]
                exact ownsRow_setCell_other hown4 (a := ⟨w.heap.size + 1, 3, none⟩) (own_ne_blk hown4 hG4 (by decide)) _
              · rcases hat4 with hat | hat
                · exact hne.out g (hat ▸ e1) e2
                · have := own_blt hoN.out e2
                  rw [hat] at e1
                  injection e1 with e1
                  have e3 : (wr.alloc (.cells #[.int .i64 (bt s (7 + bt s 5 + k) : Int)] 3)).drew.heap.size = wr.heap.size + 1 := World.size_alloc _ _
                  rw [e3] at e1
                  omega
            clear hown4 hg4 hat4 hG4 hq4 hf4 hf5
            go_wp2_with fail
            go_roundw
            case rel => exact ⟨k + 1, _, by go_num, by omega, HFIN.out⟩
            case measure => simp [intOf] <;> omega
        · obtain rfl : k = bt s 6 := by omega
          have t66 : decide ((bt s 6 : Int) < (bt s 6 : Int)) = false := by simp
          rw [List.take_of_length_le (by have := HFL.out; omega)] at hoO
          have y0 := hm.out.cell 0
          have y1 := hm.out.cell 1
          have y2 := hm.out.cell 2
          simp at y0 y1 y2
          have hres0 := hres.out
          have u0 := hres0.cell 0
          have u1 := hres0.cell 1
          have u2 := hres0.cell 2
          have u3 := hres0.cell 3
          simp at u0 u1 u2 u3
          have hrl := hres0.lt
          have hman : ∀ B', ManV B' wr (.agg #[.int .i64 ((bt s 1 : Int) + 256 * (bt s 2 : Int) + 65536 * (bt s 3 : Int)), .int .i64 (bt s 4 : Int), .slice AN (bt s 5) cN, .slice AO (bt s 6) cO]) (manAt s) := fun B' => ⟨_, _, rfl, by
            have := Rd.of_own (B := B') hoN.out
            rw [← HFL.out.1] at this ⊢
            exact this, by
            have := Rd.of_own (B := B') hoO.out
            rw [← HFL.out.2] at this ⊢
            exact this⟩
          have HMAN := Lib.hid hman
          have HCK := Lib.hid (rmfault_any 0 _ (manAt s) wr (hman 0) (by have := HFL.out; omega) (by have := HFL.out; omega))
          have HM2 := Lib.hid hm.out
          have HRES := Lib.hid hres0
          have HBL := Lib.hid hbl
          clear hman hoN hoO hne hm f3 hbl t3 hres0
          by_cases hf : (manAt s).fault = 0
          · have HM : Hid (manOf s = some (manAt s)) := by rw [Hid, HMO.out, if_pos hf]
            rw [hf] at HCK
            clear hf
            go_wp2_with fail
            refine HCK.out.mono ?_
            rintro e w6 ⟨rfl, hb6⟩
            have hm6 := HM2.out.below hb6 hml
            have hr6 := HRES.out.below hb6 hrl
            have c0 := hm6.cell 0
            have c1 := hm6.cell 1
            have c2 := hm6.cell 2
            have c3 := hm6.cell 3
            have v0 := hr6.cell 0
            have v1 := hr6.cell 1
            have v2 := hr6.cell 2
            have v3 := hr6.cell 3
            simp at c0 c1 c2 c3 v0 v1 v2 v3
            have x0 := hr6.frozen 0
            have x1 := hr6.frozen 1
            have x2 := hr6.frozen 2
            have x3 := hr6.frozen 3
            have HR6 := Lib.hid hr6
            have HB6 := Lib.hid (HBL.out.trans (hb6.mono HBL.out.size))
            have HMM := Lib.hid ((HMAN.out 0).below hb6)
            clear hm6 hr6 hb6 HCK y0 y1 y2 y3 u0 u1 u2 u3
            go_wp2_with fail
            refine FIN2.out _ _ ((bt s 1 : Int) + 256 * (bt s 2 : Int) + 65536 * (bt s 3 : Int)) (bt s 4 : Int) (.slice AN (bt s 5) cN) (.slice AO (bt s 6) cO) HM.out (below4 HB6.out (Nat.le_refl _) _ _ _ _) (store4 HR6.out _ _ _ _) ?_ ⟨_, _, _, rfl⟩ ⟨_, _, _, rfl⟩ rfl rfl
            obtain ⟨vn, vo, e1, e2, e3⟩ := HMM.out
            cases e1
            exact ⟨_, _, rfl, ints_far4 e2 HR6.out _ _ _ _, ints_far4 e3 HR6.out _ _ _ _⟩
          · have HN : Hid (manOf s = none) := by rw [Hid, HMO.out, if_neg hf]
            have hpos : 0 < (manAt s).fault := by omega
            clear hf
            go_wp2_with fail
            refine HCK.out.mono ?_
            rintro e w6 ⟨rfl, hb6⟩
            have hr6 := HRES.out.below hb6 hrl
            have v0 := hr6.cell 0
            have v1 := hr6.cell 1
            have v2 := hr6.cell 2
            have v3 := hr6.cell 3
            simp at v0 v1 v2 v3
            have x0 := hr6.frozen 0
            have x1 := hr6.frozen 1
            have x2 := hr6.frozen 2
            have x3 := hr6.frozen 3
            have HR6 := Lib.hid hr6
            have HB6 := Lib.hid (HBL.out.trans (hb6.mono HBL.out.size))
            clear hr6 hb6 HCK y0 y1 y2 y3 u0 u1 u2 u3
            go_wp2_with fail
            exact FIN.out _ _ HN.out (below4 HB6.out (Nat.le_refl _) _ _ _ _) (store4 HR6.out _ _ _ _) rfl rfl
end Go.Proofs.Ytaepdbkfaoiimaa
