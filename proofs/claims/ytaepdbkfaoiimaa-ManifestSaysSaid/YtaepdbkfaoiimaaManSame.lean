/- LightManifest, number, SameNumbers, SameManifest; a manifest is read as it was written. Conditions: none but those that each law names. -/
import Derived.Test.YtaepdbkfaoiimaaManP
import Derived.Test.YtaepdbkfaoiimaaPage
set_option linter.unusedVariables false
set_option linter.unusedSimpArgs false
namespace Go.Proofs.Ytaepdbkfaoiimaa
open Go.RowKit

set_option maxHeartbeats 1000000 in
theorem samenum_any (B : Nat) (a b : Value) (la lb : List Int) (w : World) (ha : Ints B w a la) (hb : Ints B w b lb) :
    Calls Try.prog 100 #[a, b] w fun e w' => e = .returned (.bool (decide (la = lb))) ∧ ∃ n, w.drewN n = w' := by
  obtain ⟨A, c, rfl, hc, hc2, hcell⟩ := ha.form
  obtain ⟨A', c', rfl, hc', hc2', hcell'⟩ := hb.form
  have HA := Lib.hid hcell
  have HB := Lib.hid hcell'
  clear hcell hcell' ha hb
  by_cases hl : la.length = lb.length
  · have t1 : ((la.length : Int) != (lb.length : Int)) = false := by rw [hl]; simp
    have HL := Lib.hid hl
    clear hl
    go_enter Try.func100, Try.ntmps100
    go_wp2_with fail
    go_loopw [5] (fun i wr => ∃ k n : Nat, k ≤ la.length ∧ i = .int .i64 k ∧ w.drewN n = wr ∧ Hid (la.take k = lb.take k)) (fun i _ => la.length - (intOf i).toNat)
    case atStart => exact ⟨0, 0, Nat.zero_le _, rfl, rfl, rfl⟩
    case round =>
      obtain ⟨k, n, hk, rfl, rfl, htk⟩ := hrel
      by_cases hlt : k < la.length
      · have hlt' : k < lb.length := by have := HL.out; omega
        obtain ⟨x, hx, hx2, _⟩ := getElem?_of_lt hlt
        obtain ⟨y, hy, hy2, _⟩ := getElem?_of_lt hlt'
        obtain ⟨b, o, rfl, hb, c1⟩ := HA.out k x hx
        obtain ⟨b', o', rfl, hb', d1⟩ := HB.out k y hy
        have X2 := Lib.hid hx2
        have Y2 := Lib.hid hy2
        have X1 := Lib.hid hx
        have Y1 := Lib.hid hy
        clear hx hx2 hy hy2
        have g1 : (0 : Int) ≤ (k : Int) := by omega
        have g2 : (k : Int) < (la.length : Int) := by omega
        have g3 : (k : Int) < (lb.length : Int) := by omega
        by_cases hxy : x = y
        · have hd : (x != y) = false := by rw [hxy]; simp
          have HX := Lib.hid hxy
          clear hxy
          go_wp2_with fail
          go_quiet (fail)
          go_wp2_with fail
          go_roundw
          case rel => exact ⟨k + 1, _, by omega, by go_num, rfl, by rw [Hid, X2.out, Y2.out, htk.out, HX.out]⟩
          case measure => simp [intOf] <;> omega
        · have hd : (x != y) = true := by rw [bne_iff_ne]; exact hxy
          have HX := Lib.hid hxy
          clear hxy
          go_wp2_with fail
          go_quiet (fail)
          go_wp2_with fail
          go_ret
          refine ⟨ret_bool ?_, n + nq, by simp [World.drewN_drewN]⟩
          symm
          apply decide_eq_false
          intro e
          have h1 := X1.out
          have h2 := Y1.out
          rw [e, h2] at h1
          exact HX.out (Option.some.inj h1).symm
      · have hge : la.length ≤ k := by omega
        go_wp2_with fail
        go_ret
        refine ⟨ret_bool ?_, _, rfl⟩
        have h1 := htk.out
        have h2 := HL.out
        rw [List.take_of_length_le hge, List.take_of_length_le (by omega)] at h1
        rw [h1]; simp
  · have t1 : ((la.length : Int) != (lb.length : Int)) = true := by rw [bne_iff_ne]; omega
    have HL := Lib.hid hl
    clear hl
    go_enter Try.func100, Try.ntmps100
    go_wp2_with fail
    go_ret
    refine ⟨ret_bool ?_, 0, rfl⟩
    symm
    apply decide_eq_false
    intro e
    exact HL.out (by rw [e])

def lightM (m : Man) : Bool := decide (m.nw.length ≤ 30) && decide (m.od.length ≤ 30)
theorem lightM_any (B : Nat) (v : Value) (m : Man) (w : World) (h : ManV B w v m) :
    Calls Try.prog 58 #[v] w fun e w' => e = .returned (.bool (lightM m)) ∧ Below w.heap.size w w' := by
  obtain ⟨vn, vo, rfl, hn, ho⟩ := h
  obtain ⟨A1, c1, rfl, k1, k2, kX⟩ := hn.form
  obtain ⟨A2, c2, rfl, k3, k4, kY⟩ := ho.form
  clear kX kY hn ho
  by_cases b1 : m.nw.length ≤ 30
  · have t1 : decide ((m.nw.length : Int) ≤ 30) = true := decide_eq_true (by omega)
    go_enter Try.func58, Try.ntmps58
    go_wp2_with fail
    go_ret
    exact ⟨ret_bool (by unfold lightM; rw [Bool.eq_iff_iff]; simp <;> omega), (Below.refl _ _).alloc (Nat.le_refl _) _⟩
  · have t1 : decide ((m.nw.length : Int) ≤ 30) = false := decide_eq_false (by omega)
    go_enter Try.func58, Try.ntmps58
    go_wp2_with fail
    go_ret
    exact ⟨ret_bool (by unfold lightM; rw [Bool.eq_iff_iff]; simp <;> omega), (Below.refl _ _).alloc (Nat.le_refl _) _⟩
def sameM (m n : Man) : Bool := decide (m.ep = n.ep) && decide (m.log = n.log) && decide (m.nw = n.nw) && decide (m.od = n.od)
theorem sameM_refl (m : Man) : sameM m m = true := by simp [sameM]
set_option maxRecDepth 20000 in
set_option maxHeartbeats 4000000 in
theorem sameman_any (B : Nat) (a b : Value) (m n : Man) (w : World) (ha : ManV B w a m) (hb : ManV B w b n) :
    Calls Try.prog 65 #[a, b] w fun e w' => e = .returned (.bool (sameM m n)) ∧ Below w.heap.size w w' := by
  obtain ⟨vn, vo, rfl, hn, ho⟩ := ha
  obtain ⟨A1, c1, rfl, k1, k2, kX⟩ := hn.form
  obtain ⟨A2, c2, rfl, k3, k4, kY⟩ := ho.form
  obtain ⟨un, uo, rfl, hn', ho'⟩ := hb
  obtain ⟨A3, c3, rfl, k5, k6, kZ⟩ := hn'.form
  obtain ⟨A4, c4, rfl, k7, k8, kW⟩ := ho'.form
  clear kX kY kZ kW
  have hbl : Below w.heap.size w ((w.alloc (.cells #[.int .i64 m.ep, .int .i64 m.log, .slice A1 m.nw.length c1, .slice A2 m.od.length c2] 91)).alloc (.cells #[.int .i64 n.ep, .int .i64 n.log, .slice A3 n.nw.length c3, .slice A4 n.od.length c4] 91)) :=
    ((Below.refl _ _).alloc (Nat.le_refl _) _).alloc (by simp) _
  have HN := Lib.hid (hn.below hbl)
  have HO := Lib.hid (ho.below hbl)
  have HN' := Lib.hid (hn'.below hbl)
  have HO' := Lib.hid (ho'.below hbl)
  have HBL := Lib.hid hbl
  have q1 := (Blk.new w 91 #[.int .i64 m.ep, .int .i64 m.log, .slice A1 m.nw.length c1, .slice A2 m.od.length c2]).alloc (.cells #[.int .i64 n.ep, .int .i64 n.log, .slice A3 n.nw.length c3, .slice A4 n.od.length c4] 91)
  have q2 := Blk.new (w.alloc (.cells #[.int .i64 m.ep, .int .i64 m.log, .slice A1 m.nw.length c1, .slice A2 m.od.length c2] 91)) 91 #[.int .i64 n.ep, .int .i64 n.log, .slice A3 n.nw.length c3, .slice A4 n.od.length c4]
  rw [World.size_alloc] at q2
  have Q1 := Lib.hid q1
  have Q2 := Lib.hid q2
  clear hn ho hn' ho' hbl q1 q2
  go_enter Try.func65, Try.ntmps65
  go_wp2_with fail
  refine (samenum_any B _ _ _ _ _ HN.out HN'.out).mono ?_
  rintro e w1 ⟨rfl, n1, rfl⟩
  have y2 := (Q1.out.drewN n1).cell 3
  have z2 := (Q2.out.drewN n1).cell 3
  simp at y2 z2
  go_wp2_with fail
  refine (samenum_any B _ _ _ _ _ (HO.out.drewN n1) (HO'.out.drewN n1)).mono ?_
  rintro e w1 ⟨rfl, n2, rfl⟩
  have b0 := ((Q1.out.drewN n1).drewN n2).cell 0
  have b1 := ((Q1.out.drewN n1).drewN n2).cell 1
  have d0 := ((Q2.out.drewN n1).drewN n2).cell 0
  have d1 := ((Q2.out.drewN n1).drewN n2).cell 1
  simp at b0 b1 d0 d1
  clear y2 z2
  have HB2 := Lib.hid (below_drewN' HBL.out (n1 + n2))
  have HE : Hid (sameM m n = (decide (m.ep = n.ep) && decide (m.log = n.log) && decide (m.nw = n.nw) && decide (m.od = n.od))) := rfl
  cases e0 : decide (m.ep = n.ep) <;> cases e1 : decide (m.log = n.log) <;> cases e2 : decide (m.nw = n.nw) <;> cases e3 : decide (m.od = n.od)
  all_goals
    rw [e0, e1, e2, e3] at HE
    have t0 : (m.ep == n.ep) = decide (m.ep = n.ep) := by rw [Bool.eq_iff_iff]; simp
    have t1 : (m.log == n.log) = decide (m.log = n.log) := by rw [Bool.eq_iff_iff]; simp
    rw [e0] at t0
    rw [e1] at t1
    clear e0 e1 e2 e3
    go_wp2_with fail
    go_ret
    exact ⟨by rw [HE.out]; rfl, HB2.out⟩

/-! ### a manifest is read as it was written, also behind noughts -/
theorem u8_of {x : Int} (h0 : 0 ≤ x) (h1 : x < 256) : ((UInt8.ofNat x.toNat).toNat : Int) = x := by
  simp
  omega
theorem map_range_eq {l : List Int} {f : Nat → Int} (h : ∀ i x, l[i]? = some x → f i = x) : (List.range l.length).map f = l := by
  refine List.ext_getElem? fun i => ?_
  rw [List.getElem?_map]
  rcases Nat.lt_or_ge i l.length with hi | hi
  · rw [List.getElem?_range hi, List.getElem?_eq_getElem hi]
    exact congrArg some (h i _ (List.getElem?_eq_getElem hi))
  · rw [List.getElem?_eq_none (by simpa using hi), List.getElem?_eq_none hi]; rfl
theorem man_bytes {m : Man} (hf : m.fault = 0) {s : ByteArray} {k : Nat} (h : s.data.toList = m.bytes.data.toList ++ List.replicate k 0) : manOf s = some m := by
  obtain ⟨z1, z2, z3, z4⟩ := fault_zero.1 hf
  have hal := all_len hf
  have hlen : m.nw.length + m.od.length ≤ 23 := by simp [Man.all] at hal; omega
  have hlog := z3 m.log (by simp [Man.all])
  have hel : ∀ b ∈ m.nw ++ m.od, 2 ≤ b ∧ b < 24 := fun b hb => z3 b (by simp only [Man.all, List.mem_cons]; exact .inr hb)
  have hd : s.data.toList = ([77, m.ep % 256, m.ep / 256 % 256, m.ep / 65536, m.log % 256, (m.nw.length : Int) % 256, (m.od.length : Int) % 256].map fun n => UInt8.ofNat n.toNat) ++ (((m.nw ++ m.od).map (fun b : Int => UInt8.ofNat (b % 256).toNat)) ++ List.replicate k 0) := by
    rw [h, Man.bytes, strOfNums_data, List.map_append, List.map_map, List.append_assoc]
    rfl
  have hb : ∀ j, bt s (7 + j) = ((((m.nw ++ m.od).map (fun b : Int => UInt8.ofNat (b % 256).toNat)) ++ List.replicate k 0).getD j 0).toNat := fun j => bt_list hd j
  have hel2 : ∀ j x, (m.nw ++ m.od)[j]? = some x → (bt s (7 + j) : Int) = x := by
    intro j x hx
    have hx2 := hel x (List.mem_of_getElem? hx)
    have hj : j < (m.nw ++ m.od).length := by
      rcases Nat.lt_or_ge j (m.nw ++ m.od).length with h | h
      · exact h
      · rw [List.getElem?_eq_none h] at hx; cases hx
    rw [hb j, List.getD_eq_getElem?_getD, List.getElem?_append_left (by simpa using hj), List.getElem?_map, hx]
    show ((UInt8.ofNat (x % 256).toNat).toNat : Int) = x
    rw [u8_of (by omega) (by omega)]
    omega
  have h7 : ∀ (j : Nat) (x : Int), [77, m.ep % 256, m.ep / 256 % 256, m.ep / 65536, m.log % 256, (m.nw.length : Int) % 256, (m.od.length : Int) % 256][j]? = some x → 0 ≤ x → x < 256 → (bt s j : Int) = x := by
    intro j x hx h0 h1
    have := bt_list (a := []) (b := s.data.toList) (s := s) (by simp) j
    simp only [List.length_nil, Nat.zero_add] at this
    rw [this, List.getD_eq_getElem?_getD, hd, List.getElem?_append_left (by
      rcases Nat.lt_or_ge j 7 with h | h
      · simpa using h
      · rw [List.getElem?_eq_none (by simpa using h)] at hx; cases hx), List.getElem?_map, hx]
    exact u8_of h0 h1
  have b0 := h7 0 77 rfl (by omega) (by omega)
  have b1 := h7 1 (m.ep % 256) rfl (by omega) (by omega)
  have b2 := h7 2 (m.ep / 256 % 256) rfl (by omega) (by omega)
  have b3 := h7 3 (m.ep / 65536) rfl (by omega) (by omega)
  have b4 := h7 4 (m.log % 256) rfl (by omega) (by omega)
  have b5 := h7 5 ((m.nw.length : Int) % 256) rfl (by omega) (by omega)
  have b6 := h7 6 ((m.od.length : Int) % 256) rfl (by omega) (by omega)
  have n5 : bt s 5 = m.nw.length := by omega
  have n6 : bt s 6 = m.od.length := by omega
  have hsz : 7 + m.nw.length + m.od.length ≤ s.size := by
    have := congrArg List.length hd
    rw [len_data] at this
    simp at this
    omega
  have hm : manAt s = m := by
    have e1 : ((bt s 1 : Int) + 256 * bt s 2 + 65536 * bt s 3) = m.ep := by omega
    have e2 : (bt s 4 : Int) = m.log := by omega
    have e3 : (List.range (bt s 5)).map (fun i => (bt s (7 + i) : Int)) = m.nw := by
      rw [n5]
      refine map_range_eq fun i x hx => hel2 i x ?_
      rw [List.getElem?_append_left]
      · exact hx
      · rcases Nat.lt_or_ge i m.nw.length with h | h
        · exact h
        · rw [List.getElem?_eq_none h] at hx; cases hx
    have e4 : (List.range (bt s 6)).map (fun i => (bt s (7 + bt s 5 + i) : Int)) = m.od := by
      rw [n6, n5]
      refine map_range_eq fun i x hx => ?_
      rw [Nat.add_assoc]
      refine hel2 _ x ?_
      rw [List.getElem?_append_right (by omega), Nat.add_sub_cancel_left]
      exact hx
    unfold manAt
    rw [e1, e2, e3, e4]
  unfold manOf
  rw [if_neg (by omega), hm, if_pos hf]
end Go.Proofs.Ytaepdbkfaoiimaa
