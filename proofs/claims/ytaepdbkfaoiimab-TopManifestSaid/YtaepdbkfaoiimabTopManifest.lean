/- TopManifest returns true at every input, and leaves it as it was. Conditions: none. -/
import Derived.Test.YtaepdbkfaoiimabManSame
import Derived.Test.YtaepdbkfaoiimabOpen2
import Derived.Test.YtaepdbkfaoiimabBits
set_option linter.unusedVariables false
set_option linter.unusedSimpArgs false
namespace Go.Proofs.Ytaepdbkfaoiimab
open Go.ChangeShapes Go.WideShapes Go.ChangeAt Go.RowKit Go.WideMaps Go.WideElems
open Go.ChangeMaps (open_string shut_string)

theorem m15_fault : (Man.mk 1 5 [] []).fault = 0 := by decide
theorem m15_bytes : mbytesS ⟨1, 5, [], []⟩ = ⟨#[77, 1, 0, 0, 5, 0, 0]⟩ := by decide +kernel
theorem man_size {m : Man} (hf : m.fault = 0) : m.bytes.size ≤ 30 := by
  have hal := all_len hf
  unfold Man.bytes
  rw [strOfNums_size]
  simp [Man.all] at hal ⊢
  omega
set_option maxRecDepth 20000 in
set_option maxHeartbeats 8000000 in
theorem topManifest_walk (v : Value) (m : Man) (n : Int) (w : World) (hm : ManV w.heap.size w v m) :
    Calls Try.prog 6 #[v, .int .i64 n] w fun e w' => e = .returned (.bool true) ∧ Below w.heap.size w w' := by
  obtain ⟨vn, vo, rfl, hn, ho⟩ := hm
  obtain ⟨A1, c1, rfl, k1, k2, kX⟩ := hn.form
  obtain ⟨A2, c2, rfl, k3, k4, kY⟩ := ho.form
  have hb0 : Below w.heap.size w (w.alloc (.cells #[.int .i64 m.ep, .int .i64 m.log, .slice A1 m.nw.length c1, .slice A2 m.od.length c2] 50)) := (Below.refl _ _).alloc (Nat.le_refl _) _
  have HM : Hid (ManV w.heap.size w (.agg #[.int .i64 m.ep, .int .i64 m.log, .slice A1 m.nw.length c1, .slice A2 m.od.length c2]) m) := ⟨_, _, rfl, hn, ho⟩
  have HX : Hid (Blk (w.alloc (.cells #[.int .i64 m.ep, .int .i64 m.log, .slice A1 m.nw.length c1, .slice A2 m.od.length c2] 50)) w.heap.size 50 #[.int .i64 m.ep, .int .i64 m.log, .slice A1 m.nw.length c1, .slice A2 m.od.length c2]) := Blk.new w _ _
  have HB0 := Lib.hid hb0
  have hbz := mbytes_any w.heap.size (.agg #[.int .i64 1, .int .i64 5, .slice none 0 0, .slice none 0 0]) ⟨1, 5, [], []⟩ (w.alloc (.cells #[.int .i64 m.ep, .int .i64 m.log, .slice A1 m.nw.length c1, .slice A2 m.od.length c2] 50)) ⟨_, _, rfl, Rd.nil _ _ _ _, Rd.nil _ _ _ _⟩ (by simp) (by simp)
  rw [m15_bytes, m15_fault, show errV 0 = Value.nilIface from rfl] at hbz
  have HBZ := Lib.hid hbz
  clear kX kY hn ho hb0 hbz
  go_enter Try.func6, Try.ntmps6
  go_wp2_with fail
  refine HBZ.out.mono ?_
  rintro e w1 ⟨rfl, hb1⟩
  have HB1 := Lib.hid (HB0.out.trans (hb1.mono (by simp)))
  have HX1 := Lib.hid (HX.out.below hb1 (by simp))
  have y0 := HX1.out.cell 0
  have y1 := HX1.out.cell 1
  have y2 := HX1.out.cell 2
  have y3 := HX1.out.cell 3
  simp at y0 y1 y2 y3
  have HL := Lib.hid (lightM_any w.heap.size _ m w1 (HM.out.below HB1.out))
  clear hb1 HBZ HX HB0
  go_wp2_with fail
  refine HL.out.mono ?_
  rintro e w2 ⟨rfl, hb2⟩
  have HB2 := Lib.hid (HB1.out.trans (hb2.mono HB1.out.size))
  have HX2 := Lib.hid (HX1.out.below hb2 HX1.out.lt)
  have z0 := HX2.out.cell 0
  have z1 := HX2.out.cell 1
  have z2 := HX2.out.cell 2
  have z3 := HX2.out.cell 3
  simp at z0 z1 z2 z3
  clear hb2 HL y0 y1 y2 y3 HX1
  cases hlight : lightM m
  · go_wp2_with fail
    go_ret
    exact ⟨rfl, HB2.out⟩
  simp [lightM] at hlight
  obtain ⟨hl1, hl2⟩ := hlight
  have HBY := Lib.hid (mbytes_any w.heap.size _ m w2 (HM.out.below HB2.out) (by omega) (by omega))
  by_cases hf : m.fault = 0
  · have hS : mbytesS m = m.bytes := if_pos hf
    rw [hf, hS, show errV 0 = Value.nilIface from rfl] at HBY
    have hsz := man_size hf
    have HF := Lib.hid hf
    have t43 : decide (64 < (m.bytes.size : Int)) = false := decide_eq_false (by omega)
    clear hf hS
    go_wp2_with fail
    refine HBY.out.mono ?_
    rintro e w3 ⟨rfl, hb3⟩
    have HB3 := Lib.hid (HB2.out.trans (hb3.mono HB2.out.size))
    have HX3 := Lib.hid (HX2.out.below hb3 HX2.out.lt)
    clear hb3 HBY HX2 z0 z1 z2 z3
    go_wp2_with fail
    have a31 := and31 n
    have q0 : 0 ≤ n % 32 := by omega
    have q1 : n % 32 < 32 := by omega
    go_loop [5, 7] (fun s i => ∃ k : Nat, k ≤ 32 ∧ (k : Int) ≤ n % 32 ∧ i = .int .i64 (k : Int) ∧ s = .string (m.bytes ++ zer k)) (fun _ i => (n % 32 - intOf i).toNat)
    case atStart => exact ⟨0, by omega, by omega, rfl, by rw [zer_zero]⟩
    case round =>
      obtain ⟨k, hk, hkn, rfl, rfl⟩ := hrel
      have hsk : (m.bytes ++ zer k).size = m.bytes.size + k := by rw [ByteArray.size_append, zer_size]
      by_cases hlt : (k : Int) < n % 32
      · have HZ := Lib.hid (zer_succ m.bytes k)
        have t34 : decide ((k : Int) < n % 32) = true := decide_eq_true hlt
        go_wp2_with fail
        go_round
        case rel => exact ⟨k + 1, by omega, by omega, by go_num, by rw [← HZ.out]⟩
        case measure => simp [intOf] <;> omega
      · have t34 : decide ((k : Int) < n % 32) = false := decide_eq_false hlt
        have hp : manOf (m.bytes ++ zer k) = some m := man_bytes HF.out (k := k) (by rw [data_append_]; rfl)
        have hpa := mparse_any w.heap.size (m.bytes ++ zer k) w3 (by omega)
        have hpe : merr (m.bytes ++ zer k) = 0 := by rw [merr, if_neg (by rw [hp]; simp)]
        rw [hpe, hp, show errV 0 = Value.nilIface from rfl] at hpa
        have HPA := Lib.hid hpa
        clear hp hpa hpe
        go_wp2_with fail
        refine HPA.out.mono ?_
        rintro e w4 ⟨v4, rfl, hm4, hb4⟩
        simp only [Option.getD_some] at hm4
        obtain ⟨vn4, vo4, rfl, hn4, ho4⟩ := hm4
        obtain ⟨A5, c5, rfl, _, _, kX⟩ := hn4.form
        obtain ⟨A6, c6, rfl, _, _, kY⟩ := ho4.form
        have hb5 : Below w4.heap.size w4 (w4.alloc (.cells #[.int .i64 m.ep, .int .i64 m.log, .slice A5 m.nw.length c5, .slice A6 m.od.length c6] 50)) := (Below.refl _ _).alloc (Nat.le_refl _) _
        have hb45 := hb4.trans (hb5.mono hb4.size)
        have HB5 := Lib.hid (HB3.out.trans (hb45.mono HB3.out.size))
        have hx4 := HX3.out.below hb4 HX3.out.lt
        have hx4l := hx4.lt
        have x0 := hx4.cell 0
        have x1 := hx4.cell 1
        have x2 := hx4.cell 2
        have x3 := hx4.cell 3
        simp at x0 x1 x2 x3
        have hsame := sameman_any w.heap.size (.agg #[.int .i64 m.ep, .int .i64 m.log, .slice A5 m.nw.length c5, .slice A6 m.od.length c6]) (.agg #[.int .i64 m.ep, .int .i64 m.log, .slice A1 m.nw.length c1, .slice A2 m.od.length c2]) m m _ ⟨_, _, rfl, hn4.below hb5, ho4.below hb5⟩ (HM.out.below HB5.out)
        rw [sameM_refl] at hsame
        have HS := Lib.hid hsame
        clear kX kY hn4 ho4 hb4 hb5 hb45 hx4 hsame HPA
        go_wp2_with fail
        refine HS.out.mono ?_
        rintro e w6 ⟨rfl, hb6⟩
        have HB6 := Lib.hid (HB5.out.trans (hb6.mono HB5.out.size))
        clear hb6 HS
        go_wp2_with fail
        go_ret
        exact ⟨rfl, HB6.out⟩
  · have hS : mbytesS m = ByteArray.empty := if_neg hf
    have he : errV m.fault = .iface 107 (.int .i64 m.fault) := if_neg hf
    have HE := Lib.hid he
    rw [hS, he] at HBY
    clear hf hS he
    go_wp2_with fail
    refine HBY.out.mono ?_
    rintro e w3 ⟨rfl, hb3⟩
    have HB3 := Lib.hid (HB2.out.trans (hb3.mono HB2.out.size))
    have HX3 := Lib.hid (HX2.out.below hb3 HX2.out.lt)
    have y0 := HX3.out.cell 0
    have y1 := HX3.out.cell 1
    have y2 := HX3.out.cell 2
    have y3 := HX3.out.cell 3
    simp at y0 y1 y2 y3
    have t30 : (ByteArray.empty.toList == []) = true := by rw [beq_iff_eq, toList_nil]; rfl
    have hck := mcheck_any w.heap.size _ m w3 (HM.out.below HB3.out) (by omega) (by omega)
    rw [HE.out] at hck
    have HCK := Lib.hid hck
    clear hb3 HBY z0 z1 z2 z3 hck
    go_wp2_with fail
    refine HCK.out.mono ?_
    rintro e w4 ⟨rfl, hb4⟩
    have HB4 := Lib.hid (HB3.out.trans (hb4.mono HB3.out.size))
    have hn1 := number_any m.fault w4
    rw [HE.out] at hn1
    have HN1 := Lib.hid hn1
    clear hb4 HCK hn1
    go_wp2_with fail
    refine HN1.out.mono ?_
    rintro e w5 ⟨rfl, rfl⟩
    go_wp2_with fail
    refine HN1.out.mono ?_
    rintro e w5 ⟨rfl, rfl⟩
    go_wp2_with fail
    go_ret
    exact ⟨rfl, HB4.out⟩

-- CLOSING

set_option maxRecDepth 100000 in
theorem topManifest_holds : Rows.TopManifestSaid :=
  OpenClaim.holds_of_wide 6 Try.f6 rfl rfl rfl rfl rfl rfl rfl ⟨rfl, rfl, rfl, rfl, rfl⟩ rfl rfl rfl rfl rfl (by kernel_rfl) Try.func6 (by kernel_rfl)
    (of_decide_eq_true (by kernel_rfl)) (by unfold Func.isWrapper; first | (rw [if_pos (by decide +kernel)]; kernel_rfl) | (rw [if_neg (by decide +kernel)]; exact ⟨rfl, rfl⟩))
    (fun os started H enc _ => close_lifted Rows.topManifestSpec 6 Try.f6 os started H enc (by kernel_rfl) Try.func6 (by kernel_rfl) rfl
      (fun ds hd => by
        rw [Try.params6] at hd
        match ds, hd with
        | [d1, d2], _ => rfl)
      (by kernel_rfl)
      (ChangeSpec.witness6 (enc := enc) (C := Try.checked) false ⟨#[], #[.agg #[.int .i64 0, .int .i64 0, .slice none 0 0, .slice none 0 0], .int .i64 0], []⟩ 8 (by kernel_rfl) (by kernel_rfl) (by kernel_rfl) (by kernel_rfl))
      (fun W base args ds p hval hA => by
        rw [Try.params6] at hA hval
        obtain ⟨v0, v1, d0, d1, p0, p1, hargs, rfl, rfl, h0, h1⟩ := trodAll_two hA
        obtain rfl : args = #[v0, v1] := by cases args; simp_all
        obtain ⟨l0, hl0⟩ := man_of (hval 0 _ v0 rfl rfl) h0
        obtain ⟨n1, rfl, rfl, rfl, wn1⟩ := open_int Try.underlying3 (hval 1 _ v1 rfl rfl) h1
        exact topManifest_walk v0 l0 n1 W hl0.1))
#print axioms topManifest_holds
end Go.Proofs.Ytaepdbkfaoiimab
