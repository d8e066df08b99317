/- TowerSays returns true at every input, and leaves it as it was. Conditions: none. -/
import Derived.Test.YtaepdbkfaoiimaaTower
import Derived.Test.YtaepdbkfaoiimaaMergeLaw
import Derived.Test.YtaepdbkfaoiimaaOpen
import Derived.Deep.RegionHeld3
set_option linter.unusedVariables false
set_option linter.unusedSimpArgs false
namespace Go.Proofs.Ytaepdbkfaoiimaa
open Go.ChangeShapes Go.WideShapes Go.ChangeAt Go.RowKit Go.WideMaps Go.WideElems
open Go.ChangeMaps (open_string shut_string)

abbrev sK : ByteArray := ⟨#[107]⟩
abbrev sX : ByteArray := ⟨#[120]⟩
theorem towers_any (w : World) : Calls Try.prog 24 #[] w fun e w' => e = .returned (.bool true) ∧ Below w.heap.size w w' := by
  go_enter Try.func24, Try.ntmps24
  go_wp2_with fail
  refine (tnew_any w.heap.size w (Nat.le_refl _)).mono ?_
  rintro e w1 ⟨⟨rfl, hT⟩, hb1⟩
  go_wp2_with fail
  refine (tput_any w.heap.size _ [] [w.heap.size] ⟨sK, sX, false⟩ 2 w1 hT hb1.size (by decide) ⟨by decide, by decide⟩).mono ?_
  rintro d w2 ⟨F, rfl, hT2, hF, _⟩
  have hb2 := hb1.trans (hF.below hb1.size)
  clear hT hF hb1
  go_wp2_with fail
  refine (tget_two _ _ _ _ sK w2 hT2 (by decide)).mono ?_
  rintro e w3 ⟨⟨x, hx, rfl⟩, hb3⟩
  have hT3 := hT2.below hb3
  have hb4 := hb2.trans (hb3.mono hb2.size)
  obtain rfl : x = ⟨sK, sX, false⟩ := by rw [hx]; decide
  have hs : (getE (putE [] ⟨sK, sX, false⟩) sK).isSome = true := by decide
  rw [hs]
  have HT4 : Hid (Tower w.heap.size (w3.alloc (.cells #[.string sK, .string sX, .bool false] 35)) w.heap.size (putE [] ⟨sK, sX, false⟩) F) := hT3.below ((Below.refl _ _).alloc (Nat.le_refl _) _)
  have HB4 := Lib.hid hb4
  clear hx hs hb2 hb3 hT2 hT3 hb4
  go_wp2_with fail
  refine (tmany_any _ _ _ _ _ HT4.out).mono ?_
  rintro e w5 ⟨rfl, rfl⟩
  rw [show (putE [] ⟨sK, sX, false⟩).length = 1 by decide]
  go_wp2_with fail
  go_ret
  exact ⟨rfl, HB4.out.alloc HB4.out.size _⟩

theorem rget_two (B : Nat) (v : Value) (l : List Ent) (key : ByteArray) (w : World) (h : Ents B w v l) :
    Calls Try.prog 30 #[v, .string key] w fun e w' => (∃ x : Ent, x = (getE l key).getD Ent.zero ∧ e = .returned (.tuple #[.agg #[.string x.k, .string x.v, .bool x.g], .bool (getE l key).isSome])) ∧ Below w.heap.size w w' := by
  refine (rget_any B v l key w h).mono ?_
  rintro e w' ⟨rfl, hb⟩
  exact ⟨⟨_, rfl, rfl⟩, hb⟩
attribute [local go_sem ↓] neq_ent eql_ent
set_option maxHeartbeats 8000000 in
theorem towerSays_walk (vl vh : Value) (l : List Ent) (hs : List Int) (key : ByteArray) (w : World) (hl : Ents w.heap.size w vl l) (hh : Ints w.heap.size w vh hs) (hkey : key.size ≤ 9223372036854775807) :
    Calls Try.prog 5 #[vl, vh, .string key] w fun e w' => e = .returned (.bool true) ∧ Below w.heap.size w w' := by
  obtain ⟨A, c, rfl, hc, hc2, hcell⟩ := hl.form
  obtain ⟨Ah, ch, rfl, hch, hch2, hcellh⟩ := hh.form
  have HL : Hid (Ents w.heap.size w (.slice A l.length c) l) := hl
  have HOK := Lib.hid hl.2
  have HC := Lib.hid hcell
  have HCH := Lib.hid hcellh
  clear hl hh hcell hcellh
  go_enter Try.func5, Try.ntmps5
  go_wp2_with fail
  refine (towers_any w).mono ?_
  rintro e w1 ⟨rfl, hb1⟩
  go_wp2_with fail
  refine (lightE_any w.heap.size _ l 60 _ (HL.out.below hb1)).mono ?_
  rintro e w2 ⟨rfl, rfl⟩
  cases hlight : lightE 60 l
  · go_wp2_with fail
    go_ret
    exact ⟨rfl, hb1⟩
  have HLT := Lib.hid (lightE_out hlight)
  by_cases h2 : hs.length < l.length
  · have t1 : decide ((hs.length : Int) < (l.length : Int)) = true := decide_eq_true (by omega)
    clear hlight
    go_wp2_with fail
    go_ret
    exact ⟨rfl, hb1⟩
  have t1 : decide ((hs.length : Int) < (l.length : Int)) = false := decide_eq_false (by omega)
  by_cases h3 : 20 < key.size
  · have t2 : decide (20 < (key.size : Int)) = true := decide_eq_true (by omega)
    clear hlight
    go_wp2_with fail
    go_ret
    exact ⟨rfl, hb1⟩
  have t2 : decide (20 < (key.size : Int)) = false := decide_eq_false (by omega)
  clear hlight
  go_wp2_with fail
  refine (tnew_any w.heap.size w1 hb1.size).mono ?_
  rintro e w2 ⟨⟨rfl, hT⟩, hb2⟩
  have hbb := hb1.trans (hb2.mono hb1.size)
  have HT := Lib.hid hT
  have HB := Lib.hid hbb
  generalize htb : w1.heap.size = tb at *
  clear hT hb1 hb2 hbb t1 t2 htb
  go_wp2_with fail
  go_loopw [9, 10] (fun m i wr => ∃ (k : Nat) (F : List Nat), i = .int .i64 (k : Int) ∧ k ≤ l.length ∧ Hid (Ents w.heap.size wr m ((l.take k).foldl putE [])) ∧ Hid (Tower w.heap.size wr tb ((l.take k).foldl putE []) F) ∧ Below w.heap.size w wr) (fun _ i _ => l.length - (intOf i).toNat)
  case atStart => exact ⟨0, [tb], rfl, Nat.zero_le _, ⟨Rd.nil _ _ _ _, by simp⟩, HT.out, HB.out⟩
  case round =>
    clear HT HB
    obtain ⟨k, F, rfl, hk, hm, hT, hbl⟩ := hrel
    by_cases hlt : k < l.length
    · obtain ⟨y, hy, hty, _⟩ := getElem?_of_lt hlt
      obtain ⟨z, hz, _, _⟩ := getElem?_of_lt (show k < hs.length by omega)
      obtain ⟨b, o, rfl, hb, c1, c2, c3⟩ := HC.out k y hy
      obtain ⟨b', o', rfl, hb', c4⟩ := HCH.out k z hz
      have d1 := (hbl.cell (p := ⟨b, o + k * 3, none⟩) hb).trans c1
      have d2 := (hbl.cell (p := ⟨b, o + k * 3 + 1, none⟩) hb).trans c2
      have d3 := (hbl.cell (p := ⟨b, o + k * 3 + 2, none⟩) hb).trans c3
      have d4 := (hbl.cell (p := ⟨b', o' + k, none⟩) hb').trans c4
      have hyok := HOK.out y (List.mem_of_getElem? hy)
      have hlen : ((l.take k).foldl putE []).length ≤ 100 := by
        have h1 := foldl_put_len (l.take k) []
        have h2 : (l.take k).length ≤ l.length := List.length_take_le' _ _
        have h3 := HLT.out.1
        simp at h1
        omega
      have hnext : (l.take (k + 1)).foldl putE [] = putE ((l.take k).foldl putE []) y := by rw [hty, List.foldl_append]; rfl
      have HNX := Lib.hid hnext
      have HTD : Hid (Tower w.heap.size wr.drew tb ((l.take k).foldl putE []) F) := hT.out.drewN 1
      have HMD : Hid (Ents w.heap.size wr.drew _ ((l.take k).foldl putE [])) := hm.out.drewN 1
      have HBD : Hid (Below w.heap.size w wr.drew) := hbl.drew
      have HYO := Lib.hid hyok
      have hlen2 : (putE ((l.take k).foldl putE []) y).length ≤ 101 := by
        have := putE_len ((l.take k).foldl putE []) y; omega
      generalize hM0 : (l.take k).foldl putE [] = M0 at *
      clear c1 c2 c3 c4 hy hz hty hyok hnext hT hm hbl hM0
      have g1 : (0 : Int) ≤ (k : Int) := by omega
      have g2 : (k : Int) < (l.length : Int) := by omega
      have g3 : (k : Int) < (hs.length : Int) := by omega
      go_wp2_with fail
      go_region_held3 (fun w' => (w'.cell? ⟨b, o + k * 3, none⟩ = some (.string y.k) ∧ w'.cell? ⟨b, o + k * 3 + 1, none⟩ = some (.string y.v) ∧ w'.cell? ⟨b, o + k * 3 + 2, none⟩ = some (.bool y.g) ∧ w'.cell? ⟨b', o' + k, none⟩ = some (.int .i64 z)) ∧ Below w.heap.size w w')
        ((first
            | exact ⟨⟨d1, d2, d3, d4⟩, HBD.out⟩
            | exact ⟨⟨(hB3.cell (p := ⟨b, o + k * 3, none⟩) hb).trans d1, (hB3.cell (p := ⟨b, o + k * 3 + 1, none⟩) hb).trans d2, (hB3.cell (p := ⟨b, o + k * 3 + 2, none⟩) hb).trans d3, (hB3.cell (p := ⟨b', o' + k, none⟩) hb').trans d4⟩, hB4⟩))
        ((first | (go_at_call 27; refine (tput_any w.heap.size tb M0 F y z _ HTD.out HBD.out.size (by omega) HYO.out).mono ?_; rintro d w3 ⟨F', rfl, hT3, hF3, _⟩; have hB3 := hF3.below HBD.out.size; have hB4 := HBD.out.trans hB3)))
      have e1 := (hB3.cell (p := ⟨b, o + k * 3, none⟩) hb).trans d1
      have e2 := (hB3.cell (p := ⟨b, o + k * 3 + 1, none⟩) hb).trans d2
      have e3 := (hB3.cell (p := ⟨b, o + k * 3 + 2, none⟩) hb).trans d3
      have HM3 : Hid (Ents w.heap.size w3 _ M0) := HMD.out.fr hF3
      have HT3 := Lib.hid hT3
      clear d1 d2 d3 d4 hT3 hF3 hB3 HTD HMD HBD
      go_wp2_with fail
      refine (rput_any w.heap.size _ M0 y _ HM3.out (by omega) HYO.out).mono ?_
      rintro d w4 ⟨u, rfl, hm4, hb4⟩
      obtain ⟨A4, c4, rfl, hcc4, hcc5, _⟩ := hm4.form
      have HT4 := Lib.hid (HT3.out.below hb4)
      have HM4 : Hid (Ents w.heap.size w4 (.slice A4 (putE M0 y).length c4) (putE M0 y)) := hm4
      have HB5 := Lib.hid (hB4.trans (hb4.mono hB4.size))
      clear e1 e2 e3 HM3 HT3 hm4 hb4 hB4
      generalize hM1 : putE M0 y = M1 at *
      go_wp2_with fail
      refine (tget_two _ _ _ _ key w4 HT4.out (by omega)).mono ?_
      rintro e w5 ⟨⟨x, hx, rfl⟩, hb5⟩
      have HX := Lib.hid hx
      have HT6 := Lib.hid ((HT4.out.below hb5).below ((Below.refl _ _).alloc (Nat.le_refl _) (.cells #[.string x.k, .string x.v, .bool x.g] 35)))
      have HM6 := Lib.hid ((HM4.out.below hb5).below ((Below.refl _ _).alloc (Nat.le_refl _) (.cells #[.string x.k, .string x.v, .bool x.g] 35)))
      have HB6 := Lib.hid ((HB5.out.trans (hb5.mono HB5.out.size)).alloc (HB5.out.trans (hb5.mono HB5.out.size)).size (.cells #[.string x.k, .string x.v, .bool x.g] 35))
      have hx6 := Blk.new w5 35 #[.string x.k, .string x.v, .bool x.g]
      have HX6 := Lib.hid hx6
      clear hx HT4 HM4 HB5 hb5 hx6
      go_wp2_with fail
      refine (rget_two _ _ _ key _ HM6.out).mono ?_
      rintro e w7 ⟨⟨x2, hx2, rfl⟩, hb7⟩
      obtain rfl : x2 = x := hx2.trans HX.out.symm
      have hx7 := (HX6.out.below hb7 (by simp)).alloc (.cells #[.string x2.k, .string x2.v, .bool x2.g] 35)
      have hy7 := Blk.new w7 35 #[.string x2.k, .string x2.v, .bool x2.g]
      have HT7 := Lib.hid ((HT6.out.below hb7).below ((Below.refl _ _).alloc (Nat.le_refl _) (.cells #[.string x2.k, .string x2.v, .bool x2.g] 35)))
      have HM7 := Lib.hid ((HM6.out.below hb7).below ((Below.refl _ _).alloc (Nat.le_refl _) (.cells #[.string x2.k, .string x2.v, .bool x2.g] 35)))
      have hb8 := (HB6.out.trans (hb7.mono HB6.out.size))
      have HB8 := Lib.hid (hb8.alloc hb8.size (.cells #[.string x2.k, .string x2.v, .bool x2.g] 35))
      have hlt7 := hb7.size
      clear hx2 HX HX6 HT6 HM6 HB6 hb8 hb7
      generalize (getE M1 key).isSome = bb
      have a0 := hx7.cell 0
      have a1 := hx7.cell 1
      have a2 := hx7.cell 2
      have b0 := hy7.cell 0
      have b1 := hy7.cell 1
      have b2 := hy7.cell 2
      simp at a0 a1 a2 b0 b1 b2
      clear hx7 hy7
      go_wp2_with fail
      refine (tmany_any _ _ _ _ _ HT7.out).mono ?_
      rintro e w8 ⟨rfl, rfl⟩
      go_wp2_with fail
      refine (tall_any _ _ _ _ _ HT7.out (by omega)).mono ?_
      rintro e w8 ⟨v8, rfl, he8, hb8⟩
      go_wp2_with fail
      refine (same_any w.heap.size _ _ M1 M1 _ he8 (HM7.out.below hb8)).mono ?_
      rintro e w9 ⟨rfl, n9, rfl⟩
      rw [decide_eq_true (rfl : M1 = M1)]
      have HT9 := Lib.hid ((HT7.out.below hb8).drewN n9)
      have HM9 := Lib.hid ((HM7.out.below hb8).drewN n9)
      have HB9 := Lib.hid (below_drewN' (HB8.out.trans (hb8.mono HB8.out.size)) n9)
      clear a0 a1 a2 b0 b1 b2 hb8 he8 HT7 HM7 HB8
      go_wp2_with fail
      go_roundw
      case rel => exact ⟨k + 1, _, rfl, by omega, by rw [HNX.out]; exact HM9.out, by rw [HNX.out]; exact HT9.out, HB9.out⟩
      case measure => simp [intOf] <;> omega
    · clear hT hm
      go_wp2_with fail
      go_ret
      exact ⟨rfl, hbl⟩

-- CLOSING

set_option maxRecDepth 100000 in
theorem towerSays_holds : Rows.TowerSaysSaid :=
  OpenClaim.holds_of_wide 5 Try.f5 rfl rfl rfl rfl rfl rfl rfl ⟨rfl, rfl, rfl, rfl, rfl⟩ rfl rfl rfl rfl rfl (by kernel_rfl) Try.func5 (by kernel_rfl)
    (of_decide_eq_true (by kernel_rfl)) (by unfold Func.isWrapper; first | (rw [if_pos (by decide +kernel)]; kernel_rfl) | (rw [if_neg (by decide +kernel)]; exact ⟨rfl, rfl⟩))
    (fun os started H enc _ => close_lifted Rows.towerSaysSpec 5 Try.f5 os started H enc (by kernel_rfl) Try.func5 (by kernel_rfl) rfl
      (fun ds hd => by
        rw [Try.params5] at hd
        match ds, hd with
        | [d1, d2, d3], _ => rfl)
      (by kernel_rfl)
      (ChangeSpec.witness6 (enc := enc) (C := Try.checked) false ⟨#[], #[.slice none 0 0, .slice none 0 0, .string ByteArray.empty], []⟩ 8 (by kernel_rfl) (by kernel_rfl) (by kernel_rfl) (by kernel_rfl))
      (fun W base args ds p hval hA => by
        rw [Try.params5] at hA hval
        obtain ⟨v0, v1, v2, d0, d1, d2, p0, p1, p2, hargs, rfl, rfl, h0, h1, h2⟩ := trodAll_three hA
        obtain rfl : args = #[v0, v1, v2] := by cases args; simp_all
        obtain ⟨l0, hl0⟩ := ents_of (hval 0 _ v0 rfl rfl) h0
        obtain ⟨l1, hl1⟩ := ints_of (hval 1 _ v1 rfl rfl) h1
        obtain ⟨s2, rfl, rfl, rfl, hs2⟩ := open_string Try.underlying9 (hval 2 _ v2 rfl rfl) h2
        exact towerSays_walk v0 v1 l0 l1 s2 W hl0 hl1.1 (by unfold maxLen at hs2; omega)))
#print axioms towerSays_holds
end Go.Proofs.Ytaepdbkfaoiimaa
