/- TopTower returns true at every input, and leaves it as it was. Conditions: none. -/
import Derived.Test.YtaepdbkfaoiimabTower
import Derived.Test.YtaepdbkfaoiimabMergeLaw
import Derived.Test.YtaepdbkfaoiimabOpen
import Derived.Deep.RegionHeld3
set_option linter.unusedVariables false
set_option linter.unusedSimpArgs false
namespace Go.Proofs.Ytaepdbkfaoiimab
open Go.ChangeShapes Go.WideShapes Go.ChangeAt Go.RowKit Go.WideMaps Go.WideElems
open Go.ChangeMaps (open_string shut_string)

abbrev kA : ByteArray := ⟨#[97]⟩
abbrev kB : ByteArray := ⟨#[98]⟩
abbrev kE : ByteArray := ⟨#[]⟩

attribute [local go_sem ↓] neq_ent eql_ent
set_option maxRecDepth 4000 in
set_option maxHeartbeats 16000000 in
theorem topTower_walk (vl vh vh2 : Value) (l : List Ent) (hs hs2 : List Int) (key : ByteArray) (w : World) (hl : Ents w.heap.size w vl l) (hh : Ints w.heap.size w vh hs) (hh2 : Ints w.heap.size w vh2 hs2) (hkey : key.size ≤ 9223372036854775807) :
    Calls Try.prog 4 #[vl, vh, vh2, .string key] w fun e w' => e = .returned (.bool true) ∧ Below w.heap.size w w' := by
  obtain ⟨A, c, rfl, hc, hc2, hcell⟩ := hl.form
  obtain ⟨Ah, ch, rfl, hch, hch2, hcellh⟩ := hh.form
  obtain ⟨Ag, cg, rfl, hcg, hcg2, hcellg⟩ := hh2.form
  have HL : Hid (Ents w.heap.size w (.slice A l.length c) l) := hl
  have HOK := Lib.hid hl.2
  have HC := Lib.hid hcell
  have HCH := Lib.hid hcellh
  have HCG := Lib.hid hcellg
  clear hl hh hh2 hcell hcellh hcellg
  go_enter Try.func4, Try.ntmps4
  go_wp2_with fail
  refine (tnew_any w.heap.size w (Nat.le_refl _)).mono ?_
  rintro e w1 ⟨⟨rfl, hT⟩, hb1⟩
  go_wp2_with fail
  refine (tput_any w.heap.size _ [] [w.heap.size] ⟨kB, kE, false⟩ 9 w1 hT hb1.size (by decide) ⟨by decide, by decide⟩).mono ?_
  rintro d w2 ⟨F, rfl, hT2, hF, _⟩
  have hb2 := hb1.trans (hF.below hb1.size)
  clear hT hF hb1
  go_wp2_with fail
  refine (tput_any w.heap.size _ _ F ⟨kA, kE, false⟩ (-9) w2 hT2 hb2.size (by decide) ⟨by decide, by decide⟩).mono ?_
  rintro d w3 ⟨F3, rfl, hT3, hF3, _⟩
  have hb3 := hb2.trans (hF3.below hb2.size)
  rw [show putE (putE [] ⟨kB, kE, false⟩) ⟨kA, kE, false⟩ = [⟨kA, kE, false⟩, ⟨kB, kE, false⟩] by decide +kernel] at hT3
  clear hT2 hF3 hb2
  go_wp2_with fail
  refine (tmany_any _ _ _ _ _ hT3).mono ?_
  rintro e w4 ⟨rfl, rfl⟩
  rw [show ([⟨kA, kE, false⟩, ⟨kB, kE, false⟩] : List Ent).length = 2 from rfl]
  go_wp2_with fail
  refine (tall_any _ _ _ _ _ hT3 (by decide)).mono ?_
  rintro e w4 ⟨v4, rfl, he4, hb4⟩
  obtain ⟨A4, c4, rfl, h4c, _, h4⟩ := he4.form
  obtain ⟨bb, bo, rfl, _, q1, _, _⟩ := h4 0 _ rfl
  have HB4 := Lib.hid (hb3.trans (hb4.mono hb3.size))
  clear he4 hb4 hT3 hb3 h4
  rw [show ([⟨kA, kE, false⟩, ⟨kB, kE, false⟩] : List Ent).length = 2 from rfl]
  simp at q1
  go_wp2_with fail
  refine (lightE_any w.heap.size _ l 60 _ (HL.out.below HB4.out)).mono ?_
  rintro e w5 ⟨rfl, rfl⟩
  clear q1
  cases hlight : lightE 60 l
  · go_wp2_with fail
    go_ret
    exact ⟨rfl, HB4.out⟩
  have HLT := Lib.hid (lightE_out hlight)
  by_cases h2 : hs.length < l.length
  · have t1 : decide ((hs.length : Int) < (l.length : Int)) = true := decide_eq_true (by omega)
    clear hlight
    go_wp2_with fail
    go_ret
    exact ⟨rfl, HB4.out⟩
  have t1 : decide ((hs.length : Int) < (l.length : Int)) = false := decide_eq_false (by omega)
  by_cases h2' : hs2.length < l.length
  · have t1' : decide ((hs2.length : Int) < (l.length : Int)) = true := decide_eq_true (by omega)
    clear hlight
    go_wp2_with fail
    go_ret
    exact ⟨rfl, HB4.out⟩
  have t1' : decide ((hs2.length : Int) < (l.length : Int)) = false := decide_eq_false (by omega)
  by_cases h3 : 20 < key.size
  · have t2 : decide (20 < (key.size : Int)) = true := decide_eq_true (by omega)
    clear hlight
    go_wp2_with fail
    go_ret
    exact ⟨rfl, HB4.out⟩
  have t2 : decide (20 < (key.size : Int)) = false := decide_eq_false (by omega)
  clear hlight
  go_wp2_with fail
  refine (tnew_any w.heap.size w4 HB4.out.size).mono ?_
  rintro e w5 ⟨⟨rfl, hT⟩, hb5⟩
  have HB5 := Lib.hid (HB4.out.trans (hb5.mono HB4.out.size))
  generalize hsb : w4.heap.size = sb at *
  clear t1 t1' t2
  go_wp2_with fail
  refine (tnew_any w.heap.size w5 HB5.out.size).mono ?_
  rintro e w6 ⟨⟨rfl, hU⟩, hb6⟩
  have HT6 := Lib.hid (hT.below hb6)
  have HU6 := Lib.hid hU
  have HB6 := Lib.hid (HB5.out.trans (hb6.mono HB5.out.size))
  have HNE : Hid (∀ b ∈ [w5.heap.size], b ∉ [sb]) := by
    intro b hb
    have := hT.lt sb (by simp)
    simp at hb ⊢; omega
  generalize htb : w5.heap.size = tb at *
  clear hT hU hb5 hb6 HB5 HB4 htb hsb
  go_wp2_with fail
  go_loopw [12] (fun i wr => ∃ (k : Nat) (F G : List Nat), i = .int .i64 (k : Int) ∧ k ≤ l.length ∧ Hid (Tower w.heap.size wr sb ((l.take k).foldl putE []) F) ∧ Hid (Tower w.heap.size wr tb ((l.take k).foldl putE []) G) ∧ Hid (∀ b ∈ G, b ∉ F) ∧ Below w.heap.size w wr) (fun i _ => l.length - (intOf i).toNat)
  case atStart => exact ⟨0, _, _, rfl, Nat.zero_le _, HT6.out, HU6.out, HNE.out, HB6.out⟩
  case round =>
    clear HT6 HU6 HB6 HNE
    obtain ⟨k, F, G, rfl, hk, hT, hU, hne, hbl⟩ := hrel
    by_cases hlt : k < l.length
    · obtain ⟨y, hy, hty, _⟩ := getElem?_of_lt hlt
      obtain ⟨z, hz, _, _⟩ := getElem?_of_lt (show k < hs.length by omega)
      obtain ⟨z2, hz2, _, _⟩ := getElem?_of_lt (show k < hs2.length by omega)
      obtain ⟨b, o, rfl, hb, c1, c2, c3⟩ := HC.out k y hy
      obtain ⟨b', o', rfl, hb', c4⟩ := HCH.out k z hz
      obtain ⟨b2, o2, rfl, hb2, c5⟩ := HCG.out k z2 hz2
      have HD : Hid (∀ {wx : World}, Below w.heap.size w wx → wx.cell? ⟨b, o + k * 3, none⟩ = some (.string y.k) ∧ wx.cell? ⟨b, o + k * 3 + 1, none⟩ = some (.string y.v) ∧ wx.cell? ⟨b, o + k * 3 + 2, none⟩ = some (.bool y.g) ∧ wx.cell? ⟨b', o' + k, none⟩ = some (.int .i64 z) ∧ wx.cell? ⟨b2, o2 + k, none⟩ = some (.int .i64 z2)) := by
        intro wx hbl
        exact ⟨(hbl.cell (p := ⟨b, o + k * 3, none⟩) hb).trans c1, (hbl.cell (p := ⟨b, o + k * 3 + 1, none⟩) hb).trans c2, (hbl.cell (p := ⟨b, o + k * 3 + 2, none⟩) hb).trans c3, (hbl.cell (p := ⟨b', o' + k, none⟩) hb').trans c4, (hbl.cell (p := ⟨b2, o2 + k, none⟩) hb2).trans c5⟩
      have hyok := HOK.out y (List.mem_of_getElem? hy)
      have hlen : ((l.take k).foldl putE []).length ≤ 100 := by
        have h1 := foldl_put_len (l.take k) []
        have h2 : (l.take k).length ≤ l.length := List.length_take_le' _ _
        have h3 := HLT.out.1
        simp at h1
        omega
      have hnext : (l.take (k + 1)).foldl putE [] = putE ((l.take k).foldl putE []) y := by rw [hty, List.foldl_append]; rfl
      have hget : getE (putE ((l.take k).foldl putE []) y) y.k = some y := by rw [get_put hT.out.rises, if_pos rfl]
      have HNX := Lib.hid hnext
      have HGET := Lib.hid hget
      have HTD : Hid (Tower w.heap.size wr.drew sb ((l.take k).foldl putE []) F) := hT.out.drewN 1
      have HUD : Hid (Tower w.heap.size wr.drew tb ((l.take k).foldl putE []) G) := hU.out.drewN 1
      have HBD : Hid (Below w.heap.size w wr.drew) := hbl.drew
      have HYO := Lib.hid hyok
      have hlen2 : (putE ((l.take k).foldl putE []) y).length ≤ 101 := by
        have := putE_len ((l.take k).foldl putE []) y; omega
      obtain ⟨d1, d2, d3, d4, d5⟩ := HD.out hbl
      generalize hM0 : (l.take k).foldl putE [] = M0 at *
      clear c1 c2 c3 c4 c5 hy hz hz2 hty hyok hnext hget hT hU hbl hM0
      have g1 : (0 : Int) ≤ (k : Int) := by omega
      have g2 : (k : Int) < (l.length : Int) := by omega
      have g3 : (k : Int) < (hs.length : Int) := by omega
      have g4 : (k : Int) < (hs2.length : Int) := by omega
      go_wp2_with fail
      go_region_held3 (fun w' => (w'.cell? ⟨b, o + k * 3, none⟩ = some (.string y.k) ∧ w'.cell? ⟨b, o + k * 3 + 1, none⟩ = some (.string y.v) ∧ w'.cell? ⟨b, o + k * 3 + 2, none⟩ = some (.bool y.g) ∧ w'.cell? ⟨b', o' + k, none⟩ = some (.int .i64 z)) ∧ Below w.heap.size w w')
        ((first
            | exact ⟨⟨d1, d2, d3, d4⟩, HBD.out⟩
            | exact ⟨⟨(HD.out hB4).1, (HD.out hB4).2.1, (HD.out hB4).2.2.1, (HD.out hB4).2.2.2.1⟩, hB4⟩))
        ((first | (go_at_call 19; refine (tput_any w.heap.size sb M0 F y z _ HTD.out HBD.out.size (by omega) HYO.out).mono ?_; rintro d w3 ⟨F', rfl, hT3, hF3, hnew3⟩; have hB3 := hF3.below HBD.out.size; have hB4 := HBD.out.trans hB3)))
      have HU3 : Hid (Tower w.heap.size w3 tb M0 G) := HUD.out.fr hF3 hne.out
      have hne3 : ∀ b ∈ G, b ∉ F' := fun b hb hb' => by
        rcases hnew3 b hb' with h | h
        · exact hne.out b hb h
        · have := HUD.out.lt b hb; omega
      have HNE3 := Lib.hid hne3
      have HT3 := Lib.hid hT3
      have HB3 := Lib.hid hB4
      clear hne3 hT3 hB3 hB4 hF3 hnew3 HTD HUD HBD d1 d2 d3 d4 d5 hne
      have HB3D : Hid (Below w.heap.size w w3.drew) := HB3.out.drew
      have HU3D : Hid (Tower w.heap.size w3.drew tb M0 G) := HU3.out.drewN 1
      have HT3D : Hid (Tower w.heap.size w3.drew sb (putE M0 y) F') := HT3.out.drewN 1
      obtain ⟨d1, d2, d3, d4, d5⟩ := HD.out HB3.out
      go_wp2_with fail
      go_region_held3 (fun w' => (w'.cell? ⟨b, o + k * 3, none⟩ = some (.string y.k) ∧ w'.cell? ⟨b, o + k * 3 + 1, none⟩ = some (.string y.v) ∧ w'.cell? ⟨b, o + k * 3 + 2, none⟩ = some (.bool y.g) ∧ w'.cell? ⟨b2, o2 + k, none⟩ = some (.int .i64 z2)) ∧ Below w.heap.size w w')
        ((first
            | exact ⟨⟨d1, d2, d3, d5⟩, HB3D.out⟩
            | exact ⟨⟨(HD.out hB4).1, (HD.out hB4).2.1, (HD.out hB4).2.2.1, (HD.out hB4).2.2.2.2⟩, hB4⟩))
        ((first | (go_at_call 19; refine (tput_any w.heap.size tb M0 G y z2 _ HU3D.out HB3D.out.size (by omega) HYO.out).mono ?_; rintro d w4 ⟨G', rfl, hU4, hF4, hnew4⟩; have hB4' := hF4.below HB3D.out.size; have hB4 := HB3D.out.trans hB4')))
      have HT4 : Hid (Tower w.heap.size w4 sb (putE M0 y) F') := HT3D.out.fr hF4 fun b hb hb' => HNE3.out b hb' hb
      have hne4 : ∀ b ∈ G', b ∉ F' := fun b hb hb' => by
        rcases hnew4 b hb with h | h
        · exact HNE3.out b h hb'
        · have := HT3D.out.lt b hb'; omega
      have HNE4 := Lib.hid hne4
      have HU4 := Lib.hid hU4
      have HB4 := Lib.hid hB4
      clear hne4 hU4 hB4' hB4 hF4 hnew4 d1 d2 d3 d4 d5 HB3D HU3D HT3D HT3 HU3 HB3 HNE3
      generalize hM1 : putE M0 y = M1 at *
      obtain ⟨d1, d2, d3, d4, d5⟩ := HD.out HB4.out
      go_wp2_with fail
      refine (tget_two _ _ _ _ y.k w4 HT4.out (by omega)).mono ?_
      rintro e w5 ⟨⟨x, hx, rfl⟩, hb5⟩
      rw [HGET.out] at hx
      obtain rfl : x = y := hx
      rw [HGET.out]
      have HT6 := Lib.hid ((HT4.out.below hb5).below ((Below.refl _ _).alloc (Nat.le_refl _) (.cells #[.string x.k, .string x.v, .bool x.g] 25)))
      have HU6 := Lib.hid ((HU4.out.below hb5).below ((Below.refl _ _).alloc (Nat.le_refl _) (.cells #[.string x.k, .string x.v, .bool x.g] 25)))
      have HB6 := Lib.hid ((HB4.out.trans (hb5.mono HB4.out.size)).alloc (HB4.out.trans (hb5.mono HB4.out.size)).size (.cells #[.string x.k, .string x.v, .bool x.g] 25))
      clear d1 d2 d3 d4 d5 HT4 HU4 HB4 hb5
      obtain ⟨d1, d2, d3, d4, d5⟩ := HD.out HB6.out
      simp only [Option.isSome_some]
      go_wp2_with fail
      go_quiet (fail)
      go_wp2_with fail
      go_roundw
      case rel => exact ⟨k + 1, F', G', by simp, by omega, by rw [HNX.out]; exact HT6.out.drewN nq, by rw [HNX.out]; exact HU6.out.drewN nq, HNE4.out, below_drewN' HB6.out nq⟩
      case measure => simp [intOf] <;> omega
    · have hkl : k = l.length := by omega
      subst hkl
      rw [List.take_length] at hT hU
      have hlen : (l.foldl putE []).length ≤ 100 := by
        have h1 := foldl_put_len l []
        have h3 := HLT.out.1
        simp at h1
        omega
      have HR := Lib.hid hT.out.rises
      have HB := Lib.hid hbl
      generalize hM : l.foldl putE [] = M at *
      clear hne hbl hM
      go_wp2_with fail
      refine (tget_two _ _ _ _ key wr hT.out (by omega)).mono ?_
      rintro e w5 ⟨⟨x, hx, rfl⟩, hb5⟩
      have HX := Lib.hid hx
      have HT6 := Lib.hid ((hT.out.below hb5).below ((Below.refl _ _).alloc (Nat.le_refl _) (.cells #[.string x.k, .string x.v, .bool x.g] 25)))
      have HU6 := Lib.hid ((hU.out.below hb5).below ((Below.refl _ _).alloc (Nat.le_refl _) (.cells #[.string x.k, .string x.v, .bool x.g] 25)))
      have HB6 := Lib.hid ((HB.out.trans (hb5.mono HB.out.size)).alloc (HB.out.trans (hb5.mono HB.out.size)).size (.cells #[.string x.k, .string x.v, .bool x.g] 25))
      have hx6 := Blk.new w5 25 #[.string x.k, .string x.v, .bool x.g]
      have HX6 := Lib.hid hx6
      clear hx hT hU HB hb5 hx6
      go_wp2_with fail
      refine (tget_two _ _ _ _ key _ HU6.out (by omega)).mono ?_
      rintro e w7 ⟨⟨x2, hx2, rfl⟩, hb7⟩
      obtain rfl : x2 = x := hx2.trans HX.out.symm
      have hx7 := (HX6.out.below hb7 (by simp)).alloc (.cells #[.string x2.k, .string x2.v, .bool x2.g] 25)
      have hy7 := Blk.new w7 25 #[.string x2.k, .string x2.v, .bool x2.g]
      have HT7 := Lib.hid ((HT6.out.below hb7).below ((Below.refl _ _).alloc (Nat.le_refl _) (.cells #[.string x2.k, .string x2.v, .bool x2.g] 25)))
      have HU7 := Lib.hid ((HU6.out.below hb7).below ((Below.refl _ _).alloc (Nat.le_refl _) (.cells #[.string x2.k, .string x2.v, .bool x2.g] 25)))
      have hb8 := (HB6.out.trans (hb7.mono HB6.out.size))
      have HB8 := Lib.hid (hb8.alloc hb8.size (.cells #[.string x2.k, .string x2.v, .bool x2.g] 25))
      have hlt7 := hb7.size
      have HX7 := Lib.hid hx7
      have HY7 := Lib.hid hy7
      clear hx2 HX HX6 HT6 HU6 HB6 hb8 hb7 hx7 hy7
      generalize (getE M key).isSome = bb2
      have hlt11 : w5.heap.size < w7.heap.size + 1 := by simp at hlt7; omega
      clear hlt7
      go_wp2_with fail
      refine (tall_any _ _ _ _ _ HT7.out (by omega)).mono ?_
      rintro e w8 ⟨v8, rfl, he8, hb8⟩
      obtain ⟨A8, c8, rfl, hcc8, hcc8', hcell8⟩ := he8.form
      have HE8 : Hid (Ents w.heap.size w8 (.slice A8 M.length c8) M) := he8
      have HC8 := Lib.hid hcell8
      have HT8 := Lib.hid (HT7.out.below hb8)
      have HU8 := Lib.hid (HU7.out.below hb8)
      have HX8 := Lib.hid (HX7.out.below hb8 (by simp; omega))
      have HY8 := Lib.hid (HY7.out.below hb8 (by simp))
      have HB9 := Lib.hid (HB8.out.trans (hb8.mono HB8.out.size))
      generalize w5.heap.size = n11 at *
      generalize w7.heap.size = n13 at *
      clear he8 hcell8 hb8 HT7 HU7 HX7 HY7 HB8 hlt11
      go_wp2_with fail
      go_loopw [20] (fun i wr => ∃ k n : Nat, i = .int .i64 ((k : Int) + 1) ∧ k ≤ M.length ∧ w8.drewN n = wr) (fun i _ => M.length + 1 - (intOf i).toNat)
      case atStart => exact ⟨0, 0, rfl, by omega, rfl⟩
      case round =>
        obtain ⟨k, n, rfl, hk, rfl⟩ := hrel
        by_cases hlt : k + 1 < M.length
        · obtain ⟨x, hx, _, _⟩ := getElem?_of_lt (show k < M.length by omega)
          obtain ⟨y, hy, _, _⟩ := getElem?_of_lt hlt
          obtain ⟨b, o, rfl, hb, c1, c2, c3⟩ := HC8.out k x hx
          obtain ⟨b', o', hbo, hb', d1, d2, d3⟩ := HC8.out (k + 1) y hy
          injection hbo with hbo
          injection hbo with e1 e2
          subst e1; subst e2
          have hlxy : ltB x.k y.k = true := adj_of_rises M HR.out k x y hlt hx hy
          have t1 : Op.bytesLess y.k.toList x.k.toList = false := ltB_asymm hlxy
          have t2 : (y.k.toList == x.k.toList) = false := by rw [ba_beq]; simp [(ltB_ne hlxy).symm]
          clear hx hy hlxy c2 c3 d2 d3
          have g1 : (0 : Int) ≤ (k : Int) := by omega
          have g2 : (k : Int) + 1 < (M.length : Int) := by omega
          have g3 : IntKind.i64.wrap ((k : Int) + 1 - 1) = (k : Int) := by rw [show (k : Int) + 1 - 1 = k by omega]; exact IntWalk.i64_in _ (by omega)
          have g4 : ((k : Int) + 1).toNat = k + 1 := by omega
          have g5 : (0 : Int) ≤ (k : Int) + 1 := by omega
          go_wp2_with fail
          go_quiet (fail)
          go_wp2_with fail
          go_roundw
          case rel => exact ⟨k + 1, _, by go_num, by omega, rfl⟩
          case measure => simp [intOf] <;> omega
        · have a0 := HX8.out.cell 0
          have a1 := HX8.out.cell 1
          have a2 := HX8.out.cell 2
          have b0 := HY8.out.cell 0
          have b1 := HY8.out.cell 1
          have b2 := HY8.out.cell 2
          simp at a0 a1 a2 b0 b1 b2
          go_wp2_with fail
          refine (tmany_any _ _ _ _ _ (HT8.out.drewN n)).mono ?_
          rintro e w9 ⟨rfl, rfl⟩
          go_wp2_with fail
          refine (tmany_any _ _ _ _ _ (HU8.out.drewN n)).mono ?_
          rintro e w9 ⟨rfl, rfl⟩
          go_wp2_with fail
          refine (tmany_any _ _ _ _ _ (HT8.out.drewN n)).mono ?_
          rintro e w9 ⟨rfl, rfl⟩
          go_wp2_with fail
          refine (tall_any _ _ _ _ _ (HU8.out.drewN n) (by omega)).mono ?_
          rintro e w9 ⟨v9, rfl, he9, hb9⟩
          go_wp2_with fail
          refine (same_any w.heap.size _ _ M M _ ((HE8.out.drewN n).below hb9) he9).mono ?_
          rintro e w10 ⟨rfl, n10, rfl⟩
          rw [decide_eq_true (rfl : M = M)]
          have hz := below_drewN' HB9.out n
          have hz2 := below_drewN' (hz.trans (hb9.mono hz.size)) n10
          clear a0 a1 a2 b0 b1 b2
          go_wp2_with fail
          go_ret
          exact ⟨rfl, hz2⟩

-- CLOSING

set_option maxRecDepth 100000 in
theorem topTower_holds : Rows.TopTowerSaid :=
  OpenClaim.holds_of_wide 4 Try.f4 rfl rfl rfl rfl rfl rfl rfl ⟨rfl, rfl, rfl, rfl, rfl⟩ rfl rfl rfl rfl rfl (by kernel_rfl) Try.func4 (by kernel_rfl)
    (of_decide_eq_true (by kernel_rfl)) (by unfold Func.isWrapper; first | (rw [if_pos (by decide +kernel)]; kernel_rfl) | (rw [if_neg (by decide +kernel)]; exact ⟨rfl, rfl⟩))
    (fun os started H enc _ => close_lifted Rows.topTowerSpec 4 Try.f4 os started H enc (by kernel_rfl) Try.func4 (by kernel_rfl) rfl
      (fun ds hd => by
        rw [Try.params4] at hd
        match ds, hd with
        | [d1, d2, d3, d4], _ => rfl)
      (by kernel_rfl)
      (ChangeSpec.witness6 (enc := enc) (C := Try.checked) false ⟨#[], #[.slice none 0 0, .slice none 0 0, .slice none 0 0, .string ByteArray.empty], []⟩ 8 (by kernel_rfl) (by kernel_rfl) (by kernel_rfl) (by kernel_rfl))
      (fun W base args ds p hval hA => by
        rw [Try.params4] at hA hval
        obtain ⟨v0, v1, v2, v3, d0, d1, d2, d3, p0, p1, p2, p3, hargs, rfl, rfl, h0, h1, h2, h3⟩ := trodAll_four hA
        obtain rfl : args = #[v0, v1, v2, v3] := by cases args; simp_all
        obtain ⟨l0, hl0⟩ := ents_of (hval 0 _ v0 rfl rfl) h0
        obtain ⟨l1, hl1⟩ := ints_of (hval 1 _ v1 rfl rfl) h1
        obtain ⟨l2, hl2⟩ := ints_of (hval 2 _ v2 rfl rfl) h2
        obtain ⟨s3, rfl, rfl, rfl, hs3⟩ := open_string Try.underlying9 (hval 3 _ v3 rfl rfl) h3
        exact topTower_walk v0 v1 v2 l0 l1 l2 s3 W hl0 hl1.1 hl2.1 (by unfold maxLen at hs3; omega)))
#print axioms topTower_holds
end Go.Proofs.Ytaepdbkfaoiimab
