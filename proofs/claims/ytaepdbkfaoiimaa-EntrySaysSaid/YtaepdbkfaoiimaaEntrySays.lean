/- EntrySays returns true at every input, and leaves it as it was. Conditions: none. -/
import Derived.Test.YtaepdbkfaoiimaaParse
import Derived.Test.YtaepdbkfaoiimaaOpen
import Derived.Deep.RegionHeld3
set_option linter.unusedVariables false
set_option linter.unusedSimpArgs false
namespace Go.Proofs.Ytaepdbkfaoiimaa
open Go.ChangeShapes Go.WideShapes Go.ChangeAt Go.RowKit Go.WideMaps Go.WideElems
open Go.ChangeMaps (open_string shut_string)

abbrev eK : ByteArray := ⟨#[107]⟩
abbrev eX : ByteArray := ⟨#[120]⟩
theorem entries_any (w : World) : Calls Try.prog 33 #[] w fun e w' => e = .returned (.bool true) ∧ Below w.heap.size w w' := by
  go_enter Try.func33, Try.ntmps33
  go_wp2_with fail
  have hents : Ents w.heap.size (w.alloc (.cells #[.string eK, .string eX, .bool false] 35)) (.slice (some ⟨w.heap.size, 0, none⟩) 1 1) [⟨eK, eX, false⟩] :=
    ⟨rd_lit3 w.heap.size w _ rfl _ _ _, by intro e he; simp at he; subst he; exact ⟨by decide, by decide⟩⟩
  refine (bytes_any w.heap.size _ [⟨eK, eX, false⟩] _ hents (by decide)).mono ?_
  rintro e w1 ⟨rfl, hb1⟩
  have hF : bytesF [⟨eK, eX, false⟩] = 0 := by decide +kernel
  have hS : bytesS [⟨eK, eX, false⟩] = ⟨#[1, 0, 1, 1, 107, 120]⟩ := by decide +kernel
  rw [hF, hS]
  have HB := Lib.hid (((Below.refl w.heap.size w).alloc (Nat.le_refl _) (.cells #[.string eK, .string eX, .bool false] 35)).trans (hb1.mono (by simp)))
  clear hents hb1 hF hS
  go_wp2_with fail
  refine (same_err 0 0 w1).mono ?_
  rintro e w2 ⟨rfl, rfl⟩
  go_wp2_with fail
  go_ret
  exact ⟨rfl, HB.out⟩

set_option maxHeartbeats 8000000 in
theorem entrySays_walk (vl : Value) (l : List Ent) (s : ByteArray) (w : World) (hl : Ents w.heap.size w vl l) (hs : s.size ≤ 9223372036854775807) :
    Calls Try.prog 6 #[vl, .string s] w fun e w' => e = .returned (.bool true) ∧ Below w.heap.size w w' := by
  obtain ⟨A, c, rfl, hc, hc2, hcell⟩ := hl.form
  have HL : Hid (Ents w.heap.size w (.slice A l.length c) l) := hl
  have HC := Lib.hid hcell
  clear hl hcell
  go_enter Try.func6, Try.ntmps6
  go_wp2_with fail
  refine (entries_any w).mono ?_
  rintro e w1 ⟨rfl, hb1⟩
  go_wp2_with fail
  refine (lightE_any w.heap.size _ l 8 _ (HL.out.below hb1)).mono ?_
  rintro e w2 ⟨rfl, rfl⟩
  cases hlight : lightE 8 l
  · go_wp2_with fail
    go_ret
    exact ⟨rfl, hb1⟩
  have HLT := Lib.hid (lightE_out hlight)
  by_cases h3 : 100 < s.size
  · have t2 : decide (100 < (s.size : Int)) = true := decide_eq_true (by omega)
    clear hlight
    go_wp2_with fail
    go_ret
    exact ⟨rfl, hb1⟩
  have t2 : decide (100 < (s.size : Int)) = false := decide_eq_false (by omega)
  clear hlight
  have hlen : l.length < 256 := by have := HLT.out.1; omega
  have HB1 := Lib.hid hb1
  clear hb1
  go_wp2_with fail
  go_loopw [6] (fun x wr => ∃ k : Nat, x = .int .i64 (k : Int) ∧ k ≤ l.length ∧ Below w.heap.size w wr) (fun x _ => l.length - (intOf x).toNat)
  case atStart => exact ⟨0, rfl, Nat.zero_le _, HB1.out⟩
  case round =>
    obtain ⟨k, rfl, hk, hbl⟩ := hrel
    by_cases hlt : k < l.length
    · obtain ⟨y, hy, hty, _⟩ := getElem?_of_lt hlt
      obtain ⟨b, o, rfl, hb, c1, c2, c3⟩ := HC.out k y hy
      have HD : Hid (∀ {wx : World}, Below w.heap.size w wx → wx.cell? ⟨b, o + k * 3, none⟩ = some (.string y.k) ∧ wx.cell? ⟨b, o + k * 3 + 1, none⟩ = some (.string y.v) ∧ wx.cell? ⟨b, o + k * 3 + 2, none⟩ = some (.bool y.g)) := by
        intro wx hbl
        exact ⟨(hbl.cell (p := ⟨b, o + k * 3, none⟩) hb).trans c1, (hbl.cell (p := ⟨b, o + k * 3 + 1, none⟩) hb).trans c2, (hbl.cell (p := ⟨b, o + k * 3 + 2, none⟩) hb).trans c3⟩
      have HBD : Hid (Below w.heap.size w wr.drew) := hbl.drew
      have g1 : (0 : Int) ≤ (k : Int) := by omega
      have g2 : (k : Int) < (l.length : Int) := by omega
      clear c1 c2 c3 hy hty hbl t2
      go_wp2_with fail
      go_region_held3 (fun w' => (w'.cell? ⟨b, o + k * 3, none⟩ = some (.string y.k) ∧ w'.cell? ⟨b, o + k * 3 + 1, none⟩ = some (.string y.v) ∧ w'.cell? ⟨b, o + k * 3 + 2, none⟩ = some (.bool y.g)) ∧ Below w.heap.size w w')
        ((first
            | exact ⟨HD.out HBD.out, HBD.out⟩
            | exact ⟨HD.out hB4, hB4⟩
            | exact ⟨HD.out hB5, hB5⟩
            | exact ⟨HD.out hB6, hB6⟩))
        ((first
            | (go_at_call 35; refine (check_any y _).mono ?_; rintro d w3 ⟨rfl, hb3⟩; have hB4 : Below w.heap.size w w3 := Below.trans (And.right (by assumption)) (hb3.mono (Below.size (And.right (by assumption)))))
            | (go_at_call 36; refine (rfault_any y _).mono ?_; rintro d w3 ⟨rfl, hb3⟩; have hB5 : Below w.heap.size w w3 := Below.trans (And.right (by assumption)) (hb3.mono (Below.size (And.right (by assumption)))))
            | (go_at_call 34; refine (same_err (faultE y) (faultE y) _).mono ?_; rintro d w3 ⟨rfl, rfl⟩; have hB6 := And.right (by assumption))))
      all_goals
        go_wp2_with fail
        go_roundw
        case rel => exact ⟨k + 1, by simp, by omega, hB6⟩
        case measure => simp [intOf] <;> omega
    · clear t2
      have HB := Lib.hid hbl
      clear hbl
      go_wp2_with fail
      refine (bytes_any w.heap.size _ l wr (HL.out.below HB.out) hlen).mono ?_
      rintro d w3 ⟨rfl, hb3⟩
      have HB3 := Lib.hid (HB.out.trans (hb3.mono HB.out.size))
      clear hb3
      go_wp2_with fail
      refine (rbytes_any w.heap.size _ l w3 (HL.out.below HB3.out) hlen).mono ?_
      rintro d w4 ⟨rfl, hb4⟩
      have HB4 := Lib.hid (HB3.out.trans (hb4.mono HB3.out.size))
      clear hb4
      go_wp2_with fail
      refine (parse_any w.heap.size s w4 hs).mono ?_
      rintro d w5 ⟨v5, rfl, he5, hb5⟩
      have HB5 := Lib.hid (HB4.out.trans (hb5.mono HB4.out.size))
      have HE5 := Lib.hid he5
      clear hb5 he5
      go_wp2_with fail
      refine (entriesOf_any w.heap.size s w5 (by omega)).mono ?_
      rintro d w6 ⟨v6, rfl, he6, hb6⟩
      have HB6 := Lib.hid (HB5.out.trans (hb6.mono HB5.out.size))
      have HE6 := Lib.hid he6
      have HE5' := Lib.hid (HE5.out.below hb6)
      clear hb6 he6
      go_wp2_with fail
      refine (same_err (bytesF l) (bytesF l) w6).mono ?_
      rintro d w7 ⟨rfl, rfl⟩
      rw [decide_eq_true (rfl : bytesF l = bytesF l)]
      go_wp2_with fail
      refine (same_any w.heap.size _ _ ((parseR s).getD []) ((parseR s).getD []) _ HE5'.out HE6.out).mono ?_
      rintro d w7 ⟨rfl, n7, rfl⟩
      rw [decide_eq_true (rfl : (parseR s).getD [] = (parseR s).getD [])]
      go_wp2_with fail
      refine (same_err (perr s) (perr s) _).mono ?_
      rintro d w7 ⟨rfl, rfl⟩
      rw [decide_eq_true (rfl : perr s = perr s)]
      go_wp2_with fail
      go_ret
      exact ⟨rfl, below_drewN' HB6.out n7⟩

-- CLOSING

set_option maxRecDepth 100000 in
theorem entrySays_holds : Rows.EntrySaysSaid :=
  OpenClaim.holds_of_wide 6 Try.f6 rfl rfl rfl rfl rfl rfl rfl ⟨rfl, rfl, rfl, rfl, rfl⟩ rfl rfl rfl rfl rfl (by kernel_rfl) Try.func6 (by kernel_rfl)
    (of_decide_eq_true (by kernel_rfl)) (by unfold Func.isWrapper; first | (rw [if_pos (by decide +kernel)]; kernel_rfl) | (rw [if_neg (by decide +kernel)]; exact ⟨rfl, rfl⟩))
    (fun os started H enc _ => close_lifted Rows.entrySaysSpec 6 Try.f6 os started H enc (by kernel_rfl) Try.func6 (by kernel_rfl) rfl
      (fun ds hd => by
        rw [Try.params6] at hd
        match ds, hd with
        | [d1, d2], _ => rfl)
      (by kernel_rfl)
      (ChangeSpec.witness6 (enc := enc) (C := Try.checked) false ⟨#[], #[.slice none 0 0, .string ByteArray.empty], []⟩ 8 (by kernel_rfl) (by kernel_rfl) (by kernel_rfl) (by kernel_rfl))
      (fun W base args ds p hval hA => by
        rw [Try.params6] at hA hval
        obtain ⟨v0, v1, d0, d1, p0, p1, hargs, rfl, rfl, h0, h1⟩ := trodAll_two hA
        obtain rfl : args = #[v0, v1] := by cases args; simp_all
        obtain ⟨l0, hl0⟩ := ents_of (hval 0 _ v0 rfl rfl) h0
        obtain ⟨s1, rfl, rfl, rfl, hs1⟩ := open_string Try.underlying9 (hval 1 _ v1 rfl rfl) h1
        exact entrySays_walk v0 l0 s1 W hl0 (by unfold maxLen at hs1; omega)))
#print axioms entrySays_holds
end Go.Proofs.Ytaepdbkfaoiimaa
