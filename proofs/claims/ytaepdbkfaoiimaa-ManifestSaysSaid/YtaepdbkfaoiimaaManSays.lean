/- ManifestSays returns true at every input, and leaves it as it was. Conditions: none. -/
import Derived.Test.YtaepdbkfaoiimaaNote
import Derived.Test.YtaepdbkfaoiimaaManOf
import Derived.Test.YtaepdbkfaoiimaaManSame
import Derived.Test.YtaepdbkfaoiimaaOpen2
set_option linter.unusedVariables false
set_option linter.unusedSimpArgs false
namespace Go.Proofs.Ytaepdbkfaoiimaa
open Go.ChangeShapes Go.WideShapes Go.ChangeAt Go.RowKit Go.WideMaps Go.WideElems
open Go.ChangeMaps (open_string shut_string)
attribute [local go_sem ↓] eql_err eql_nilerr neq_err neq_nilerr guard_err guard_nilerr guardn_err guardn_nilerr

theorem MansR.form {B : Nat} {w : World} {v : Value} {l : List ManX} (h : MansR B w v l) : ∃ A c, v = .slice A l.length c ∧ l.length ≤ c ∧ c ≤ 9223372036854775807 ∧
    ∀ i x, l[i]? = some x → ∃ b o, A = some ⟨b, o, none⟩ ∧ b < w.heap.size ∧ w.cell? ⟨b, o + i * 4, none⟩ = some (.int .i64 x.m.ep) ∧ w.cell? ⟨b, o + i * 4 + 1, none⟩ = some (.int .i64 x.m.log) ∧ w.cell? ⟨b, o + i * 4 + 2, none⟩ = some x.vn ∧ w.cell? ⟨b, o + i * 4 + 3, none⟩ = some x.vo := by
  obtain ⟨⟨_, A, c, h1, h2, h3, h4⟩, _⟩ := h
  refine ⟨A, c, h1, h2, h3, fun i x hi => ?_⟩
  have hlt : i < l.length := by
    rcases Nat.lt_or_ge i l.length with h | h
    · exact h
    · rw [List.getElem?_eq_none h] at hi; cases hi
  obtain ⟨b, o, hA, _, hb, hc⟩ := h4 (by omega)
  have f := fun j hj => flat_at ManX.cells 4 (fun _ => rfl) l i j x hi hj
  exact ⟨b, o, hA, hb, hc _ _ (f 0 (by omega)), hc _ _ (f 1 (by omega)), hc _ _ (f 2 (by omega)), hc _ _ (f 3 (by omega))⟩
theorem manV_of {B : Nat} {w : World} {x : ManX} (h : Ints B w x.vn x.m.nw ∧ Ints B w x.vo x.m.od ∧ ManOk x.m) : ManV B w (.agg #[.int .i64 x.m.ep, .int .i64 x.m.log, x.vn, x.vo]) x.m := ⟨_, _, rfl, h.1, h.2.1⟩
theorem same_zero (w : World) : Calls Try.prog 34 #[.nilIface, .int .i64 0] w fun d w' => d = .returned (.bool true) ∧ w = w' := same_err 0 0 w
set_option maxRecDepth 20000 in
set_option maxHeartbeats 4000000 in
theorem manifests_any (w : World) : Calls Try.prog 57 #[] w fun e w' => e = .returned (.bool true) ∧ Below w.heap.size w w' := by
  obtain ⟨c1, e1, wf1, d1, f1, h1⟩ := note_new (n := manL 1 5) (manL_fault (by decide) (by decide) (by decide) (by decide))
  have HNEW := Lib.hid (cnew_any w.heap.size w (Nat.le_refl _))
  have HNT : Hid (∀ W p, ChipR w.heap.size W p Chip.new → Calls Try.prog 67 #[.pointer (some ⟨p, 0, none⟩), .int .i64 0, .agg #[.int .i64 1, .int .i64 5, .slice none 0 0, .slice none 0 0]] W fun e w' => e = .returned (.tuple #[.int .i64 0, .nilIface]) ∧ ChipR w.heap.size w' p c1 ∧ Fr w.heap.size (· = p) W w') := by
    intro W p hW
    have := note_any w.heap.size p Chip.new 0 _ (manL 1 5) W hW (.inl rfl) ⟨_, _, rfl, Rd.nil _ _ _ _, Rd.nil _ _ _ _⟩ (by decide) (by decide)
    rw [e1] at this
    exact this
  have HFI : Hid (∀ W p, ChipR w.heap.size W p c1 → Calls Try.prog 66 #[.pointer (some ⟨p, 0, none⟩)] W fun d w' => ∃ A1 k1 A2 k2, d = .returned (.tuple #[.agg #[.int .i64 1, .int .i64 5, .slice A1 0 k1, .slice A2 0 k2], .int .i64 0, .nilIface]) ∧
      Ints w.heap.size w' (.slice A1 0 k1) [] ∧ Ints w.heap.size w' (.slice A2 0 k2) [] ∧ Below W.heap.size W w') := fun W p hW => find_log w.heap.size p c1 1 5 0 W hW d1 h1
  clear e1 wf1 d1 f1 h1
  go_enter Try.func57, Try.ntmps57
  go_wp2_with (go_at_call 43; refine HNEW.out.mono ?_; rintro e w1 ⟨p, rfl, hp, hr1, hb1⟩)
  have HB1 := Lib.hid hb1
  have HN := Lib.hid (HNT.out w1 p hr1)
  clear hr1 hb1 HNEW HNT
  go_wp2_with (go_at_call 67; refine HN.out.mono ?_; rintro e w2 ⟨rfl, hr2, hf2⟩)
  have HB2 : Hid (Below w.heap.size w w2) := HB1.out.trans (hf2.below HB1.out.size)
  have HF := Lib.hid (HFI.out w2 p hr2)
  clear hr2 hf2 HN HFI
  go_wp2_with (go_at_call 66; refine HF.out.mono ?_; rintro e w3 ⟨A1, k1, A2, k2, rfl, hn, ho, hb3⟩)
  have HB3 := Lib.hid (HB2.out.trans (hb3.mono HB2.out.size))
  clear hn ho hb3 HF
  go_wp2_with (first
    | (go_at_call 34; refine (same_zero _).mono ?_; rintro e w4 ⟨rfl, rfl⟩))
  go_ret
  exact ⟨rfl, HB3.out.alloc HB3.out.size _⟩
set_option maxRecDepth 20000 in
set_option maxHeartbeats 8000000 in
theorem manifestSays_walk (v : Value) (m : Man) (s : ByteArray) (vl : Value) (l : List ManX) (w : World) (hm : ManV w.heap.size w v m) (hs : s.size ≤ 9223372036854775807) (hl : MansR w.heap.size w vl l) :
    Calls Try.prog 8 #[v, .string s, vl] w fun e w' => e = .returned (.bool true) ∧ Below w.heap.size w w' := by
  obtain ⟨vn, vo, rfl, hn, ho⟩ := hm
  obtain ⟨A1, c1, rfl, k1, k2, kX⟩ := hn.form
  obtain ⟨A2, c2, rfl, k3, k4, kY⟩ := ho.form
  obtain ⟨A, cp, rfl, q1, q2, hcell⟩ := hl.form
  have HC := Lib.hid hcell
  have HLI := Lib.hid hl.2
  have HM : Hid (ManV w.heap.size w (.agg #[.int .i64 m.ep, .int .i64 m.log, .slice A1 m.nw.length c1, .slice A2 m.od.length c2]) m) := ⟨_, _, rfl, hn, ho⟩
  have HX0 : Hid (Blk (w.alloc (.cells #[.int .i64 m.ep, .int .i64 m.log, .slice A1 m.nw.length c1, .slice A2 m.od.length c2] 91)) w.heap.size 91 #[.int .i64 m.ep, .int .i64 m.log, .slice A1 m.nw.length c1, .slice A2 m.od.length c2]) := Blk.new w _ _
  have HB0 : Hid (Below w.heap.size w (w.alloc (.cells #[.int .i64 m.ep, .int .i64 m.log, .slice A1 m.nw.length c1, .slice A2 m.od.length c2] 91))) := (Below.refl _ _).alloc (Nat.le_refl _) _
  have HMF := Lib.hid (manifests_any (w.alloc (.cells #[.int .i64 m.ep, .int .i64 m.log, .slice A1 m.nw.length c1, .slice A2 m.od.length c2] 91)))
  have HCE : Hid (∀ W, Below (w.alloc (.cells #[.int .i64 m.ep, .int .i64 m.log, .slice A1 m.nw.length c1, .slice A2 m.od.length c2] 91)).heap.size (w.alloc (.cells #[.int .i64 m.ep, .int .i64 m.log, .slice A1 m.nw.length c1, .slice A2 m.od.length c2] 91)) W → W.cell? ⟨w.heap.size, 0, none⟩ = some (.int .i64 m.ep) ∧ W.cell? ⟨w.heap.size, 1, none⟩ = some (.int .i64 m.log) ∧ W.cell? ⟨w.heap.size, 2, none⟩ = some (.slice A1 m.nw.length c1) ∧ W.cell? ⟨w.heap.size, 3, none⟩ = some (.slice A2 m.od.length c2)) := by
    intro W hW
    have h := HX0.out.below hW HX0.out.lt
    have y0 := h.cell 0
    have y1 := h.cell 1
    have y2 := h.cell 2
    have y3 := h.cell 3
    simp at y0 y1 y2 y3
    exact ⟨y0, y1, y2, y3⟩
  have HUP : Hid (∀ W, Below (w.alloc (.cells #[.int .i64 m.ep, .int .i64 m.log, .slice A1 m.nw.length c1, .slice A2 m.od.length c2] 91)).heap.size (w.alloc (.cells #[.int .i64 m.ep, .int .i64 m.log, .slice A1 m.nw.length c1, .slice A2 m.od.length c2] 91)) W → Below w.heap.size w W) := fun W hW => HB0.out.trans (hW.mono (by simp))
  have HLM : Hid (∀ W, Below (w.alloc (.cells #[.int .i64 m.ep, .int .i64 m.log, .slice A1 m.nw.length c1, .slice A2 m.od.length c2] 91)).heap.size (w.alloc (.cells #[.int .i64 m.ep, .int .i64 m.log, .slice A1 m.nw.length c1, .slice A2 m.od.length c2] 91)) W → Calls Try.prog 58 #[.agg #[.int .i64 m.ep, .int .i64 m.log, .slice A1 m.nw.length c1, .slice A2 m.od.length c2]] W fun e w' => e = .returned (.bool (lightM m)) ∧ Below W.heap.size W w') := fun W hW => lightM_any w.heap.size _ m W (HM.out.below (HUP.out W hW))
  clear kX kY hn ho hcell hl
  by_cases hgood : lightM m = true ∧ s.size ≤ 100 ∧ l.length ≤ 40
  case neg =>
    by_cases hg1 : lightM m = true
    case neg =>
      have hg1' : lightM m = false := by simpa using hg1
      rw [hg1'] at HLM
      clear hgood hg1 hg1'
      go_enter Try.func8, Try.ntmps8
      go_wp2_with (first
        | (go_at_call 57; refine HMF.out.mono ?_; rintro e w1 ⟨rfl, hb1⟩; obtain ⟨y0, y1, y2, y3⟩ := HCE.out w1 hb1)
        | (go_at_call 58; refine (HLM.out w1 hb1).mono ?_; rintro e w2 ⟨rfl, hb2⟩))
      go_ret
      exact ⟨rfl, (HUP.out w1 hb1).trans (hb2.mono (HUP.out w1 hb1).size)⟩
    rw [hg1] at HLM
    by_cases hg2 : s.size ≤ 100
    case neg =>
      have t38 : decide ((100 : Int) < (s.size : Int)) = true := decide_eq_true (by omega)
      clear hgood hg1 hg2
      go_enter Try.func8, Try.ntmps8
      go_wp2_with (first
        | (go_at_call 57; refine HMF.out.mono ?_; rintro e w1 ⟨rfl, hb1⟩; obtain ⟨y0, y1, y2, y3⟩ := HCE.out w1 hb1)
        | (go_at_call 58; refine (HLM.out w1 hb1).mono ?_; rintro e w2 ⟨rfl, hb2⟩))
      go_ret
      exact ⟨rfl, (HUP.out w1 hb1).trans (hb2.mono (HUP.out w1 hb1).size)⟩
    have t38 : decide ((100 : Int) < (s.size : Int)) = false := decide_eq_false (by omega)
    have hg3 : ¬ l.length ≤ 40 := fun h => hgood ⟨hg1, hg2, h⟩
    have t43 : decide ((40 : Int) < (l.length : Int)) = true := decide_eq_true (by omega)
    clear hgood hg1 hg2
    go_enter Try.func8, Try.ntmps8
    go_wp2_with (first
      | (go_at_call 57; refine HMF.out.mono ?_; rintro e w1 ⟨rfl, hb1⟩; obtain ⟨y0, y1, y2, y3⟩ := HCE.out w1 hb1)
      | (go_at_call 58; refine (HLM.out w1 hb1).mono ?_; rintro e w2 ⟨rfl, hb2⟩))
    go_ret
    exact ⟨rfl, (HUP.out w1 hb1).trans (hb2.mono (HUP.out w1 hb1).size)⟩
  obtain ⟨hg1, hg2, hg3⟩ := hgood
  rw [hg1] at HLM
  simp [lightM] at hg1
  obtain ⟨hl1, hl2⟩ := hg1
  have t38 : decide ((100 : Int) < (s.size : Int)) = false := decide_eq_false (by omega)
  have t43 : decide ((40 : Int) < (l.length : Int)) = false := decide_eq_false (by omega)
  have HMB : Hid (∀ W, Below (w.alloc (.cells #[.int .i64 m.ep, .int .i64 m.log, .slice A1 m.nw.length c1, .slice A2 m.od.length c2] 91)).heap.size (w.alloc (.cells #[.int .i64 m.ep, .int .i64 m.log, .slice A1 m.nw.length c1, .slice A2 m.od.length c2] 91)) W → Calls Try.prog 59 #[.agg #[.int .i64 m.ep, .int .i64 m.log, .slice A1 m.nw.length c1, .slice A2 m.od.length c2]] W fun e w' => e = .returned (.tuple #[.string (mbytesS m), errV m.fault]) ∧ Below (w.alloc (.cells #[.int .i64 m.ep, .int .i64 m.log, .slice A1 m.nw.length c1, .slice A2 m.od.length c2] 91)).heap.size (w.alloc (.cells #[.int .i64 m.ep, .int .i64 m.log, .slice A1 m.nw.length c1, .slice A2 m.od.length c2] 91)) w') := fun W hW => (mbytes_any w.heap.size _ m W (HM.out.below (HUP.out W hW)) (by omega) (by omega)).mono fun e w' ⟨h1, h2⟩ => ⟨h1, hW.trans (h2.mono hW.size)⟩
  have HRB : Hid (∀ W, Below (w.alloc (.cells #[.int .i64 m.ep, .int .i64 m.log, .slice A1 m.nw.length c1, .slice A2 m.od.length c2] 91)).heap.size (w.alloc (.cells #[.int .i64 m.ep, .int .i64 m.log, .slice A1 m.nw.length c1, .slice A2 m.od.length c2] 91)) W → Calls Try.prog 60 #[.agg #[.int .i64 m.ep, .int .i64 m.log, .slice A1 m.nw.length c1, .slice A2 m.od.length c2]] W fun e w' => e = .returned (.tuple #[.string (mbytesS m), .int .i64 m.fault]) ∧ Below (w.alloc (.cells #[.int .i64 m.ep, .int .i64 m.log, .slice A1 m.nw.length c1, .slice A2 m.od.length c2] 91)).heap.size (w.alloc (.cells #[.int .i64 m.ep, .int .i64 m.log, .slice A1 m.nw.length c1, .slice A2 m.od.length c2] 91)) w') := fun W hW => (rmbytes_any w.heap.size _ m W (HM.out.below (HUP.out W hW)) (by omega) (by omega)).mono fun e w' ⟨h1, h2⟩ => ⟨h1, hW.trans (h2.mono hW.size)⟩
  have HCK : Hid (∀ W, Below (w.alloc (.cells #[.int .i64 m.ep, .int .i64 m.log, .slice A1 m.nw.length c1, .slice A2 m.od.length c2] 91)).heap.size (w.alloc (.cells #[.int .i64 m.ep, .int .i64 m.log, .slice A1 m.nw.length c1, .slice A2 m.od.length c2] 91)) W → Calls Try.prog 63 #[.agg #[.int .i64 m.ep, .int .i64 m.log, .slice A1 m.nw.length c1, .slice A2 m.od.length c2]] W fun e w' => e = .returned (errV m.fault) ∧ Below W.heap.size W w') := fun W hW => mcheck_any w.heap.size _ m W (HM.out.below (HUP.out W hW)) (by omega) (by omega)
  have HRF : Hid (∀ W, Below (w.alloc (.cells #[.int .i64 m.ep, .int .i64 m.log, .slice A1 m.nw.length c1, .slice A2 m.od.length c2] 91)).heap.size (w.alloc (.cells #[.int .i64 m.ep, .int .i64 m.log, .slice A1 m.nw.length c1, .slice A2 m.od.length c2] 91)) W → Calls Try.prog 64 #[.agg #[.int .i64 m.ep, .int .i64 m.log, .slice A1 m.nw.length c1, .slice A2 m.od.length c2]] W fun e w' => e = .returned (.int .i64 m.fault) ∧ Below W.heap.size W w') := fun W hW => rmfault_any w.heap.size _ m W (HM.out.below (HUP.out W hW)) (by omega) (by omega)
  have HPA : Hid (∀ W, Calls Try.prog 61 #[.string s] W fun e w' => ∃ v, e = .returned (.tuple #[v, errV (merr s)]) ∧ ManV w.heap.size w' v ((manOf s).getD Man.zero) ∧ Below W.heap.size W w') := fun W => mparse_any w.heap.size s W hs
  have HRO : Hid (∀ W, Calls Try.prog 62 #[.string s] W fun e w' => ∃ v, e = .returned (.tuple #[v, .int .i64 (merr s)]) ∧ ManV w.heap.size w' v ((manOf s).getD Man.zero) ∧ Below W.heap.size W w') := fun W => rmof_any w.heap.size s W hs
  clear hl1 hl2 HX0
  go_enter Try.func8, Try.ntmps8
  go_wp2_with (first
    | (go_at_call 57; refine HMF.out.mono ?_; rintro e w1 ⟨rfl, hb1⟩; obtain ⟨y0, y1, y2, y3⟩ := HCE.out w1 hb1)
    | (go_at_call 58; refine (HLM.out w1 hb1).mono ?_; rintro e w2 ⟨rfl, hb2⟩; have hb12 := hb1.trans (hb2.mono hb1.size); clear y0 y1 y2 y3; obtain ⟨y0, y1, y2, y3⟩ := HCE.out w2 hb12)
    | (go_at_call 59; refine (HMB.out w2 hb12).mono ?_; rintro e w3 ⟨rfl, hb3⟩; clear y0 y1 y2 y3; obtain ⟨y0, y1, y2, y3⟩ := HCE.out w3 hb3)
    | (go_at_call 60; refine (HRB.out w3 hb3).mono ?_; rintro e w4 ⟨rfl, hb4⟩; clear y0 y1 y2 y3))
  have HB4 := Lib.hid hb4
  clear hb1 hb2 hb12 hb3 hb4 HMF HLM HMB HRB
  generalize hx : (manOf s).getD Man.zero = x at *
  generalize merr s = fs at *
  refine (HPA.out w4).mono ?_
  rintro e w5 ⟨v5, rfl, ⟨vn5, vo5, rfl, hn5, ho5⟩, hb5⟩
  obtain ⟨A3, c3, rfl, _, _, kX⟩ := hn5.form
  obtain ⟨A4, c4, rfl, _, _, kY⟩ := ho5.form
  clear kX kY
  have HX5 := Lib.hid (Blk.new w5 91 #[.int .i64 x.ep, .int .i64 x.log, .slice A3 x.nw.length c3, .slice A4 x.od.length c4])
  have HB5 : Hid (Below (w.alloc (.cells #[.int .i64 m.ep, .int .i64 m.log, .slice A1 m.nw.length c1, .slice A2 m.od.length c2] 91)).heap.size (w.alloc (.cells #[.int .i64 m.ep, .int .i64 m.log, .slice A1 m.nw.length c1, .slice A2 m.od.length c2] 91)) (w5.alloc (.cells #[.int .i64 x.ep, .int .i64 x.log, .slice A3 x.nw.length c3, .slice A4 x.od.length c4] 91))) := (HB4.out.trans (hb5.mono HB4.out.size)).alloc (Nat.le_trans HB4.out.size hb5.size) _
  have HN5 : Hid (ManV w.heap.size (w5.alloc (.cells #[.int .i64 x.ep, .int .i64 x.log, .slice A3 x.nw.length c3, .slice A4 x.od.length c4] 91)) (.agg #[.int .i64 x.ep, .int .i64 x.log, .slice A3 x.nw.length c3, .slice A4 x.od.length c4]) x) := ManV.below ⟨_, _, rfl, hn5, ho5⟩ ((Below.refl _ _).alloc (Nat.le_refl _) _)
  clear hn5 ho5 hb5 HPA HB4
  go_wp2_with fail
  refine (HRO.out _).mono ?_
  rintro e w6 ⟨v6, rfl, ⟨vn6, vo6, rfl, hn6, ho6⟩, hb6⟩
  obtain ⟨A5, c5, rfl, _, _, kX⟩ := hn6.form
  obtain ⟨A6, c6, rfl, _, _, kY⟩ := ho6.form
  have HX6 := Lib.hid (Blk.new w6 91 #[.int .i64 x.ep, .int .i64 x.log, .slice A5 x.nw.length c5, .slice A6 x.od.length c6])
  have HB6 : Hid (Below (w.alloc (.cells #[.int .i64 m.ep, .int .i64 m.log, .slice A1 m.nw.length c1, .slice A2 m.od.length c2] 91)).heap.size (w.alloc (.cells #[.int .i64 m.ep, .int .i64 m.log, .slice A1 m.nw.length c1, .slice A2 m.od.length c2] 91)) (w6.alloc (.cells #[.int .i64 x.ep, .int .i64 x.log, .slice A5 x.nw.length c5, .slice A6 x.od.length c6] 91))) := (HB5.out.trans (hb6.mono HB5.out.size)).alloc (Nat.le_trans HB5.out.size hb6.size) _
  have HN6 : Hid (ManV w.heap.size (w6.alloc (.cells #[.int .i64 x.ep, .int .i64 x.log, .slice A5 x.nw.length c5, .slice A6 x.od.length c6] 91)) (.agg #[.int .i64 x.ep, .int .i64 x.log, .slice A5 x.nw.length c5, .slice A6 x.od.length c6]) x) := ManV.below ⟨_, _, rfl, hn6, ho6⟩ ((Below.refl _ _).alloc (Nat.le_refl _) _)
  have HN5' : Hid (ManV w.heap.size (w6.alloc (.cells #[.int .i64 x.ep, .int .i64 x.log, .slice A5 x.nw.length c5, .slice A6 x.od.length c6] 91)) (.agg #[.int .i64 x.ep, .int .i64 x.log, .slice A3 x.nw.length c3, .slice A4 x.od.length c4]) x) := (HN5.out.below hb6).below ((Below.refl _ _).alloc (Nat.le_refl _) _)
  have HX5' : Hid (Blk (w6.alloc (.cells #[.int .i64 x.ep, .int .i64 x.log, .slice A5 x.nw.length c5, .slice A6 x.od.length c6] 91)) w5.heap.size 91 #[.int .i64 x.ep, .int .i64 x.log, .slice A3 x.nw.length c3, .slice A4 x.od.length c4]) := (HX5.out.below hb6 HX5.out.lt).alloc _
  clear kX kY hn6 ho6 hb6 HRO HB5 HN5 HX5
  generalize hq : w5.heap.size = q at *
  generalize hr : w6.heap.size = r at *
  go_wp2_with fail
  generalize (w6.alloc (.cells #[.int .i64 x.ep, .int .i64 x.log, .slice A5 x.nw.length c5, .slice A6 x.od.length c6] 91)) = W6 at *
  have HC6 : Hid (∀ w', Below W6.heap.size W6 w' → ((w'.cell? ⟨w.heap.size, 0, none⟩ = some (.int .i64 m.ep) ∧ w'.cell? ⟨w.heap.size, 1, none⟩ = some (.int .i64 m.log) ∧ w'.cell? ⟨w.heap.size, 2, none⟩ = some (.slice A1 m.nw.length c1) ∧ w'.cell? ⟨w.heap.size, 3, none⟩ = some (.slice A2 m.od.length c2) ∧ w'.cell? ⟨q, 0, none⟩ = some (.int .i64 x.ep) ∧ w'.cell? ⟨q, 1, none⟩ = some (.int .i64 x.log) ∧ w'.cell? ⟨q, 2, none⟩ = some (.slice A3 x.nw.length c3) ∧ w'.cell? ⟨q, 3, none⟩ = some (.slice A4 x.od.length c4) ∧ w'.cell? ⟨r, 0, none⟩ = some (.int .i64 x.ep) ∧ w'.cell? ⟨r, 1, none⟩ = some (.int .i64 x.log) ∧ w'.cell? ⟨r, 2, none⟩ = some (.slice A5 x.nw.length c5) ∧ w'.cell? ⟨r, 3, none⟩ = some (.slice A6 x.od.length c6)) ∧ Below W6.heap.size W6 w')) := by
    intro w' hb
    obtain ⟨y0, y1, y2, y3⟩ := HCE.out w' (HB6.out.trans (hb.mono HB6.out.size))
    have h5 := HX5'.out.below hb HX5'.out.lt
    have h6 := HX6.out.below hb HX6.out.lt
    have a0 := h5.cell 0
    have a1 := h5.cell 1
    have a2 := h5.cell 2
    have a3 := h5.cell 3
    have b0 := h6.cell 0
    have b1 := h6.cell 1
    have b2 := h6.cell 2
    have b3 := h6.cell 3
    simp at a0 a1 a2 a3 b0 b1 b2 b3
    exact ⟨⟨y0, y1, y2, y3, a0, a1, a2, a3, b0, b1, b2, b3⟩, hb⟩
  have HS8 : Hid (∀ w', w' = W6.drew → ((w'.cell? ⟨w.heap.size, 0, none⟩ = some (.int .i64 m.ep) ∧ w'.cell? ⟨w.heap.size, 1, none⟩ = some (.int .i64 m.log) ∧ w'.cell? ⟨w.heap.size, 2, none⟩ = some (.slice A1 m.nw.length c1) ∧ w'.cell? ⟨w.heap.size, 3, none⟩ = some (.slice A2 m.od.length c2) ∧ w'.cell? ⟨q, 0, none⟩ = some (.int .i64 x.ep) ∧ w'.cell? ⟨q, 1, none⟩ = some (.int .i64 x.log) ∧ w'.cell? ⟨q, 2, none⟩ = some (.slice A3 x.nw.length c3) ∧ w'.cell? ⟨q, 3, none⟩ = some (.slice A4 x.od.length c4) ∧ w'.cell? ⟨r, 0, none⟩ = some (.int .i64 x.ep) ∧ w'.cell? ⟨r, 1, none⟩ = some (.int .i64 x.log) ∧ w'.cell? ⟨r, 2, none⟩ = some (.slice A5 x.nw.length c5) ∧ w'.cell? ⟨r, 3, none⟩ = some (.slice A6 x.od.length c6)) ∧ Below W6.heap.size W6 w')) := fun w' e => by subst e; exact HC6.out _ (Below.refl _ _).drew
  have HT8 : Hid (∀ w0 w', Below W6.heap.size W6 w0 → Below w0.heap.size w0 w' → ((w'.cell? ⟨w.heap.size, 0, none⟩ = some (.int .i64 m.ep) ∧ w'.cell? ⟨w.heap.size, 1, none⟩ = some (.int .i64 m.log) ∧ w'.cell? ⟨w.heap.size, 2, none⟩ = some (.slice A1 m.nw.length c1) ∧ w'.cell? ⟨w.heap.size, 3, none⟩ = some (.slice A2 m.od.length c2) ∧ w'.cell? ⟨q, 0, none⟩ = some (.int .i64 x.ep) ∧ w'.cell? ⟨q, 1, none⟩ = some (.int .i64 x.log) ∧ w'.cell? ⟨q, 2, none⟩ = some (.slice A3 x.nw.length c3) ∧ w'.cell? ⟨q, 3, none⟩ = some (.slice A4 x.od.length c4) ∧ w'.cell? ⟨r, 0, none⟩ = some (.int .i64 x.ep) ∧ w'.cell? ⟨r, 1, none⟩ = some (.int .i64 x.log) ∧ w'.cell? ⟨r, 2, none⟩ = some (.slice A5 x.nw.length c5) ∧ w'.cell? ⟨r, 3, none⟩ = some (.slice A6 x.od.length c6)) ∧ Below W6.heap.size W6 w')) := fun w0 w' h1 h2 => HC6.out _ (h1.trans (h2.mono h1.size))
  have HCK8 : Hid (∀ W, Below W6.heap.size W6 W → _) := fun W hW => HCK.out W (HB6.out.trans (hW.mono HB6.out.size))
  have HRF8 : Hid (∀ W, Below W6.heap.size W6 W → _) := fun W hW => HRF.out W (HB6.out.trans (hW.mono HB6.out.size))
  have HSM8 : Hid (∀ W, Below W6.heap.size W6 W → Calls Try.prog 65 #[.agg #[.int .i64 x.ep, .int .i64 x.log, .slice A3 x.nw.length c3, .slice A4 x.od.length c4], .agg #[.int .i64 x.ep, .int .i64 x.log, .slice A5 x.nw.length c5, .slice A6 x.od.length c6]] W fun e w' => e = .returned (.bool true) ∧ Below W.heap.size W w') := by
    intro W hW
    have := sameman_any w.heap.size _ _ x x W (HN5'.out.below hW) (HN6.out.below hW)
    rw [sameM_refl] at this
    exact this
  clear HCE HX5' HX6 HCK HRF
  go_region_held3 (fun w' => ((w'.cell? ⟨w.heap.size, 0, none⟩ = some (.int .i64 m.ep) ∧ w'.cell? ⟨w.heap.size, 1, none⟩ = some (.int .i64 m.log) ∧ w'.cell? ⟨w.heap.size, 2, none⟩ = some (.slice A1 m.nw.length c1) ∧ w'.cell? ⟨w.heap.size, 3, none⟩ = some (.slice A2 m.od.length c2) ∧ w'.cell? ⟨q, 0, none⟩ = some (.int .i64 x.ep) ∧ w'.cell? ⟨q, 1, none⟩ = some (.int .i64 x.log) ∧ w'.cell? ⟨q, 2, none⟩ = some (.slice A3 x.nw.length c3) ∧ w'.cell? ⟨q, 3, none⟩ = some (.slice A4 x.od.length c4) ∧ w'.cell? ⟨r, 0, none⟩ = some (.int .i64 x.ep) ∧ w'.cell? ⟨r, 1, none⟩ = some (.int .i64 x.log) ∧ w'.cell? ⟨r, 2, none⟩ = some (.slice A5 x.nw.length c5) ∧ w'.cell? ⟨r, 3, none⟩ = some (.slice A6 x.od.length c6)) ∧ Below W6.heap.size W6 w'))
    ((first
      | assumption
      | exact HS8.out _ rfl
      | exact HT8.out _ _ (And.right (by assumption)) hbM
      | exact HT8.out _ _ (And.right (by assumption)) hbF
      | exact HT8.out _ _ (And.right (by assumption)) hbC))
    ((first
      | (go_at_call 63; refine (HCK8.out _ (And.right (by assumption))).mono ?_; rintro d w7 ⟨rfl, hbC⟩)
      | (go_at_call 64; refine (HRF8.out _ (And.right (by assumption))).mono ?_; rintro d w8 ⟨rfl, hbF⟩)
      | (go_at_call 34; refine (same_err _ _ _).mono ?_; rintro d w9 ⟨rfl, rfl⟩)
      | (go_at_call 65; refine (HSM8.out _ (And.right (by assumption))).mono ?_; rintro d w10 ⟨rfl, hbM⟩)))
  have HBE : Hid (Below W6.heap.size W6 w10) := And.right (by assumption)
  have HB10 : Hid (Below w.heap.size w w10) := HUP.out _ (HB6.out.trans (HBE.out.mono HB6.out.size))
  have HNEW := Lib.hid (cnew_any w.heap.size w10 HB10.out.size)
  have HFZ : Hid (∀ W p, ChipR w.heap.size W p Chip.new → Calls Try.prog 66 #[.pointer (some ⟨p, 0, none⟩)] W fun d w' => ∃ A3 k3 A4 k4, d = .returned (.tuple #[.agg #[.int .i64 0, .int .i64 0, .slice A3 0 k3, .slice A4 0 k4], .int .i64 0, .iface 137 (.int .i64 4)]) ∧ Ints w.heap.size w' (.slice A3 0 k3) [] ∧ Ints w.heap.size w' (.slice A4 0 k4) [] ∧ Below W.heap.size W w') := by
    intro W p hW
    refine (find_any w.heap.size p Chip.new W hW).mono ?_
    rw [show findR Chip.new = (Man.zero, 0, 4) from rfl]
    rintro d w' ⟨v, rfl, ⟨vn, vo, rfl, hn, ho⟩, hb⟩
    obtain ⟨A3, k3, rfl, _, _, _⟩ := hn.form
    obtain ⟨A4, k4, rfl, _, _, _⟩ := ho.form
    exact ⟨A3, k3, A4, k4, rfl, hn, ho, hb⟩
  have HSZ : Hid (∀ W A3 k3 A4 k4, Ints w.heap.size W (.slice A3 0 k3) [] → Ints w.heap.size W (.slice A4 0 k4) [] → Calls Try.prog 65 #[.agg #[.int .i64 0, .int .i64 0, .slice A3 0 k3, .slice A4 0 k4], .agg #[.int .i64 0, .int .i64 0, .slice none 0 0, .slice none 0 0]] W fun e w' => e = .returned (.bool true) ∧ Below W.heap.size W w') := by
    intro W A3 k3 A4 k4 h3 h4
    have := sameman_any w.heap.size _ _ Man.zero Man.zero W ⟨_, _, rfl, h3, h4⟩ (ManV.zero _ _)
    rw [sameM_refl] at this
    exact this
  have HS4 : Hid (∀ W, Calls Try.prog 34 #[.iface 137 (.int .i64 4), .int .i64 4] W fun d w' => d = .returned (.bool true) ∧ W = w') := fun W => same_err 4 4 W
  clear HCK8 HRF8 HSM8 HC6 HS8 HT8 HN5' HN6 hbC hbF hbM HBE HB6 HUP
  go_wp2_with (go_at_call 43; refine HNEW.out.mono ?_; rintro d w11 ⟨p, rfl, hp, hr11, hb11⟩)
  have HF11 := Lib.hid (HFZ.out w11 p hr11)
  have HB11 : Hid (Below w.heap.size w w11) := HB10.out.trans (hb11.mono HB10.out.size)
  have HR11 := Lib.hid hr11
  clear hr11 hb11 HFZ HNEW HB10
  go_wp2_with (first
    | (go_at_call 66; refine HF11.out.mono ?_; rintro d w12 ⟨A7, k7, A8, k8, rfl, h7, h8, hb12⟩)
    | (go_at_call 34; refine (HS4.out _).mono ?_; rintro d w13 ⟨rfl, rfl⟩)
    | (go_at_call 65; refine (HSZ.out _ A7 k7 A8 k8 (ints_nil h7) (ints_nil h8)).mono ?_; rintro d w14 ⟨rfl, hb14⟩))
  have HB15 : Hid (Below w.heap.size w (w14.alloc (.cells #[.int .i64 0, .int .i64 0, .slice none 0 0, .slice none 0 0] 91))) := by
    have h1 := HB11.out.trans (hb12.mono HB11.out.size)
    have h2 := h1.alloc h1.size (.cells #[.int .i64 0, .int .i64 0, .slice A7 0 k7, .slice A8 0 k8] 91)
    have h3 := h2.trans (hb14.mono h2.size)
    exact h3.alloc h3.size _
  have HR15 : Hid (ChipR w.heap.size (w14.alloc (.cells #[.int .i64 0, .int .i64 0, .slice none 0 0, .slice none 0 0] 91)) p Chip.new) := ((((HR11.out.below hb12).below ((Below.refl _ _).alloc (Nat.le_refl _) _)).below hb14).below ((Below.refl _ _).alloc (Nat.le_refl _) _))
  have HG15 : Hid (ManB w.heap.size (w14.alloc (.cells #[.int .i64 0, .int .i64 0, .slice none 0 0, .slice none 0 0] 91)) w14.heap.size Man.zero) := ⟨none, 0, none, 0, Blk.new _ _ _, Rd.nil _ _ _ _, Rd.nil _ _ _ _⟩
  have hwg : w.heap.size ≤ w14.heap.size := by
    have h1 := HB11.out.trans (hb12.mono HB11.out.size)
    have h2 := h1.alloc h1.size (.cells #[.int .i64 0, .int .i64 0, .slice A7 0 k7, .slice A8 0 k8] 91)
    have h3 := h2.trans (hb14.mono h2.size)
    exact h3.size
  clear hb12 h7 h8 hb14 HF11 HSZ HR11 HB11 HS4
  generalize (w14.alloc (.cells #[.int .i64 0, .int .i64 0, .slice none 0 0, .slice none 0 0] 91)) = w15 at *
  generalize w14.heap.size = g at *
  clear HM HB0 t38 t43 hg2 k1 k2 k3 k4
  go_loopw [18, 21] (fun a i wr => ∃ (k : Nat) (at_ : Int) (c : Chip) (z : Man), i = .int .i64 (k : Int) ∧ a = .int .i64 at_ ∧ k ≤ l.length ∧ Hid (Sit c z at_) ∧ Hid (ChipR w.heap.size wr p c) ∧ Hid (ManB w.heap.size wr g z) ∧ Hid (Below w.heap.size w wr)) (fun _ i _ => l.length - (intOf i).toNat)
  case atStart => exact ⟨0, 0, Chip.new, Man.zero, rfl, rfl, Nat.zero_le _, Sit.new, HR15.out, HG15.out, HB15.out⟩
  case round =>
    obtain ⟨k, at_, c, z, rfl, rfl, hk, hsit, hc, hg, hbl⟩ := hrel
    by_cases hlt : k < l.length
    · obtain ⟨e, he, _, _⟩ := getElem?_of_lt hlt
      obtain ⟨b, o, rfl, hb, e0, e1, e2, e3⟩ := HC.out k e he
      obtain ⟨hen, heo, hok⟩ := HLI.out e (List.mem_of_getElem? he)
      obtain ⟨y, vn, vo⟩ := e
      simp only at e0 e1 e2 e3 hen heo hok
      obtain ⟨A3, c3, rfl, _, _, kX⟩ := hen.form
      obtain ⟨A4, c4, rfl, _, _, kY⟩ := heo.form
      clear kX kY he hok
      have HEL : Hid (∀ W, Below w.heap.size w W → (W.cell? ⟨b, o + k * 4, none⟩ = some (.int .i64 y.ep) ∧ W.cell? ⟨b, o + k * 4 + 1, none⟩ = some (.int .i64 y.log) ∧ W.cell? ⟨b, o + k * 4 + 2, none⟩ = some (.slice A3 y.nw.length c3) ∧ W.cell? ⟨b, o + k * 4 + 3, none⟩ = some (.slice A4 y.od.length c4))) := fun W hW =>
        ⟨(hW.cell (p := ⟨b, o + k * 4, none⟩) hb).trans e0, (hW.cell (p := ⟨b, o + k * 4 + 1, none⟩) hb).trans e1, (hW.cell (p := ⟨b, o + k * 4 + 2, none⟩) hb).trans e2, (hW.cell (p := ⟨b, o + k * 4 + 3, none⟩) hb).trans e3⟩
      have HEV : Hid (∀ W, Below w.heap.size w W → ManV w.heap.size W (.agg #[.int .i64 y.ep, .int .i64 y.log, .slice A3 y.nw.length c3, .slice A4 y.od.length c4]) y) := fun W hW => ⟨_, _, rfl, hen.below hW, heo.below hW⟩
      clear e0 e1 e2 e3 hen heo
      have g1 : (0 : Int) ≤ (k : Int) := by omega
      have g2 : (k : Int) < (l.length : Int) := by omega
      obtain ⟨A5, c5, A6, c6, hz, hzn, hzo⟩ := hg.out
      have HZN := Lib.hid hzn
      have HZO := Lib.hid hzo
      have HZ := Lib.hid hz
      have HS18 : Hid (∀ w', Below wr.heap.size wr w' → (((w'.cell? ⟨b, o + k * 4, none⟩ = some (.int .i64 y.ep) ∧ w'.cell? ⟨b, o + k * 4 + 1, none⟩ = some (.int .i64 y.log) ∧ w'.cell? ⟨b, o + k * 4 + 2, none⟩ = some (.slice A3 y.nw.length c3) ∧ w'.cell? ⟨b, o + k * 4 + 3, none⟩ = some (.slice A4 y.od.length c4)) ∧ w'.cell? ⟨g, 0, none⟩ = some (.int .i64 z.ep)) ∧ Below wr.heap.size wr w')) := by
        intro w' hb'
        have h := hz.below hb' hz.lt
        have y0 := h.cell 0
        simp at y0
        exact ⟨⟨HEL.out w' (hbl.out.trans (hb'.mono hbl.out.size)), y0⟩, hb'⟩
      have HLM := Lib.hid (fun W (hW : Below wr.heap.size wr W) => lightM_any w.heap.size _ y W (HEV.out W (hbl.out.trans (hW.mono hbl.out.size))))
      have HT18 : Hid (∀ w0 w', Below wr.heap.size wr w0 → Below w0.heap.size w0 w' → (((w'.cell? ⟨b, o + k * 4, none⟩ = some (.int .i64 y.ep) ∧ w'.cell? ⟨b, o + k * 4 + 1, none⟩ = some (.int .i64 y.log) ∧ w'.cell? ⟨b, o + k * 4 + 2, none⟩ = some (.slice A3 y.nw.length c3) ∧ w'.cell? ⟨b, o + k * 4 + 3, none⟩ = some (.slice A4 y.od.length c4)) ∧ w'.cell? ⟨g, 0, none⟩ = some (.int .i64 z.ep)) ∧ Below wr.heap.size wr w')) := fun w0 w' h1 h2 => HS18.out _ (h1.trans (h2.mono h1.size))
      have HD18 : Hid (∀ w', w' = wr.drew → (((w'.cell? ⟨b, o + k * 4, none⟩ = some (.int .i64 y.ep) ∧ w'.cell? ⟨b, o + k * 4 + 1, none⟩ = some (.int .i64 y.log) ∧ w'.cell? ⟨b, o + k * 4 + 2, none⟩ = some (.slice A3 y.nw.length c3) ∧ w'.cell? ⟨b, o + k * 4 + 3, none⟩ = some (.slice A4 y.od.length c4)) ∧ w'.cell? ⟨g, 0, none⟩ = some (.int .i64 z.ep)) ∧ Below wr.heap.size wr w')) := fun w' e => by subst e; exact HS18.out _ (Below.refl _ _).drew
      clear hz hzn hzo
      by_cases hgo : lightM y = true ∧ z.ep < y.ep
      case neg =>
        by_cases hly : lightM y = true
        · have hep : decide (y.ep ≤ z.ep) = true := decide_eq_true (by by_cases h : z.ep < y.ep; exact absurd ⟨hly, h⟩ hgo; omega)
          rw [hly] at HLM
          clear hgo hly
          go_wp2_with fail
          go_region_held3 (fun w' => (((w'.cell? ⟨b, o + k * 4, none⟩ = some (.int .i64 y.ep) ∧ w'.cell? ⟨b, o + k * 4 + 1, none⟩ = some (.int .i64 y.log) ∧ w'.cell? ⟨b, o + k * 4 + 2, none⟩ = some (.slice A3 y.nw.length c3) ∧ w'.cell? ⟨b, o + k * 4 + 3, none⟩ = some (.slice A4 y.od.length c4)) ∧ w'.cell? ⟨g, 0, none⟩ = some (.int .i64 z.ep)) ∧ Below wr.heap.size wr w'))
            ((first
              | assumption
              | exact HD18.out _ rfl
              | exact HT18.out _ _ (And.right (by assumption)) hbA))
            ((first
              | (go_at_call 58; refine (HLM.out _ (And.right (by assumption))).mono ?_; rintro d w20 ⟨rfl, hbA⟩)))
          have HBZ : Hid (Below wr.heap.size wr w20) := And.right (by assumption)
          go_wp2_with fail
          go_ret
          exact ⟨rfl, hbl.out.trans (HBZ.out.mono hbl.out.size)⟩
        · have hly' : lightM y = false := by simpa using hly
          rw [hly'] at HLM
          obtain ⟨⟨⟨d0, d1, d2, d3⟩, dz⟩, _⟩ := HS18.out wr (Below.refl _ _)
          clear hgo hly hly'
          go_wp2_with fail
          refine wp_region_held_drew (S := fun w' => (((w'.cell? ⟨b, o + k * 4, none⟩ = some (.int .i64 y.ep) ∧ w'.cell? ⟨b, o + k * 4 + 1, none⟩ = some (.int .i64 y.log) ∧ w'.cell? ⟨b, o + k * 4 + 2, none⟩ = some (.slice A3 y.nw.length c3) ∧ w'.cell? ⟨b, o + k * 4 + 3, none⟩ = some (.slice A4 y.od.length c4)) ∧ w'.cell? ⟨g, 0, none⟩ = some (.int .i64 z.ep)) ∧ Below wr.heap.size wr w')) rfl (HD18.out _ rfl) (fun hHeld => ?_)
          refine wpAnyH_take (i := 0) (oi := ⟨some 122, _, _, _, _, _⟩) (v := .slice (some ⟨b, o, none⟩) l.length cp) rfl (by kernel_rfl) (by kernel_rfl) (by kernel_rfl) (fun _ _ _ h => h) (Or.inl ⟨by rfl, ?_⟩) (by assumption) ?_
          · intro wS hSw
            (try dsimp only at hSw)
            go_simp
          simp only [Act.put, List.setIfInBounds_toArray, List.set_cons_zero, List.set_cons_succ]
          refine wpAnyH_take (i := 1) (oi := ⟨some 123, _, _, _, _, _⟩) (v := .int .i64 (k : Int)) rfl (by kernel_rfl) (by kernel_rfl) (by kernel_rfl) (fun _ _ _ h => h) (Or.inl ⟨by rfl, ?_⟩) (by assumption) ?_
          · intro wS hSw
            (try dsimp only at hSw)
            go_simp
          simp only [Act.put, List.setIfInBounds_toArray, List.set_cons_zero, List.set_cons_succ]
          refine wpAnyH_take (i := 2) (oi := ⟨some 124, _, _, _, _, _⟩) (v := .pointer (some ⟨b, o + k * 4, none⟩)) rfl (by kernel_rfl) (by kernel_rfl) (by kernel_rfl) (fun _ _ _ h => h) (Or.inl ⟨by rfl, ?_⟩) (by assumption) ?_
          · intro wS hSw
            (try dsimp only at hSw)
            go_simp
          simp only [Act.put, List.setIfInBounds_toArray, List.set_cons_zero, List.set_cons_succ]
          refine wpAnyH_take (i := 3) (oi := ⟨some 125, _, _, _, _, _⟩) (v := (.agg #[.int .i64 y.ep, .int .i64 y.log, .slice A3 y.nw.length c3, .slice A4 y.od.length c4])) rfl (by kernel_rfl) (by kernel_rfl) (by kernel_rfl) (fun _ _ _ h => h) (Or.inl ⟨by rfl, ?_⟩) (by assumption) ?_
          · intro wS hSw
            (try dsimp only at hSw)
            go_simp
          simp only [Act.put, List.setIfInBounds_toArray, List.set_cons_zero, List.set_cons_succ]
          refine wpAnyH_ready (rs := [4]) (by kernel_rfl) (by simp) ?_
          refine AllReadyH.cons (o := ⟨some 126, _, _, _, _, _⟩) rfl (fun K hK => ?_) AllReadyH.nil
          go_simp
          go_at_call 58
          refine (HLM.out _ (Below.refl _ _).drew).mono ?_
          rintro d w20 ⟨rfl, hbA⟩
          try go_simp
          refine hK.out _ _ ?_ (fun hHeld => ?_)
          · exact HT18.out _ _ (Below.refl _ _).drew hbA
          clear hK K
          try simp only [Act.put, List.setIfInBounds_toArray, List.set_cons_zero, List.set_cons_succ]
          refine wpAnyH_take (i := 5) (oi := ⟨some 127, _, _, _, _, _⟩) (v := .bool true) rfl (by kernel_rfl) (by kernel_rfl) (by kernel_rfl) (fun _ _ _ h => h) (Or.inl ⟨by rfl, ?_⟩) (by assumption) ?_
          · intro wS hSw
            (try dsimp only at hSw)
            go_simp
          simp only [Act.put, List.setIfInBounds_toArray, List.set_cons_zero, List.set_cons_succ]
          refine wpAnyH_take (i := 6) (oi := ⟨some 128, _, _, _, _, _⟩) (v := .bool true) rfl (by kernel_rfl) (by kernel_rfl) (by kernel_rfl) (fun _ _ _ h => h) (Or.inl ⟨by rfl, ?_⟩) (by assumption) ?_
          · intro wS hSw
            (try dsimp only at hSw)
            go_simp
          simp only [Act.put, List.setIfInBounds_toArray, List.set_cons_zero, List.set_cons_succ]
          refine wpAnyH_take (i := 7) (oi := ⟨some 129, _, _, _, _, _⟩) (v := undef) rfl (by kernel_rfl) (by kernel_rfl) (by kernel_rfl) (fun _ _ _ h => h) (Or.inr ⟨by rfl, rfl⟩) (by assumption) ?_
          simp only [Act.put, List.setIfInBounds_toArray, List.set_cons_zero, List.set_cons_succ]
          refine wpAnyH_take (i := 8) (oi := ⟨some 130, _, _, _, _, _⟩) (v := undef) rfl (by kernel_rfl) (by kernel_rfl) (by kernel_rfl) (fun _ _ _ h => h) (Or.inr ⟨by rfl, rfl⟩) (by assumption) ?_
          simp only [Act.put, List.setIfInBounds_toArray, List.set_cons_zero, List.set_cons_succ]
          refine wpAnyH_take (i := 9) (oi := ⟨some 131, _, _, _, _, _⟩) (v := undef) rfl (by kernel_rfl) (by kernel_rfl) (by kernel_rfl) (fun _ _ _ h => h) (Or.inr ⟨by rfl, rfl⟩) (by assumption) ?_
          simp only [Act.put, List.setIfInBounds_toArray, List.set_cons_zero, List.set_cons_succ]
          refine wpAnyH_take (i := 10) (oi := ⟨some 132, _, _, _, _, _⟩) (v := undef) rfl (by kernel_rfl) (by kernel_rfl) (by kernel_rfl) (fun _ _ _ h => h) (Or.inr ⟨by rfl, rfl⟩) (by assumption) ?_
          simp only [Act.put, List.setIfInBounds_toArray, List.set_cons_zero, List.set_cons_succ]
          refine wpAnyH_take (i := 11) (oi := ⟨some 133, _, _, _, _, _⟩) (v := undef) rfl (by kernel_rfl) (by kernel_rfl) (by kernel_rfl) (fun _ _ _ h => h) (Or.inr ⟨by rfl, rfl⟩) (by assumption) ?_
          simp only [Act.put, List.setIfInBounds_toArray, List.set_cons_zero, List.set_cons_succ]
          refine wpAnyH_take (i := 12) (oi := ⟨some 134, _, _, _, _, _⟩) (v := undef) rfl (by kernel_rfl) (by kernel_rfl) (by kernel_rfl) (fun _ _ _ h => h) (Or.inr ⟨by rfl, rfl⟩) (by assumption) ?_
          simp only [Act.put, List.setIfInBounds_toArray, List.set_cons_zero, List.set_cons_succ]
          refine wpAnyH_take (i := 13) (oi := ⟨some 135, _, _, _, _, _⟩) (v := undef) rfl (by kernel_rfl) (by kernel_rfl) (by kernel_rfl) (fun _ _ _ h => h) (Or.inr ⟨by rfl, rfl⟩) (by assumption) ?_
          simp only [Act.put, List.setIfInBounds_toArray, List.set_cons_zero, List.set_cons_succ]
          refine wpAnyH_take (i := 14) (oi := ⟨some 136, _, _, _, _, _⟩) (v := undef) rfl (by kernel_rfl) (by kernel_rfl) (by kernel_rfl) (fun _ _ _ h => h) (Or.inr ⟨by rfl, rfl⟩) (by assumption) ?_
          simp only [Act.put, List.setIfInBounds_toArray, List.set_cons_zero, List.set_cons_succ]
          refine wpAnyH_take (i := 15) (oi := ⟨some 137, _, _, _, _, _⟩) (v := .bool true) rfl (by kernel_rfl) (by kernel_rfl) (by kernel_rfl) (fun _ _ _ h => h) (Or.inl ⟨by rfl, ?_⟩) (by assumption) ?_
          · intro wS hSw
            (try dsimp only at hSw)
            go_simp
          simp only [Act.put, List.setIfInBounds_toArray, List.set_cons_zero, List.set_cons_succ]
          refine wpAnyH_done (by kernel_rfl) ?_ _
          go_wp2_with fail
          go_ret
          exact ⟨rfl, hbl.out.trans (((Below.refl _ _).drew.trans (hbA.mono (Nat.le_refl _))).mono hbl.out.size)⟩
      obtain ⟨hly, hep⟩ := hgo
      have hep' : decide (y.ep ≤ z.ep) = false := decide_eq_false (by omega)
      rw [hly] at HLM
      simp [lightM] at hly
      obtain ⟨hly1, hly2⟩ := hly
      have HEP := Lib.hid hep
      clear hep
      go_wp2_with fail
      go_region_held3 (fun w' => (((w'.cell? ⟨b, o + k * 4, none⟩ = some (.int .i64 y.ep) ∧ w'.cell? ⟨b, o + k * 4 + 1, none⟩ = some (.int .i64 y.log) ∧ w'.cell? ⟨b, o + k * 4 + 2, none⟩ = some (.slice A3 y.nw.length c3) ∧ w'.cell? ⟨b, o + k * 4 + 3, none⟩ = some (.slice A4 y.od.length c4)) ∧ w'.cell? ⟨g, 0, none⟩ = some (.int .i64 z.ep)) ∧ Below wr.heap.size wr w'))
        ((first
          | assumption
          | exact HD18.out _ rfl
          | exact HT18.out _ _ (And.right (by assumption)) hbA))
        ((first
          | (go_at_call 58; refine (HLM.out _ (And.right (by assumption))).mono ?_; rintro d w20 ⟨rfl, hbA⟩)))
      have HBZ : Hid (Below wr.heap.size wr w20) := And.right (by assumption)
      have HB20 : Hid (Below w.heap.size w w20) := hbl.out.trans (HBZ.out.mono hbl.out.size)
      have HC20 : Hid (ChipR w.heap.size w20 p c) := hc.out.below HBZ.out
      have HZ20 := Lib.hid (HZ.out.below HBZ.out HZ.out.lt)
      have HZN20 := Lib.hid (HZN.out.below HBZ.out)
      have HZO20 := Lib.hid (HZO.out.below HBZ.out)
      obtain ⟨d0, d1, d2, d3⟩ := HEL.out w20 HB20.out
      have HRF20 := Lib.hid (rmfault_any w.heap.size _ y w20 (HEV.out w20 HB20.out) (by omega) (by omega))
      have HNO20 := Lib.hid (fun W (hW : Below w20.heap.size w20 W) => note_any w.heap.size p c at_ _ y W (HC20.out.below hW) hsit.out.at_ (HEV.out W (HB20.out.trans (hW.mono HB20.out.size))) (by omega) (by omega))
      have HEL20 : Hid (∀ W, Below w20.heap.size w20 W → _) := fun W hW => HEL.out W (HB20.out.trans (hW.mono HB20.out.size))
      have HSA := Lib.hid (fun n W => same_err n n W)
      clear HBZ HS18 HT18 HD18 HLM hc hg HZ HZN HZO hbA
      by_cases hf : y.fault = 0
      · obtain ⟨c', a', hne, hsit', hhd'⟩ := hsit.out.note hf HEP.out
        have HNO : Hid (∀ W, Below w20.heap.size w20 W → Calls Try.prog 67 #[.pointer (some ⟨p, 0, none⟩), .int .i64 at_, (.agg #[.int .i64 y.ep, .int .i64 y.log, .slice A3 y.nw.length c3, .slice A4 y.od.length c4])] W fun e w' => e = .returned (.tuple #[.int .i64 a', .nilIface]) ∧ ChipR w.heap.size w' p c' ∧ Fr w.heap.size (· = p) W w') := by
          intro W hW
          have := HNO20.out W hW
          rw [hne] at this
          exact this
        rw [hf] at HRF20
        have HSIT := Lib.hid hsit'
        have HHD := Lib.hid hhd'
        clear hne hsit' hhd' HNO20 hf
        go_wp2_with (first
          | (go_at_call 64; refine HRF20.out.mono ?_; rintro d w21 ⟨rfl, hb21⟩; clear d0 d1 d2 d3; obtain ⟨d0, d1, d2, d3⟩ := HEL20.out w21 hb21)
          | (go_at_call 67; refine (HNO.out w21 hb21).mono ?_; rintro d w22 ⟨rfl, hc22, hf22⟩; clear d0 d1 d2 d3))
        have hb22 : Below w.heap.size w w22 := by
          have h1 := HB20.out.trans (hb21.mono HB20.out.size)
          exact h1.trans (hf22.below h1.size)
        obtain ⟨d0, d1, d2, d3⟩ := HEL.out w22 hb22
        have hz22 := (HZ20.out.below hb21 HZ20.out.lt).fr hf22 (.inr (.inr (by decide)))
        have z0 := hz22.cell 0
        have z1 := hz22.cell 1
        have z2 := hz22.cell 2
        have z3 := hz22.cell 3
        simp at z0 z1 z2 z3
        have z4 := hz22.frozen 0
        have z5 := hz22.frozen 1
        have z6 := hz22.frozen 2
        have z7 := hz22.frozen 3
        have hev22 := HEV.out w22 hb22
        have HB23 : Hid (Below w.heap.size w ((((w22.setCell ⟨g, 0, none⟩ (.int .i64 y.ep)).setCell ⟨g, 1, none⟩ (.int .i64 y.log)).setCell ⟨g, 2, none⟩ (.slice A3 y.nw.length c3)).setCell ⟨g, 3, none⟩ (.slice A4 y.od.length c4))) := below4 hb22 hwg _ _ _ _
        have HC23 : Hid (ChipR w.heap.size ((((w22.setCell ⟨g, 0, none⟩ (.int .i64 y.ep)).setCell ⟨g, 1, none⟩ (.int .i64 y.log)).setCell ⟨g, 2, none⟩ (.slice A3 y.nw.length c3)).setCell ⟨g, 3, none⟩ (.slice A4 y.od.length c4)) p c') := hc22.man4 hz22 hwg _ _ _ _
        have HZ23 : Hid (Blk ((((w22.setCell ⟨g, 0, none⟩ (.int .i64 y.ep)).setCell ⟨g, 1, none⟩ (.int .i64 y.log)).setCell ⟨g, 2, none⟩ (.slice A3 y.nw.length c3)).setCell ⟨g, 3, none⟩ (.slice A4 y.od.length c4)) g 91 #[.int .i64 y.ep, .int .i64 y.log, .slice A3 y.nw.length c3, .slice A4 y.od.length c4]) := store4 hz22 _ _ _ _
        have HZN23 : Hid (Ints w.heap.size ((((w22.setCell ⟨g, 0, none⟩ (.int .i64 y.ep)).setCell ⟨g, 1, none⟩ (.int .i64 y.log)).setCell ⟨g, 2, none⟩ (.slice A3 y.nw.length c3)).setCell ⟨g, 3, none⟩ (.slice A4 y.od.length c4)) (.slice A3 y.nw.length c3) y.nw ∧ Ints w.heap.size ((((w22.setCell ⟨g, 0, none⟩ (.int .i64 y.ep)).setCell ⟨g, 1, none⟩ (.int .i64 y.log)).setCell ⟨g, 2, none⟩ (.slice A3 y.nw.length c3)).setCell ⟨g, 3, none⟩ (.slice A4 y.od.length c4)) (.slice A4 y.od.length c4) y.od) := by
          obtain ⟨vn, vo, e1, e2, e3⟩ := hev22
          cases e1
          exact ⟨ints_man4 e2 hz22 hwg _ _ _ _, ints_man4 e3 hz22 hwg _ _ _ _⟩
        have HFI := Lib.hid (find_sheet w.heap.size p c' y a' _ HC23.out HSIT.out.up HHD.out)
        have HSZ22 : Hid (Calls Try.prog 34 #[.nilIface, .int .i64 0] w22 fun d w' => d = .returned (.bool true) ∧ w22 = w') := same_zero w22
        clear hz22 hev22 hb22 hc22 hf22 hb21 HRF20 HNO HZ20 HZN20 HZO20
        go_wp2_with (go_at_call 34; refine HSZ22.out.mono ?_; rintro d w99 ⟨rfl, rfl⟩)
        clear d0 d1 d2 d3 z0 z1 z2 z3 z4 z5 z6 z7
        have HZ23' : Hid (∀ W, Below ((((w22.setCell ⟨g, 0, none⟩ (.int .i64 y.ep)).setCell ⟨g, 1, none⟩ (.int .i64 y.log)).setCell ⟨g, 2, none⟩ (.slice A3 y.nw.length c3)).setCell ⟨g, 3, none⟩ (.slice A4 y.od.length c4)).heap.size ((((w22.setCell ⟨g, 0, none⟩ (.int .i64 y.ep)).setCell ⟨g, 1, none⟩ (.int .i64 y.log)).setCell ⟨g, 2, none⟩ (.slice A3 y.nw.length c3)).setCell ⟨g, 3, none⟩ (.slice A4 y.od.length c4)) W → g < W.heap.size ∧ W.cell? ⟨g, 0, none⟩ = some (.int .i64 y.ep) ∧ W.cell? ⟨g, 1, none⟩ = some (.int .i64 y.log) ∧ W.cell? ⟨g, 2, none⟩ = some (.slice A3 y.nw.length c3) ∧ W.cell? ⟨g, 3, none⟩ = some (.slice A4 y.od.length c4)) := by
          intro W hW
          have h := HZ23.out.below hW HZ23.out.lt
          have z0 := h.cell 0
          have z1 := h.cell 1
          have z2 := h.cell 2
          have z3 := h.cell 3
          simp at z0 z1 z2 z3
          exact ⟨h.lt, z0, z1, z2, z3⟩
        generalize ((((w22.setCell ⟨g, 0, none⟩ (.int .i64 y.ep)).setCell ⟨g, 1, none⟩ (.int .i64 y.log)).setCell ⟨g, 2, none⟩ (.slice A3 y.nw.length c3)).setCell ⟨g, 3, none⟩ (.slice A4 y.od.length c4)) = W23 at *
        refine HFI.out.mono ?_
        rintro d w24 ⟨A6, k6, A7, k7, rfl, h6, h7, hb24⟩
        obtain ⟨hlt24, z0, z1, z2, z3⟩ := HZ23'.out w24 hb24
        have hbz : Below W23.heap.size W23 (w24.alloc (.cells #[.int .i64 y.ep, .int .i64 y.log, .slice A6 y.nw.length k6, .slice A7 y.od.length k7] 91)) := hb24.trans (((Below.refl _ _).alloc (Nat.le_refl _) _).mono hb24.size)
        have hsm := sameman_any w.heap.size (.agg #[.int .i64 y.ep, .int .i64 y.log, .slice A6 y.nw.length k6, .slice A7 y.od.length k7]) (.agg #[.int .i64 y.ep, .int .i64 y.log, .slice A3 y.nw.length c3, .slice A4 y.od.length c4]) y y (w24.alloc (.cells #[.int .i64 y.ep, .int .i64 y.log, .slice A6 y.nw.length k6, .slice A7 y.od.length k7] 91)) ⟨_, _, rfl, h6.below ((Below.refl _ _).alloc (Nat.le_refl _) _), h7.below ((Below.refl _ _).alloc (Nat.le_refl _) _)⟩ ⟨_, _, rfl, HZN23.out.1.below hbz, HZN23.out.2.below hbz⟩
        rw [sameM_refl] at hsm
        have HSM := Lib.hid hsm
        have HBZ := Lib.hid hbz
        clear h6 h7 hb24 hbz hsm HFI
        go_wp2_with (go_at_call 65; refine HSM.out.mono ?_; rintro d w25 ⟨rfl, hb25⟩)
        have hbw : Below W23.heap.size W23 w25 := HBZ.out.trans (hb25.mono HBZ.out.size)
        have HST : Hid (ChipR w.heap.size w25 p c' ∧ ManB w.heap.size w25 g y ∧ Below w.heap.size w w25) :=
          ⟨HC23.out.below hbw, ⟨A3, c3, A4, c4, HZ23.out.below hbw HZ23.out.lt, HZN23.out.1.below hbw, HZN23.out.2.below hbw⟩, HB23.out.trans (hbw.mono HB23.out.size)⟩
        clear hbw hb25 z0 z1 z2 z3 hlt24
        go_wp2_with fail
        go_roundw
        case rel => exact ⟨k + 1, a', c', y, by go_num, rfl, by omega, HSIT.out, HST.out⟩
        case measure => simp [intOf] <;> omega
      · have HNO : Hid (∀ W, Below w20.heap.size w20 W → Calls Try.prog 67 #[.pointer (some ⟨p, 0, none⟩), .int .i64 at_, (.agg #[.int .i64 y.ep, .int .i64 y.log, .slice A3 y.nw.length c3, .slice A4 y.od.length c4])] W fun e w' => e = .returned (.tuple #[.int .i64 0, errV y.fault]) ∧ ChipR w.heap.size w' p c ∧ Fr w.heap.size (· = p) W w') := by
          intro W hW
          have := HNO20.out W hW
          rw [note_fault hf] at this
          exact this
        have hpos : 0 < y.fault := by omega
        clear HNO20 hf
        go_wp2_with (first
          | (go_at_call 64; refine HRF20.out.mono ?_; rintro d w21 ⟨rfl, hb21⟩; clear d0 d1 d2 d3; obtain ⟨d0, d1, d2, d3⟩ := HEL20.out w21 hb21)
          | (go_at_call 67; refine (HNO.out w21 hb21).mono ?_; rintro d w22 ⟨rfl, hc22, hf22⟩)
          | (go_at_call 34; refine (HSA.out _ _).mono ?_; rintro d w23 ⟨rfl, rfl⟩))
        have HST : Hid (ChipR w.heap.size w22 p c ∧ ManB w.heap.size w22 g z ∧ Below w.heap.size w w22) := by
          have h1 := HB20.out.trans (hb21.mono HB20.out.size)
          exact ⟨hc22, ⟨A5, c5, A6, c6, (HZ20.out.below hb21 HZ20.out.lt).fr hf22 (.inr (.inr (by decide))), (HZN20.out.below hb21).fr hf22, (HZO20.out.below hb21).fr hf22⟩, h1.trans (hf22.below h1.size)⟩
        clear hc22 hf22 hb21 d0 d1 d2 d3
        go_wp2_with fail
        go_roundw
        case rel => exact ⟨k + 1, at_, c, z, by go_num, rfl, by omega, hsit.out, HST.out⟩
        case measure => simp [intOf] <;> omega
    · have t119 : decide ((k : Int) < (l.length : Int)) = false := decide_eq_false (by omega)
      go_wp2_with fail
      go_ret
      exact ⟨rfl, hbl.out⟩

-- CLOSING

set_option maxRecDepth 100000 in
theorem manifestSays_holds : Rows.ManifestSaysSaid :=
  OpenClaim.holds_of_wide 8 Try.f8 rfl rfl rfl rfl rfl rfl rfl ⟨rfl, rfl, rfl, rfl, rfl⟩ rfl rfl rfl rfl rfl (by kernel_rfl) Try.func8 (by kernel_rfl)
    (of_decide_eq_true (by kernel_rfl)) (by unfold Func.isWrapper; first | (rw [if_pos (by decide +kernel)]; kernel_rfl) | (rw [if_neg (by decide +kernel)]; exact ⟨rfl, rfl⟩))
    (fun os started H enc _ => close_lifted Rows.manifestSaysSpec 8 Try.f8 os started H enc (by kernel_rfl) Try.func8 (by kernel_rfl) rfl
      (fun ds hd => by
        rw [Try.params8] at hd
        match ds, hd with
        | [d1, d2, d3], _ => rfl)
      (by kernel_rfl)
      (ChangeSpec.witness6 (enc := enc) (C := Try.checked) false ⟨#[], #[.agg #[.int .i64 0, .int .i64 0, .slice none 0 0, .slice none 0 0], .string ByteArray.empty, .slice none 0 0], []⟩ 8 (by kernel_rfl) (by kernel_rfl) (by kernel_rfl) (by kernel_rfl))
      (fun W base args ds p hval hA => by
        rw [Try.params8] at hA hval
        obtain ⟨v0, v1, v2, d0, d1, d2, p0, p1, p2, hargs, rfl, rfl, h0, h1, h2⟩ := trodAll_three hA
        obtain rfl : args = #[v0, v1, v2] := by cases args; simp_all
        obtain ⟨l0, hl0⟩ := man_of (hval 0 _ v0 rfl rfl) h0
        obtain ⟨s1, rfl, rfl, rfl, hs1⟩ := open_string Try.underlying9 (hval 1 _ v1 rfl rfl) h1
        obtain ⟨l2, hl2⟩ := mans_of (hval 2 _ v2 rfl rfl) h2
        exact manifestSays_walk v0 l0 s1 v2 l2 W hl0.1 (by unfold maxLen at hs1; omega) hl2))
#print axioms manifestSays_holds
end Go.Proofs.Ytaepdbkfaoiimaa
