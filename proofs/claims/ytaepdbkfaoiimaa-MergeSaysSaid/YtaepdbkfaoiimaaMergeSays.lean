/- MergeSays returns true at every input, and leaves it as it was. Conditions: none. -/
import Derived.Test.YtaepdbkfaoiimaaMergeLaw
import Derived.Test.YtaepdbkfaoiimaaOpen
import Derived.Deep.RegionHeld3
set_option linter.unusedVariables false
set_option linter.unusedSimpArgs false
namespace Go.Proofs.Ytaepdbkfaoiimaa
open Go.ChangeShapes Go.WideShapes Go.ChangeAt Go.RowKit Go.WideMaps Go.WideElems

abbrev tA : ByteArray := ⟨#[97]⟩
abbrev tB : ByteArray := ⟨#[98]⟩
abbrev tX : ByteArray := ⟨#[120]⟩
abbrev tE : ByteArray := ⟨#[]⟩
/-- Slices of one and of two entries, laid just now. -/
theorem ents_lit1 (B : Nat) (w : World) (n : Nat) (hn : w.heap.size = n) (k v : ByteArray) (g : Bool) (hk : k.size ≤ 100) (hv : v.size ≤ 100) :
    Ents B (w.alloc (.cells #[.string k, .string v, .bool g] 35)) (.slice (some ⟨n, 0, none⟩) 1 1) [⟨k, v, g⟩] :=
  ⟨rd_lit3 B w n hn k v g, by intro e he; simp at he; subst he; exact ⟨by simp; omega, by simp; omega⟩⟩
theorem ents_lit2 (B : Nat) (w : World) (n : Nat) (hn : w.heap.size = n) (k v k' v' : ByteArray) (g g' : Bool) (hk : k.size ≤ 100) (hv : v.size ≤ 100) (hk' : k'.size ≤ 100) (hv' : v'.size ≤ 100) :
    Ents B (w.alloc (.cells #[.string k, .string v, .bool g, .string k', .string v', .bool g'] 35)) (.slice (some ⟨n, 0, none⟩) 2 2) [⟨k, v, g⟩, ⟨k', v', g'⟩] := by
  subst hn
  have hb := Blk.new w 35 #[.string k, .string v, .bool g, .string k', .string v', .bool g']
  refine ⟨⟨rfl, _, _, rfl, Nat.le_refl _, by simp, fun _ => ⟨_, _, rfl, .inr ⟨_, _, hb⟩, hb.lt, fun j u hu => ?_⟩⟩, by intro e he; simp at he; rcases he with rfl | rfl <;> exact ⟨by simp; omega, by simp; omega⟩⟩
  rw [hb.cell]
  match j, hu with
  | 0, hu => exact hu
  | 1, hu => exact hu
  | 2, hu => exact hu
  | 3, hu => exact hu
  | 4, hu => exact hu
  | 5, hu => exact hu
theorem closed_two : merge2 [⟨tA, tE, false⟩] [⟨tA, tX, false⟩, ⟨tB, tE, false⟩] = [⟨tA, tE, false⟩, ⟨tB, tE, false⟩] := by
  have h1 : ltB tA tA = false := ltB_irrefl _
  rw [merge2, h1]
  simp [h1, merge2]

theorem sum_light : ∀ ls : List (List Ent), (∀ l ∈ ls, lightE 20 l = true) → sumLen ls ≤ ls.length * 20
  | [], _ => by simp [sumLen]
  | l :: ls, h => by
    have h1 := sum_light ls fun x hx => h x (by simp [hx])
    have h2 := (lightE_out (h l (by simp))).1
    simp only [sumLen, List.map_cons, List.sum_cons, List.length_cons] at *
    omega
theorem Lss.take {B : Nat} {w : World} {A : Option Addr} {n c : Nat} {ls : List (List Ent)} (h : Lss B w (.slice A n c) ls) (k : Nat) (hk : k ≤ ls.length) : Lss B w (.slice A k c) (ls.take k) := by
  obtain ⟨vs, h1, ⟨h2, A', c', h3, h4, h5, h6⟩, h7⟩ := h
  injection h3 with e1 e2 e3
  subst e1; subst e3
  have e : (ls.take k).length = k := by rw [List.length_take]; omega
  refine ⟨vs.take k, by simp [h1], ?_, fun i u l hu hl => ?_⟩
  · rw [e]
    refine ⟨by rw [List.length_take]; omega, _, _, rfl, by omega, h5, fun hn => ?_⟩
    obtain ⟨b, o, e, hk', hb, hc⟩ := h6 (by omega)
    refine ⟨b, o, e, hk', hb, fun j u hu => hc j u ?_⟩
    rw [List.getElem?_take] at hu
    split at hu
    · exact hu
    · cases hu
  · rw [List.getElem?_take] at hu hl
    split at hu
    · rename_i hi
      rw [if_pos hi] at hl
      exact h7 i u l hu hl
    · cases hu

set_option maxHeartbeats 2000000 in
theorem mergeSays_walk (v : Value) (ls : List (List Ent)) (w : World) (hl : Lss w.heap.size w v ls) :
    Calls Try.prog 4 #[v] w fun e w' => e = .returned (.bool true) ∧ Below w.heap.size w w' := by
  obtain ⟨A, c, rfl, hc, hc2, hcell⟩ := hl.form
  have HL : Hid (Lss w.heap.size w (.slice A ls.length c) ls) := hl
  have HC := Lib.hid hcell
  clear hl hcell
  go_enter Try.func4, Try.ntmps4
  go_wp2_with fail
  have hbA : Below w.heap.size w ((w.alloc (.cells #[.string tA, .string tE, .bool false] 35)).alloc (.cells #[.string tA, .string tX, .bool false, .string tB, .string tE, .bool false] 35)) := ((Below.refl _ _).alloc (Nat.le_refl _) _).alloc (by simp) _
  refine (two_any w.heap.size _ _ [⟨tA, tE, false⟩] [⟨tA, tX, false⟩, ⟨tB, tE, false⟩] _ ((ents_lit1 w.heap.size w _ rfl tA tE false (by decide) (by decide)).below ((Below.refl _ _).alloc (Nat.le_refl _) _)) (ents_lit2 w.heap.size _ _ (by simp) tA tX tB tE false false (by decide) (by decide) (by decide) (by decide)) (by decide) (by decide)).mono ?_
  rintro e w1 ⟨v1, rfl, he1, hb1⟩
  have hb1' := hbA.trans (hb1.mono hbA.size)
  have HT : decide (merge2 [⟨tA, tE, false⟩] [⟨tA, tX, false⟩, ⟨tB, tE, false⟩] = [⟨tA, tE, false⟩, ⟨tB, tE, false⟩]) = true := decide_eq_true closed_two
  have HB1 := Lib.hid hb1'
  have HE1 := Lib.hid he1
  clear hb1 hbA he1 hb1'
  go_wp2_with fail
  refine (same_any w.heap.size _ _ _ [⟨tA, tE, false⟩, ⟨tB, tE, false⟩] _ (HE1.out.below ((Below.refl _ _).alloc (Nat.le_refl _) _)) (ents_lit2 w.heap.size _ _ rfl tA tE tB tE false false (by decide) (by decide) (by decide) (by decide))).mono ?_
  rintro e w2 ⟨rfl, n2, rfl⟩
  have hb2 : Below w.heap.size w ((w1.alloc (.cells #[.string tA, .string tE, .bool false, .string tB, .string tE, .bool false] 35)).drewN n2) := below_drewN' (HB1.out.alloc HB1.out.size _) n2
  generalize ((w1.alloc (.cells #[.string tA, .string tE, .bool false, .string tB, .string tE, .bool false] 35)).drewN n2) = W at hb2 ⊢
  clear HB1 HE1
  by_cases h6 : ls.length ≤ 6
  case neg =>
    go_wp2_with fail
    go_ret
    exact ⟨rfl, hb2⟩
  go_wp2_with fail
  go_loopw [4] (fun i wr => ∃ k n : Nat, k ≤ ls.length ∧ i = .int .i64 k ∧ W.drewN n = wr ∧ Hid (∀ l ∈ ls.take k, lightE 20 l = true ∧ Rises l)) (fun i _ => ls.length - (intOf i).toNat)
  case atStart => exact ⟨0, 0, Nat.zero_le _, rfl, rfl, by simp [Hid]⟩
  case round =>
    obtain ⟨k, n, hk, rfl, rfl, hall⟩ := hrel
    by_cases hlt : k < ls.length
    · obtain ⟨l, hx, htk, _⟩ := getElem?_of_lt hlt
      obtain ⟨b, o, u, rfl, hb, hcell, hents⟩ := HC.out k l hx
      have hcell' := (hb2.cell (p := ⟨b, o + k, none⟩) hb).trans hcell
      have HR := Lib.hid (rising_any w.heap.size u l 20 (W.drewN n) ((hents.below hb2).drewN n))
      have HTK := Lib.hid htk
      clear hx htk hcell hents
      have g1 : (0 : Int) ≤ (k : Int) := by omega
      have g2 : (k : Int) < (ls.length : Int) := by omega
      by_cases hok : (lightE 20 l && decide (Rises l)) = true
      · have hok2 : Hid (lightE 20 l = true ∧ Rises l) := by simpa [Hid] using hok
        have HOK := Lib.hid hok
        clear hok
        go_wp2_with (go_at_call 19; refine HR.out.mono ?_; rintro e w3 ⟨rfl, n3, rfl⟩; rw [HOK.out])
        go_roundw
        case rel => exact ⟨k + 1, _, by omega, by go_num, rfl, fun z hz => by
          rw [HTK.out] at hz
          rcases List.mem_append.1 hz with h | h
          · exact hall.out z h
          · simp at h; subst h; exact hok2.out⟩
        case measure => simp [intOf] <;> omega
      · have hok' : Hid ((lightE 20 l && decide (Rises l)) = false) := by simpa [Hid] using hok
        clear hok
        go_wp2_with (go_at_call 19; refine HR.out.mono ?_; rintro e w3 ⟨rfl, n3, rfl⟩; rw [hok'.out])
        go_ret
        exact ⟨rfl, below_drewN' hb2 _⟩
    · have hall' := hall.out
      rw [List.take_of_length_le (by omega)] at hall'
      have HA := Lib.hid hall'
      clear hall' hall
      have hbn := below_drewN' hb2 n
      generalize W.drewN n = W1 at hbn ⊢
      have hsum : sumLen ls ≤ 1000000 := by have := sum_light ls fun l hl => (HA.out l hl).1; omega
      have HS := Lib.hid hsum
      have HLW := Lib.hid (HL.out.below hbn)
      have hmm : putAll ls = mergeAll ls := putAll_eq fun l hl => (HA.out l hl).2
      have HM := Lib.hid hmm
      have hml := Nat.le_trans (mergeAll_len ls) hsum
      clear hsum hmm
      go_wp2_with fail
      refine (all_any w.heap.size _ ls _ HLW.out HS.out (by omega)).mono ?_
      rintro e w3 ⟨v3, rfl, he3, hb3⟩
      have HE3 := Lib.hid he3
      clear he3
      go_wp2_with fail
      refine (rmerged_any w.heap.size _ ls _ (HLW.out.below hb3) HS.out (by omega)).mono ?_
      rintro e w4 ⟨v4, rfl, he4, hb4⟩
      rw [HM.out] at he4
      have HE4 := Lib.hid he4
      clear he4
      have HE3' := Lib.hid (HE3.out.below hb4)
      go_wp2_with fail
      refine (same_any w.heap.size _ _ (mergeAll ls) (mergeAll ls) _ HE3'.out HE4.out).mono ?_
      rintro e w5 ⟨rfl, n5, rfl⟩
      go_wp2_with fail
      refine (live_any w.heap.size _ (mergeAll ls) _ (HE3'.out.drewN n5) hml).mono ?_
      rintro e w6 ⟨v6, rfl, he6, hb6⟩
      have HE6 := Lib.hid he6
      clear he6
      have HE3'' := Lib.hid ((HE3'.out.drewN n5).below hb6)
      go_wp2_with fail
      refine (rlive_any w.heap.size _ (mergeAll ls) _ HE3''.out hml).mono ?_
      rintro e w7 ⟨v7, rfl, he7, hb7⟩
      have HE7 := Lib.hid he7
      clear he7
      go_wp2_with fail
      refine (same_any w.heap.size _ _ (liveE (mergeAll ls)) (liveE (mergeAll ls)) _ (HE6.out.below hb7) HE7.out).mono ?_
      rintro e w8 ⟨rfl, n8, rfl⟩
      have hbz : Below w.heap.size w (w7.drewN n8) := by
        have h1 := hbn.trans (hb3.mono hbn.size)
        have h2 := h1.trans (hb4.mono h1.size)
        have h3 := below_drewN' h2 n5
        have h4 := h3.trans (hb6.mono h3.size)
        have h5 := h4.trans (hb7.mono h4.size)
        exact below_drewN' h5 n8
      generalize w7.drewN n8 = W2 at hbz ⊢
      clear HE6 HE7 HE3 HE3' HE3'' HE4 hb3 hb4 hb6 hb7 HLW HM HS hml hb2 hbn
      by_cases h2 : ls.length < 2
      · have t1 : decide ((ls.length : Int) < 2) = true := decide_eq_true (by omega)
        go_wp2_with fail
        go_quiet (fail)
        go_wp2_with fail
        go_ret
        exact ⟨rfl, below_drewN' hbz _⟩
      · have t1 : decide ((ls.length : Int) < 2) = false := decide_eq_false (by omega)
        obtain ⟨l0, hx0, _, _⟩ := getElem?_of_lt (show 0 < ls.length by omega)
        obtain ⟨l1, hx1, _, _⟩ := getElem?_of_lt (show 1 < ls.length by omega)
        obtain ⟨b, o, u0, rfl, hb, hc0, he0⟩ := HC.out 0 l0 hx0
        obtain ⟨b', o', u1, hbo, hb', hc1, he1⟩ := HC.out 1 l1 hx1
        injection hbo with hbo
        injection hbo with e1 e2
        subst e1; subst e2
        rw [Nat.add_zero] at hc0
        have m0 := List.mem_of_getElem? hx0
        have m1 := List.mem_of_getElem? hx1
        have k0 : l0.length ≤ 1000000 := by have := (lightE_out (HA.out l0 m0).1).1; omega
        have k1 : l1.length ≤ 1000000 := by have := (lightE_out (HA.out l1 m1).1).1; omega
        have htake : ls.take 2 = [l0, l1] := by
          match ls, hx0, hx1 with
          | a :: b :: r, h, h' => simp at h h'; subst h; subst h'; rfl
          | [a], _, h' => simp at h'
        have hput : putAll [l0, l1] = merge2 l0 l1 := by
          rw [putAll_eq (fun l hl => by
            simp at hl
            rcases hl with rfl | rfl
            · exact (HA.out _ m0).2
            · exact (HA.out _ m1).2)]
          simp only [mergeAll, List.foldr_cons, List.foldr_nil]
          congr 1
          cases l1 <;> simp [merge2]
        have hsum2 : sumLen [l0, l1] ≤ 1000000 := by
          have h1 := (lightE_out (HA.out l0 m0).1).1
          have h2 := (lightE_out (HA.out l1 m1).1).1
          simp [sumLen]; omega
        have HT2 : Hid (Lss w.heap.size w (.slice (some ⟨b, o, none⟩) 2 c) [l0, l1]) := by
          rw [Hid, ← htake]; exact HL.out.take 2 (by omega)
        have HP := Lib.hid hput
        have HE0 := Lib.hid he0
        have HE1 := Lib.hid he1
        have HC0 := Lib.hid hc0
        have HC1 := Lib.hid hc1
        have hd0 := (hbz.cell (p := ⟨b, o, none⟩) hb).trans hc0
        have hd1 := (hbz.cell (p := ⟨b, o + 1, none⟩) hb).trans hc1
        clear hc0 hc1 hput htake he0 he1 hx0 hx1 HC HL HA
        have g1 : (2 : Int) ≤ (c : Int) := by omega
        have g0 : 0 < ls.length := by omega
        have g2 : (0 : Int) < (ls.length : Int) := by omega
        have g3 : (1 : Int) < (ls.length : Int) := by omega
        have HDR : Hid (Below w.heap.size w W2.drew) := hbz.drew
        clear hbz h2
        go_wp2_with fail
        go_region_held3 (fun w' => w'.cell? ⟨b, o, none⟩ = some u0 ∧ w'.cell? ⟨b, o + 1, none⟩ = some u1 ∧ Below w.heap.size w w')
          ((first
            | exact ⟨hd0, hd1, HDR.out⟩
            | exact ⟨(hBs.cell (p := ⟨b, o, none⟩) hb).trans HC0.out, (hBs.cell (p := ⟨b, o + 1, none⟩) hb).trans HC1.out, hBs⟩
            | exact ⟨(hBt.cell (p := ⟨b, o, none⟩) hb).trans HC0.out, (hBt.cell (p := ⟨b, o + 1, none⟩) hb).trans HC1.out, hBt⟩
            | exact ⟨(hBm.cell (p := ⟨b, o, none⟩) hb).trans HC0.out, (hBm.cell (p := ⟨b, o + 1, none⟩) hb).trans HC1.out, hBm⟩))
          ((first
            | (go_at_call 17; refine (two_any w.heap.size u0 u1 l0 l1 _ (HE0.out.below ((And.right (And.right (by assumption))))) (HE1.out.below (And.right (And.right (by assumption)))) k0 k1).mono ?_; rintro e w9 ⟨v9, rfl, he9, hb9⟩; have hBt : Below w.heap.size w w9 := Below.trans (And.right (And.right (by assumption))) (hb9.mono (Below.size (And.right (And.right (by assumption))))))
            | (go_at_call 21; refine (rmerged_any w.heap.size _ [l0, l1] _ (HT2.out.below (And.right (And.right (by assumption)))) hsum2 (by simp)).mono ?_; rintro e w10 ⟨v10, rfl, he10, hb10⟩; rw [HP.out] at he10; have hBm : Below w.heap.size w w10 := Below.trans (And.right (And.right (by assumption))) (hb10.mono (Below.size (And.right (And.right (by assumption))))))
            | (go_at_call 18; (first | refine (same_any w.heap.size _ _ (merge2 l0 l1) (merge2 l0 l1) _ (he9.below hb10) he10).mono ?_ | refine (same_any w.heap.size _ _ (merge2 l0 l1) (merge2 l0 l1) _ he9 (he10.below hb9)).mono ?_); rintro e w11 ⟨rfl, n11, rfl⟩; have hBs := below_drewN' (n := w.heap.size) (w := w) (And.right (And.right (by assumption))) n11)))
        all_goals
          go_wp2_with fail
          go_ret
          exact ⟨rfl, hBs⟩

-- CLOSING

set_option maxRecDepth 100000 in
theorem mergeSays_holds : Rows.MergeSaysSaid :=
  OpenClaim.holds_of_wide 4 Try.f4 rfl rfl rfl rfl rfl rfl rfl ⟨rfl, rfl, rfl, rfl, rfl⟩ rfl rfl rfl rfl rfl (by kernel_rfl) Try.func4 (by kernel_rfl)
    (of_decide_eq_true (by kernel_rfl)) (by unfold Func.isWrapper; first | (rw [if_pos (by decide +kernel)]; kernel_rfl) | (rw [if_neg (by decide +kernel)]; exact ⟨rfl, rfl⟩))
    (fun os started H enc _ => close_lifted Rows.mergeSaysSpec 4 Try.f4 os started H enc (by kernel_rfl) Try.func4 (by kernel_rfl) rfl
      (fun ds hd => by
        rw [Try.params4] at hd
        match ds, hd with
        | [d1], _ => rfl)
      (by kernel_rfl)
      (ChangeSpec.witness6 (enc := enc) (C := Try.checked) false ⟨#[], #[.slice none 0 0], []⟩ 8 (by kernel_rfl) (by kernel_rfl) (by kernel_rfl) (by kernel_rfl))
      (fun W base args ds p hval hA => by
        rw [Try.params4] at hA hval
        obtain ⟨v0, d0, hargs, rfl, h0⟩ := trodAll_one hA
        obtain rfl : args = #[v0] := by cases args; simp_all
        obtain ⟨l0, hl0⟩ := lss_of (hval 0 _ v0 rfl rfl) h0
        exact mergeSays_walk v0 l0 W hl0))
#print axioms mergeSays_holds
end Go.Proofs.Ytaepdbkfaoiimaa
