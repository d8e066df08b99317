/- TopMerge returns true at every input, and leaves it as it was. Conditions: none. -/
import Derived.Test.YtaepdbkfaoiimabMergeLaw
import Derived.Test.YtaepdbkfaoiimabOpen
set_option linter.unusedVariables false
set_option linter.unusedSimpArgs false
namespace Go.Proofs.Ytaepdbkfaoiimab
open Go.ChangeShapes Go.WideShapes Go.ChangeAt Go.RowKit Go.WideMaps Go.WideElems

abbrev tA : ByteArray := ⟨#[97]⟩
abbrev tE : ByteArray := ⟨#[]⟩
theorem ents_lit1 (B : Nat) (w : World) (n : Nat) (hn : w.heap.size = n) (k v : ByteArray) (g : Bool) (hk : k.size ≤ 100) (hv : v.size ≤ 100) :
    Ents B (w.alloc (.cells #[.string k, .string v, .bool g] 25)) (.slice (some ⟨n, 0, none⟩) 1 1) [⟨k, v, g⟩] :=
  ⟨rd_lit3 B w n hn k v g, by intro e he; simp at he; subst he; exact ⟨by simp; omega, by simp; omega⟩⟩
theorem merge2_nil (a : List Ent) : merge2 a [] = a := by cases a <;> simp [merge2]
theorem nil_merge2 (a : List Ent) : merge2 [] a = a := by simp [merge2]
theorem rises_nil : Rises [] := by simp [Rises]
theorem merge2_self {a : List Ent} (h : Rises a) : merge2 a a = a := rises_ext (rises_merge2 h h) h fun k => by rw [get_merge2 h h]; cases getE a k <;> rfl
theorem merge2_assoc {a b c : List Ent} (ha : Rises a) (hb : Rises b) (hc : Rises c) : merge2 (merge2 a b) c = merge2 a (merge2 b c) :=
  rises_ext (rises_merge2 (rises_merge2 ha hb) hc) (rises_merge2 ha (rises_merge2 hb hc)) fun k => by
    rw [get_merge2 (rises_merge2 ha hb) hc, get_merge2 ha hb, get_merge2 ha (rises_merge2 hb hc), get_merge2 hb hc, Option.or_assoc]

attribute [local go_sem ↓] neq_ent eql_ent
set_option maxHeartbeats 4000000 in
theorem topMerge_walk (va vb vc : Value) (a b c : List Ent) (w : World) (ha : Ents w.heap.size w va a) (hb : Ents w.heap.size w vb b) (hc : Ents w.heap.size w vc c) :
    Calls Try.prog 3 #[va, vb, vc] w fun e w' => e = .returned (.bool true) ∧ Below w.heap.size w w' := by
  obtain ⟨A, cap, rfl, hcp, hcp2, hcell⟩ := ha.form
  have HA : Hid (Ents w.heap.size w (.slice A a.length cap) a) := ha
  obtain ⟨Ab, capb, rfl, hcb, hcb2, _⟩ := hb.form
  obtain ⟨Ac, capc, rfl, hcc, hcc2, _⟩ := hc.form
  have HB : Hid (Ents w.heap.size w (.slice Ab b.length capb) b) := hb
  have HC : Hid (Ents w.heap.size w (.slice Ac c.length capc) c) := hc
  have HX := Lib.hid hcell
  clear ha hb hc hcell
  go_enter Try.func3, Try.ntmps3
  go_wp2_with fail
  refine (two_any w.heap.size _ _ [] [⟨tA, tE, false⟩] _ ⟨Rd.nil _ _ _ _, by simp⟩ (ents_lit1 w.heap.size w _ rfl tA tE false (by decide) (by decide)) (by decide) (by decide)).mono ?_
  rintro e w1 ⟨v1, rfl, he1, hb1⟩
  obtain ⟨A1, c1, rfl, _, _, _⟩ := he1.form
  have hl1 : (merge2 [] [⟨tA, tE, false⟩]).length = 1 := by simp [merge2]
  have HB1 : Hid (Below w.heap.size w w1) := ((Below.refl _ _).alloc (Nat.le_refl _) _).trans (hb1.mono (by simp))
  rw [hl1]
  clear he1 hb1 hl1
  go_wp2_with fail
  have hlit := (ents_lit1 w.heap.size w1 _ rfl tA tE true (by decide) (by decide))
  refine (live_any w.heap.size _ [⟨tA, tE, true⟩] _ hlit (by decide)).mono ?_
  rintro e w2 ⟨v2, rfl, he2, hb2⟩
  obtain ⟨A2, c2, rfl, _, _, _⟩ := he2.form
  have hl2 : (liveE [⟨tA, tE, true⟩]).length = 0 := by simp [liveE]
  have hb2' : Below w.heap.size w w2 := (HB1.out.alloc HB1.out.size _).trans (hb2.mono (by have := HB1.out.size; simp; omega))
  rw [hl2]
  clear he2 hb2 hl2 hlit HB1
  go_wp2_with fail
  refine (trising_any w.heap.size _ a _ (HA.out.below hb2')).mono ?_
  rintro e w3 ⟨rfl, n3, rfl⟩
  by_cases r1 : (lightE 20 a && decide (Rises a)) = true
  case neg =>
    have r1' : (lightE 20 a && decide (Rises a)) = false := by simpa using r1
    rw [r1']
    clear r1 r1'
    go_wp2_with fail
    go_ret
    exact ⟨rfl, below_drewN' hb2' _⟩
  rw [r1]
  have R1 : Hid (lightE 20 a = true ∧ Rises a) := by simpa [Hid] using r1
  clear r1
  go_wp2_with fail
  refine (trising_any w.heap.size _ b _ (HB.out.below (below_drewN' hb2' _))).mono ?_
  rintro e w3 ⟨rfl, n4, rfl⟩
  by_cases r2 : (lightE 20 b && decide (Rises b)) = true
  case neg =>
    have r1' : (lightE 20 b && decide (Rises b)) = false := by simpa using r2
    rw [r1']
    clear r2 r1'
    go_wp2_with fail
    go_ret
    exact ⟨rfl, below_drewN' hb2' _⟩
  rw [r2]
  have R2 : Hid (lightE 20 b = true ∧ Rises b) := by simpa [Hid] using r2
  clear r2
  go_wp2_with fail
  refine (trising_any w.heap.size _ c _ (HC.out.below (below_drewN' hb2' _))).mono ?_
  rintro e w3 ⟨rfl, n5, rfl⟩
  by_cases r3 : (lightE 20 c && decide (Rises c)) = true
  case neg =>
    have r1' : (lightE 20 c && decide (Rises c)) = false := by simpa using r3
    rw [r1']
    clear r3 r1'
    go_wp2_with fail
    go_ret
    exact ⟨rfl, below_drewN' hb2' _⟩
  rw [r3]
  have R3 : Hid (lightE 20 c = true ∧ Rises c) := by simpa [Hid] using r3
  clear r3
  go_wp2_with fail
  have hbX : Below w.heap.size w (w2.drewN (n3 + n4 + n5)) := below_drewN' hb2' _
  clear hb2'
  generalize w2.drewN (n3 + n4 + n5) = W at hbX ⊢
  have ka := (lightE_out R1.out.1).1
  have kb := (lightE_out R2.out.1).1
  have kc := (lightE_out R3.out.1).1
  have kab := merge2_len _ a b (Nat.le_refl _)
  have kbc := merge2_len _ b c (Nat.le_refl _)
  have ra := R1.out.2
  have rb := R2.out.2
  have rc := R3.out.2
  have HR : Hid (Rises a ∧ Rises b ∧ Rises c) := ⟨ra, rb, rc⟩
  have HXY : Hid (merge2 (merge2 a b) c = merge2 a (merge2 b c)) := merge2_assoc ra rb rc
  have HZ : Hid (mergeAll [a, b, c] = merge2 a (merge2 b c)) := by simp [Hid, mergeAll, merge2_nil]
  have HAA : Hid (merge2 a a = a) := merge2_self ra
  have HGET : Hid (∀ e ∈ a, getE (merge2 (merge2 a b) c) e.k = some e) := fun e he => by
    rw [get_merge2 (rises_merge2 ra rb) rc, get_merge2 ra rb, getE_of_mem ra he]; rfl
  clear ra rb rc R1 R2 R3
  -- x
  refine (two_any w.heap.size _ _ a b _ (HA.out.below hbX) (HB.out.below hbX) (by omega) (by omega)).mono ?_
  rintro e w3 ⟨v3, rfl, he3, hb3⟩
  have hb3' := hbX.trans (hb3.mono hbX.size)
  have HE3 := Lib.hid he3
  clear he3 hb3
  go_wp2_with fail
  refine (two_any w.heap.size _ _ (merge2 a b) c _ HE3.out (HC.out.below hb3') (by omega) (by omega)).mono ?_
  rintro e w4 ⟨v4, rfl, he4, hb4⟩
  have hb4' := hb3'.trans (hb4.mono hb3'.size)
  have HE4 := Lib.hid he4
  clear he4 hb4 HE3
  -- y
  go_wp2_with fail
  refine (two_any w.heap.size _ _ b c _ (HB.out.below hb4') (HC.out.below hb4') (by omega) (by omega)).mono ?_
  rintro e w5 ⟨v5, rfl, he5, hb5⟩
  have hb5' := hb4'.trans (hb5.mono hb4'.size)
  have HE5 := Lib.hid he5
  have HE4b := Lib.hid (HE4.out.below hb5)
  clear he5 hb5 HE4
  go_wp2_with fail
  refine (two_any w.heap.size _ _ a (merge2 b c) _ (HA.out.below hb5') HE5.out (by omega) (by omega)).mono ?_
  rintro e w6 ⟨v6, rfl, he6, hb6⟩
  have hb6' := hb5'.trans (hb6.mono hb5'.size)
  have HE6 := Lib.hid he6
  have HE4c := Lib.hid (HE4b.out.below hb6)
  clear he6 hb6 HE4b HE5
  -- z
  go_wp2_with fail
  have hba : Below w6.heap.size w6 (w6.alloc (.cells #[.slice A a.length cap, .slice Ab b.length capb, .slice Ac c.length capc] 22)) := (Below.refl _ _).alloc (Nat.le_refl _) _
  have hb6a := hb6'.trans (hba.mono hb6'.size)
  have hlss : Lss w.heap.size (w6.alloc (.cells #[.slice A a.length cap, .slice Ab b.length capb, .slice Ac c.length capc] 22)) (.slice (some ⟨w6.heap.size, 0, none⟩) 3 3) [a, b, c] := by
    have hblk := Blk.new w6 22 #[.slice A a.length cap, .slice Ab b.length capb, .slice Ac c.length capc]
    refine ⟨[.slice A a.length cap, .slice Ab b.length capb, .slice Ac c.length capc], rfl, ⟨rfl, _, _, rfl, Nat.le_refl _, by simp, fun _ => ⟨_, _, rfl, .inr ⟨_, _, hblk⟩, hblk.lt, fun j u hu => ?_⟩⟩, fun i u l hu hl => ?_⟩
    · rw [hblk.cell]
      match j, hu with
      | 0, hu => exact hu
      | 1, hu => exact hu
      | 2, hu => exact hu
    · match i, hu, hl with
      | 0, hu, hl => simp at hu hl; subst hu; subst hl; exact HA.out.below hb6a
      | 1, hu, hl => simp at hu hl; subst hu; subst hl; exact HB.out.below hb6a
      | 2, hu, hl => simp at hu hl; subst hu; subst hl; exact HC.out.below hb6a
  refine (all_any w.heap.size _ [a, b, c] _ hlss (by simp [sumLen]; omega) (by simp)).mono ?_
  rintro e w7 ⟨v7, rfl, he7, hb7⟩
  rw [HZ.out] at he7
  have hb7' := hb6a.trans (hb7.mono hb6a.size)
  have HE7 := Lib.hid he7
  have HE4d := Lib.hid ((HE4c.out.below hba).below hb7)
  have HE6b := Lib.hid ((HE6.out.below hba).below hb7)
  clear he7 hb7 HE4c HE6 hba hb6a hlss hb3' hb4' hb5' hb6' hbX
  go_wp2_with fail
  -- each of a's entries is in x
  go_loopw [11] (fun i wr => ∃ k : Nat, k ≤ a.length ∧ i = .int .i64 k ∧ Below w7.heap.size w7 wr) (fun i _ => a.length - (intOf i).toNat)
  case atStart => exact ⟨0, Nat.zero_le _, rfl, Below.refl _ _⟩
  case round =>
    obtain ⟨k, hk, rfl, hbl⟩ := hrel
    have hb8' := hb7'.trans (hbl.mono hb7'.size)
    by_cases hlt : k < a.length
    · obtain ⟨x, hx, _, _⟩ := getElem?_of_lt hlt
      obtain ⟨bb, o, rfl, hbb, c1, c2, c3⟩ := HX.out k x hx
      have d1 := (hb8'.cell (p := ⟨bb, o + k * 3, none⟩) hbb).trans c1
      have d2 := (hb8'.cell (p := ⟨bb, o + k * 3 + 1, none⟩) hbb).trans c2
      have d3 := (hb8'.cell (p := ⟨bb, o + k * 3 + 2, none⟩) hbb).trans c3
      have HG := Lib.hid (HGET.out x (List.mem_of_getElem? hx))
      have C1 := Lib.hid c1
      have C2 := Lib.hid c2
      have C3 := Lib.hid c3
      have HB8 := Lib.hid hb8'
      have HH := Lib.hid (rget_any w.heap.size v4 (merge2 (merge2 a b) c) x.k _ (HE4d.out.below hbl))
      clear hx c1 c2 c3 hb8'
      have g1 : (0 : Int) ≤ (k : Int) := by omega
      have g2 : (k : Int) < (a.length : Int) := by omega
      go_wp2_with (go_at_call 16; refine HH.out.mono ?_; rintro e w9 ⟨rfl, hb9⟩; rw [HG.out]; simp only [Option.getD_some, Option.isSome_some, Ent.val])
      have hb9' := HB8.out.trans (hb9.mono HB8.out.size)
      have hb9a := hb9'.alloc hb9'.size (.cells #[.string x.k, .string x.v, .bool x.g] 25)
      have f1 := (hb9a.cell (p := ⟨bb, o + k * 3, none⟩) hbb).trans C1.out
      have f2 := (hb9a.cell (p := ⟨bb, o + k * 3 + 1, none⟩) hbb).trans C2.out
      have f3 := (hb9a.cell (p := ⟨bb, o + k * 3 + 2, none⟩) hbb).trans C3.out
      have HBL : Hid (Below w7.heap.size w7 (w9.alloc (.cells #[.string x.k, .string x.v, .bool x.g] 25))) := (hbl.trans (hb9.mono hbl.size)).alloc (by have := hbl.size; have := hb9.size; omega) _
      clear hb9a hb9' hb9 hbl d1 d2 d3
      go_quiet (fail)
      go_wp2_with fail
      go_roundw
      case rel => exact ⟨k + 1, by omega, by go_num, below_drewN' HBL.out _⟩
      case measure => simp [intOf] <;> omega
    · have HB8 := Lib.hid hb8'
      have HX4 := Lib.hid (HE4d.out.below hbl)
      have HX6 := Lib.hid (HE6b.out.below hbl)
      have HX7 := Lib.hid (HE7.out.below hbl)
      rw [HXY.out] at HX4
      clear HX hb8' hbl HE4d HE6b HE7 HGET
      go_wp2_with fail
      refine (same_any w.heap.size _ _ (merge2 a (merge2 b c)) (merge2 a (merge2 b c)) _ HX4.out HX6.out).mono ?_
      rintro e w9 ⟨rfl, m1, rfl⟩
      go_wp2_with fail
      refine (same_any w.heap.size _ _ (merge2 a (merge2 b c)) (merge2 a (merge2 b c)) _ (HX4.out.drewN m1) (HX7.out.drewN m1)).mono ?_
      rintro e w9 ⟨rfl, m2, rfl⟩
      have hbY := below_drewN' HB8.out (m1 + m2)
      go_wp2_with fail
      refine (two_any w.heap.size _ _ a a _ (HA.out.below hbY) (HA.out.below hbY) (by omega) (by omega)).mono ?_
      rintro e w10 ⟨v10, rfl, he10, hb10⟩
      rw [HAA.out] at he10
      have hb10' := hbY.trans (hb10.mono hbY.size)
      have HE10 := Lib.hid he10
      clear he10 hb10
      go_wp2_with fail
      refine (same_any w.heap.size _ _ a a _ HE10.out (HA.out.below hb10')).mono ?_
      rintro e w9 ⟨rfl, m3, rfl⟩
      have hb11 := below_drewN' hb10' m3
      go_wp2_with fail
      refine (two_any w.heap.size _ _ a [] _ (HA.out.below hb11) ⟨Rd.nil _ _ _ _, by simp⟩ (by omega) (by simp)).mono ?_
      rintro e w12 ⟨v12, rfl, he12, hb12⟩
      rw [merge2_nil] at he12
      have hb12' := hb11.trans (hb12.mono hb11.size)
      have HE12 := Lib.hid he12
      clear he12 hb12
      go_wp2_with fail
      refine (same_any w.heap.size _ _ a a _ HE12.out (HA.out.below hb12')).mono ?_
      rintro e w9 ⟨rfl, m4, rfl⟩
      have hb13 := below_drewN' hb12' m4
      go_wp2_with fail
      refine (two_any w.heap.size _ _ [] a _ ⟨Rd.nil _ _ _ _, by simp⟩ (HA.out.below hb13) (by simp) (by omega)).mono ?_
      rintro e w14 ⟨v14, rfl, he14, hb14⟩
      rw [nil_merge2] at he14
      have hb14' := hb13.trans (hb14.mono hb13.size)
      have HE14 := Lib.hid he14
      clear he14 hb14
      go_wp2_with fail
      refine (same_any w.heap.size _ _ a a _ HE14.out (HA.out.below hb14')).mono ?_
      rintro e w9 ⟨rfl, m5, rfl⟩
      have hb15 := below_drewN' hb14' m5
      go_wp2_with fail
      go_ret
      exact ⟨rfl, hb15⟩

-- CLOSING

set_option maxRecDepth 100000 in
theorem topMerge_holds : Rows.TopMergeSaid :=
  OpenClaim.holds_of_wide 3 Try.f3 rfl rfl rfl rfl rfl rfl rfl ⟨rfl, rfl, rfl, rfl, rfl⟩ rfl rfl rfl rfl rfl (by kernel_rfl) Try.func3 (by kernel_rfl)
    (of_decide_eq_true (by kernel_rfl)) (by unfold Func.isWrapper; first | (rw [if_pos (by decide +kernel)]; kernel_rfl) | (rw [if_neg (by decide +kernel)]; exact ⟨rfl, rfl⟩))
    (fun os started H enc _ => close_lifted Rows.topMergeSpec 3 Try.f3 os started H enc (by kernel_rfl) Try.func3 (by kernel_rfl) rfl
      (fun ds hd => by
        rw [Try.params3] at hd
        match ds, hd with
        | [d1, d2, d3], _ => rfl)
      (by kernel_rfl)
      (ChangeSpec.witness6 (enc := enc) (C := Try.checked) false ⟨#[], #[.slice none 0 0, .slice none 0 0, .slice none 0 0], []⟩ 8 (by kernel_rfl) (by kernel_rfl) (by kernel_rfl) (by kernel_rfl))
      (fun W base args ds p hval hA => by
        rw [Try.params3] at hA hval
        obtain ⟨v0, v1, v2, d0, d1, d2, p0, p1, p2, hargs, rfl, rfl, h0, h1, h2⟩ := trodAll_three hA
        obtain rfl : args = #[v0, v1, v2] := by cases args; simp_all
        obtain ⟨l0, hl0⟩ := ents_of (hval 0 _ v0 rfl rfl) h0
        obtain ⟨l1, hl1⟩ := ents_of (hval 1 _ v1 rfl rfl) h1
        obtain ⟨l2, hl2⟩ := ents_of (hval 2 _ v2 rfl rfl) h2
        exact topMerge_walk v0 v1 v2 l0 l1 l2 W hl0 hl1 hl2))
#print axioms topMerge_holds
end Go.Proofs.Ytaepdbkfaoiimab
