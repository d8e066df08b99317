/- TopAsked returns true at every input, and leaves it as it was. Conditions: none. -/
import Derived.Test.YtaepdbkfaoiimacMg
set_option linter.unusedVariables false
set_option linter.unusedSimpArgs false
namespace Go.Proofs.Ytaepdbkfaoiimac
open Go.ChangeShapes Go.WideShapes Go.ChangeAt Go.RowKit Go.WideMaps Go.WideElems
open Go.ChangeMaps (open_string shut_string)
attribute [local go_sem ↓] eql_err eql_nilerr neq_err neq_nilerr guard_err guard_nilerr guardn_err guardn_nilerr
theorem rises_two {l : List Ent} (h : Rises l) {i : Nat} {x y : Ent} (hx : l[i]? = some x) (hy : l[i + 1]? = some y) : ltB x.k y.k = true := by
  obtain ⟨h1, e1⟩ := List.getElem?_eq_some_iff.1 hx
  obtain ⟨h2, e2⟩ := List.getElem?_eq_some_iff.1 hy
  have := List.pairwise_iff_getElem.1 h i (i + 1) h1 h2 (by omega)
  rw [e1, e2] at this
  exact this
theorem StS.drewN {B q p k j : Nat} {w : World} {c : Chip} {s : SM} {F : List Nat} (h : StS B w q p k j c s F) (n : Nat) : StS B (w.drewN n) q p k j c s F := ⟨h.st.drewN n, h.ch.drewN n, h.ok⟩
set_option maxRecDepth 20000 in
set_option maxHeartbeats 4000000 in
theorem topAsked_walk (va : Value) (l : List Act) (key : ByteArray) (w : World) (ha : ActsR w.heap.size w va l) (hks : key.size ≤ 9223372036854775807) :
    Calls Try.prog 7 #[va, .string key] w fun e w' => e = .returned (.bool true) ∧ Below w.heap.size w w' := by
  have HWO := Lib.hid (works_any w)
  have HFI := Lib.hid (fun W (hW : Below w.heap.size w W) => filled_any w.heap.size va l W (acts_below ha hW) hW.size)
  clear ha
  cases hg : filG l
  · have HF0 := Lib.hid (fun W hW => fil_no hg (HFI.out W hW))
    clear hg HFI
    go_enter Try.func7, Try.ntmps7
    go_wp2_with (first
      | (go_at_call 11; refine HWO.out.mono ?_; rintro e w1 ⟨rfl, hb1⟩)
      | (go_at_call 12; refine (HF0.out w1 hb1).mono ?_; rintro e w2 ⟨rfl, rfl⟩))
    go_ret
    exact ⟨rfl, hb1⟩
  have HF1 := Lib.hid (fun W hW => fil_yes hg (HFI.out W hW))
  have hl80 := filG_len hg
  clear hg HFI
  by_cases hk : key.size ≤ 20
  case neg =>
    have t32 : decide ((20 : Int) < (key.size : Int)) = true := decide_eq_true (by omega)
    clear hk
    go_enter Try.func7, Try.ntmps7
    go_wp2_with (first
      | (go_at_call 11; refine HWO.out.mono ?_; rintro e w1 ⟨rfl, hb1⟩)
      | (go_at_call 12; refine (HF1.out w1 hb1).mono ?_; rintro e w2 ⟨p, q, rfl, c, s, F, hst, hrw, hFw, hpw, hb2⟩; have hb12 := hb1.trans (hb2.mono hb1.size)))
    go_ret
    exact ⟨rfl, hb12⟩
  have t32 : decide ((20 : Int) < (key.size : Int)) = false := decide_eq_false (by omega)
  have HK := Lib.hid hk
  clear hk
  go_enter Try.func7, Try.ntmps7
  go_wp2_with (first
    | (go_at_call 11; refine HWO.out.mono ?_; rintro e w1 ⟨rfl, hb1⟩)
    | (go_at_call 12; refine (HF1.out w1 hb1).mono ?_; rintro e w2 ⟨p, q, rfl, c, s, F, hst, hrw, hFw, hpw, hb2⟩; have hb12 := hb1.trans (hb2.mono hb1.size)))
  have HR2 := Lib.hid (rows_st hst)
  have HB2 := Lib.hid (And.intro hb2 hb1.size)
  have HB01 := Lib.hid hb1
  have HRI := Lib.hid hst.rise
  have HL40 : Hid (s.rows.length ≤ 40) := hst.ok.inv.body.rows
  clear hst hrw hFw hpw hb2 hb1 hb12 HWO HF1
  refine HR2.out.mono ?_
  rintro e w3 ⟨v3, rfl, hv3, hs3, hb3⟩
  have HB3 : Hid (Below w1.heap.size w1 w3) := HB2.out.1.trans (hb3.mono HB2.out.1.size)
  have HBW : Hid (∀ W, Below w1.heap.size w1 W → Below w.heap.size w W) := fun W hW => HB01.out.trans (hW.mono HB01.out.size)
  obtain ⟨A3, c3, rfl, _, _, hcell⟩ := hv3.form
  have HC3 := Lib.hid hcell
  have HV3 := Lib.hid hv3
  have HS3 := Lib.hid hs3
  have hsz := fun x hx => (hv3.2 x hx).1
  have HSZ := Lib.hid hsz
  have HGT := Lib.hid (fun W (hW : StS w1.heap.size W q p l.length (weakN l) c s F) (k : ByteArray) hk => get_st hW k hk)
  clear hv3 hcell hs3 hb3 HR2 hsz
  generalize s.rows = r at *
  go_wp2_with fail
  go_loopw [9] (fun i wr => ∃ n : Nat, n ≤ r.length ∧ i = .int .i64 n ∧ Hid (StS w1.heap.size wr q p l.length (weakN l) c s F) ∧ Hid (Below w3.heap.size w3 wr)) (fun i _ => r.length - (intOf i).toNat)
  case atStart => exact ⟨0, Nat.zero_le _, rfl, HS3.out, Below.refl _ _⟩
  case round =>
    obtain ⟨n, hn, rfl, hst, hbl⟩ := hrel
    by_cases hlt : n < r.length
    · obtain ⟨x, hx, _, _⟩ := getElem?_of_lt hlt
      obtain ⟨b, o, rfl, hb, y1, y2, y3⟩ := HC3.out n x hx
      have HD : Hid (∀ W, Below w3.heap.size w3 W → W.cell? ⟨b, o + n * 3, none⟩ = some (.string x.k) ∧ W.cell? ⟨b, o + n * 3 + 1, none⟩ = some (.string x.v)) := fun W hW => ⟨(hW.cell (p := ⟨b, o + n * 3, none⟩) hb).trans y1, (hW.cell (p := ⟨b, o + n * 3 + 1, none⟩) hb).trans y2⟩
      have hg := HGT.out wr hst.out x.k (HSZ.out x (List.mem_of_getElem? hx))
      rw [getE_of_mem HRI.out (List.mem_of_getElem? hx)] at hg
      have HG : Hid (Calls Try.prog 15 #[.pointer (some ⟨q, 0, none⟩), .string x.k] wr fun e w' => e = .returned (.tuple #[.string x.v, .bool true, .nilIface]) ∧ StS w1.heap.size w' q p l.length (weakN l) c s F ∧ Below wr.heap.size wr w') := hg
      have d0 := (HD.out wr hbl.out).1
      have g1 : (0 : Int) ≤ (n : Int) := by omega
      have g2 : (n : Int) < (r.length : Int) := by omega
      have hx0 := hx
      clear hg y1 y2 y3
      cases n with
      | zero =>
        have d0' : wr.cell? ⟨b, o, none⟩ = some (.string x.k) := by simpa using d0
        have g00 : 0 < r.length := hlt
        have HD0 : Hid (∀ W, Below w3.heap.size w3 W → W.cell? ⟨b, o, none⟩ = some (.string x.k) ∧ W.cell? ⟨b, o + 1, none⟩ = some (.string x.v)) := fun W hW => by have := HD.out W hW; simpa using this
        clear hx0 hx d0
        rw [show ((0 : Nat) : Int) = 0 from rfl] at *
        go_wp2_with fail
        refine HG.out.mono ?_
        rintro e w5 ⟨rfl, hs5, hb5⟩
        have HS5 := Lib.hid hs5
        have HB5 := Lib.hid (hbl.out.trans (hb5.mono hbl.out.size))
        obtain ⟨e0, e1⟩ := HD0.out w5 HB5.out
        clear hs5 hb5 HG d0'
        go_wp2_with fail
        go_quiet (fail)
        go_wp2_with fail
        go_roundw
        case rel => exact ⟨1, by omega, by go_num, StS.drewN HS5.out _, below_drewN' HB5.out _⟩
        case measure => simp [intOf] <;> omega
      | succ m =>
        obtain ⟨y, hy, _, _⟩ := getElem?_of_lt (show m < r.length by omega)
        obtain ⟨b', o', e', hb', z1, z2, z3⟩ := HC3.out m y hy
        cases e'
        have hlt2 := rises_two HRI.out hy hx0
        have t1 : Op.bytesLess x.k.toList y.k.toList = false := ltB_asymm hlt2
        have t2 : (x.k.toList == y.k.toList) = false := by rw [ba_beq]; simp [(ltB_ne hlt2).symm]
        have HDY : Hid (∀ W, Below w3.heap.size w3 W → W.cell? ⟨b, o + m * 3, none⟩ = some (.string y.k)) := fun W hW => (hW.cell (p := ⟨b, o + m * 3, none⟩) hb).trans z1
        have g3 : wrap64 ((m : Int) + 1 - 1) = (m : Int) := by rw [show (m : Int) + 1 - 1 = m by omega]; exact wrap64_small (Int.natCast_nonneg m) (by have := HL40.out; omega)
        have g3' : wrap64 (m : Int) = (m : Int) := wrap64_small (Int.natCast_nonneg m) (by have := HL40.out; omega)
        have g4 : ((m : Int) + 1).toNat = m + 1 := by omega
        have g5 : (0 : Int) ≤ (m : Int) + 1 := by omega
        have g6 : (m : Int) + 1 < (r.length : Int) := by omega
        have g7 : (0 : Int) ≤ (m : Int) := by omega
        have g8 : (m : Int) < (r.length : Int) := by omega
        have g9 : (0 : Int) < (m : Int) + 1 := by omega
        have g10 : 0 < m + 1 := by omega
        clear hx0 hx hy z1 z2 z3 hlt2
        go_wp2_with fail
        refine HG.out.mono ?_
        rintro e w5 ⟨rfl, hs5, hb5⟩
        have HS5 := Lib.hid hs5
        have HB5 := Lib.hid (hbl.out.trans (hb5.mono hbl.out.size))
        obtain ⟨e0, e1⟩ := HD.out w5 HB5.out
        have e2 := HDY.out w5 HB5.out
        clear hs5 hb5 HG d0
        go_wp2_with fail
        go_quiet (fail)
        go_wp2_with fail
        go_roundw
        case rel => exact ⟨m + 1 + 1, by omega, by go_num, StS.drewN HS5.out _, below_drewN' HB5.out _⟩
        case measure => simp [intOf] <;> omega
    · have t39 : decide ((n : Int) < (r.length : Int)) = false := decide_eq_false (by omega)
      have HG := Lib.hid (HGT.out wr hst.out key hks)
      have HRG := Lib.hid (fun W (hW : Below w3.heap.size w3 W) => rget_any w1.heap.size _ r key W (HV3.out.below hW))
      have hz : ∃ z : Ent, z = (getE r key).getD Ent.zero := ⟨_, rfl⟩
      obtain ⟨z, hz⟩ := hz
      rw [← hz] at HG
      have HRG' : Hid (∀ W, Below w3.heap.size w3 W → Calls Try.prog 21 #[.slice A3 r.length c3, .string key] W fun e w' => e = .returned (.tuple #[.agg #[.string z.k, .string z.v, .bool z.g], .bool (getE r key).isSome]) ∧ Below W.heap.size W w') := by
        intro W hW
        have := HRG.out W hW
        rw [← hz] at this
        exact this
      clear HRG hz
      generalize (getE r key).isSome = I at *
      go_wp2_with fail
      refine HG.out.mono ?_
      rintro e w5 ⟨rfl, _, hb5⟩
      have HB5 := Lib.hid (hbl.out.trans (hb5.mono hbl.out.size))
      have HR5 := Lib.hid (HRG'.out w5 HB5.out)
      clear hb5 HG HRG'
      go_wp2_with fail
      refine HR5.out.mono ?_
      rintro e w6 ⟨rfl, hb6⟩
      have HB6 := Lib.hid (HB5.out.trans (hb6.mono HB5.out.size))
      have HBF : Hid (Below w.heap.size w (w6.alloc (.cells #[.string z.k, .string z.v, .bool z.g] 34))) := by
        have h1 := HBW.out _ (HB3.out.trans (HB6.out.mono HB3.out.size))
        exact h1.alloc h1.size _
      clear hb6 HR5
      cases I
      all_goals
        go_wp2_with fail
        go_ret
        exact ⟨by simp, HBF.out⟩

-- CLOSING

set_option maxRecDepth 100000 in
theorem topAsked_holds : Rows.TopAskedSaid :=
  OpenClaim.holds_of_wide 7 Try.f7 rfl rfl rfl rfl rfl rfl rfl ⟨rfl, rfl, rfl, rfl, rfl⟩ rfl rfl rfl rfl rfl (by kernel_rfl) Try.func7 (by kernel_rfl)
    (of_decide_eq_true (by kernel_rfl)) (by unfold Func.isWrapper; first | (rw [if_pos (by decide +kernel)]; kernel_rfl) | (rw [if_neg (by decide +kernel)]; exact ⟨rfl, rfl⟩))
    (fun os started H enc _ => close_lifted Rows.topAskedSpec 7 Try.f7 os started H enc (by kernel_rfl) Try.func7 (by kernel_rfl) rfl
      (fun ds hd => by
        rw [Try.params7] at hd
        match ds, hd with
        | [d1, d2], _ => rfl)
      (by kernel_rfl)
      (ChangeSpec.witness6 (enc := enc) (C := Try.checked) false ⟨#[], #[.slice none 0 0, .string ByteArray.empty], []⟩ 8 (by kernel_rfl) (by kernel_rfl) (by kernel_rfl) (by kernel_rfl))
      (fun W base args ds p hval hA => by
        rw [Try.params7] at hA hval
        obtain ⟨v0, v1, d0, d1, p0, p1, hargs, rfl, rfl, h0, h1⟩ := trodAll_two hA
        obtain rfl : args = #[v0, v1] := by cases args; simp_all
        obtain ⟨l0, hl0⟩ := acts_of (hval 0 _ v0 rfl rfl) h0
        obtain ⟨s1, rfl, rfl, rfl, hs1⟩ := open_string Try.underlying9 (hval 1 _ v1 rfl rfl) h1
        exact topAsked_walk v0 l0 s1 W hl0 (by unfold maxLen at hs1; omega)))
#print axioms topAsked_holds
end Go.Proofs.Ytaepdbkfaoiimac
