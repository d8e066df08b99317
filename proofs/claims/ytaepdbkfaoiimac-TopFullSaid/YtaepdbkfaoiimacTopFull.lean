/- TopFull returns true at every input, and leaves it as it was. Conditions: none. -/
import Derived.Test.YtaepdbkfaoiimacMf
set_option linter.unusedVariables false
set_option linter.unusedSimpArgs false
namespace Go.Proofs.Ytaepdbkfaoiimac
open Go.ChangeShapes Go.WideShapes Go.ChangeAt Go.RowKit Go.WideMaps Go.WideElems
open Go.ChangeMaps (open_string shut_string)
attribute [local go_sem ↓] eql_err eql_nilerr neq_err neq_nilerr guard_err guard_nilerr guardn_err guardn_nilerr
theorem merge_one_len (e : Ent) : ∀ {r : List Ent}, Rises r → ∀ {x : Ent}, x ∈ r → x.k = e.k → (merge2 [e] r).length = r.length
  | [], _, _, hx, _ => by cases hx
  | y :: ys, hr, x, hx, hk => by
    obtain ⟨h1, h2⟩ := rises_cons.1 hr
    rw [merge2]
    cases ha : ltB e.k y.k
    · rw [if_neg (by simp)]
      cases hb : ltB y.k e.k
      · rw [if_neg (by simp), merge2]; rfl
      · rw [if_pos rfl, List.length_cons, List.length_cons]
        rcases List.mem_cons.1 hx with rfl | hx
        · rw [hk, ltB_irrefl] at hb; cases hb
        · rw [merge_one_len e h2 hx hk]
    · exfalso
      rcases List.mem_cons.1 hx with rfl | hx
      · rw [hk, ltB_irrefl] at ha; cases ha
      · have := h1 x hx
        rw [hk] at this
        have := ltB_trans ha this
        rw [ltB_irrefl] at this; cases this
theorem rows_fault {c : Chip} {s : SM} (h : Inv c s) : ∀ e ∈ s.rows, faultE e = 0 := by
  intro e he
  obtain ⟨l, hl, hel⟩ := merge_mem (live_mem (show e ∈ liveE (mergeAll (s.mem :: s.tabs)) from he)).1
  rcases List.mem_cons.1 hl with rfl | hl
  · obtain ⟨es, hlog⟩ := h.body.log
    exact hlog.fault e hel
  · exact chkT_all (tabF_parts (tabsAt_ok h.body.tabs l hl)).2.2 e hel
theorem anew {r : List Ent} (hr : Rises r) (ha : ∀ e ∈ r, e.g = false) (hf : ∀ e ∈ r, faultE e = 0) (h40 : r.length ≤ 40) {x : Ent} (hx : x ∈ r) {val : ByteArray} (hv : val.size ≤ 16) :
    checkR r [⟨x.k, val, false⟩] = 0 ∧ getE (rowsW r [⟨x.k, val, false⟩]) x.k = some ⟨x.k, val, false⟩ ∧ (rowsW r [⟨x.k, val, false⟩]).length = r.length := by
  obtain ⟨k1, _, k2, _⟩ := faultE_zero (hf x hx)
  have hfe : faultE ⟨x.k, val, false⟩ = 0 := by
    unfold faultE
    rw [if_neg (by simp [k1]), if_neg (by simp only; omega)]
  have hby : bytesF [⟨x.k, val, false⟩] = 0 := by
    have hs := bytesL_size ([⟨x.k, val, false⟩] : List Ent).length [⟨x.k, val, false⟩] (by intro e he; simp at he; subst he; exact hfe)
    unfold bytesF
    rw [if_pos (by unfold ff; rw [if_pos hfe]; rfl), if_neg (by simp at hs ⊢; omega)]
  have hput : (putE r ⟨x.k, val, false⟩).length = r.length := by rw [putE_eq _ r hr]; exact merge_one_len _ hr hx rfl
  have hlive : liveE ([⟨x.k, val, false⟩].foldl putE r) = putE r ⟨x.k, val, false⟩ := by
    show liveE (putE r _) = _
    unfold liveE
    rw [List.filter_eq_self]
    intro e he
    rcases puts_mem (l := [⟨x.k, val, false⟩]) hr (show e ∈ [⟨x.k, val, false⟩].foldl putE r from he) with h | h
    · simp at h; subst h; rfl
    · simp [ha e h]
  have hc : checkR r [⟨x.k, val, false⟩] = 0 := by
    unfold checkR
    rw [if_neg (by simp), if_neg (by simp [hby]), hlive, if_neg (by omega)]
  refine ⟨hc, ?_, ?_⟩
  · rw [get_rowsW hr ha hc]
    simp [lastE, getE]
  · rw [rowsW, if_pos hc, hlive, hput]
theorem tf_facts (n : Nat) (h : n + 1 ≤ 40) : decide ((40 : Int) < (n : Int) + 1) = false ∧ (((n : Int) + 1) == 0) = false ∧ wrap64 (n : Int) = (n : Int) ∧ (0 : Int) ≤ (n : Int) ∧ (n : Int) < (n : Int) + 1 :=
  ⟨decide_eq_false (by omega), by rw [beq_eq_false_iff_ne]; omega, wrap64_small (Int.natCast_nonneg n) (by omega), Int.natCast_nonneg n, by omega⟩
theorem StS.drewN {B q p k j : Nat} {w : World} {c : Chip} {s : SM} {F : List Nat} (h : StS B w q p k j c s F) (n : Nat) : StS B (w.drewN n) q p k j c s F := ⟨h.st.drewN n, h.ch.drewN n, h.ok⟩
set_option maxRecDepth 20000 in
set_option maxHeartbeats 4000000 in
theorem topFull_walk (va : Value) (l : List Act) (val : ByteArray) (w : World) (ha : ActsR w.heap.size w va l) (hks : val.size ≤ 9223372036854775807) :
    Calls Try.prog 6 #[va, .string val] w fun e w' => e = .returned (.bool true) ∧ Below w.heap.size w w' := by
  have HWO := Lib.hid (works_any w)
  have HFI := Lib.hid (fun W (hW : Below w.heap.size w W) => filled_any w.heap.size va l W (acts_below ha hW) hW.size)
  clear ha
  cases hg : filG l
  · have HF0 := Lib.hid (fun W hW => fil_no hg (HFI.out W hW))
    clear hg HFI
    go_enter Try.func6, Try.ntmps6
    go_wp2_with (first
      | (go_at_call 11; refine HWO.out.mono ?_; rintro e w1 ⟨rfl, hb1⟩)
      | (go_at_call 12; refine (HF0.out w1 hb1).mono ?_; rintro e w2 ⟨rfl, rfl⟩))
    go_ret
    exact ⟨rfl, hb1⟩
  have HF1 := Lib.hid (fun W hW => fil_yes hg (HFI.out W hW))
  have hl80 := filG_len hg
  clear hg HFI
  by_cases hk : val.size ≤ 16
  case neg =>
    have t27 : decide ((16 : Int) < (val.size : Int)) = true := decide_eq_true (by omega)
    clear hk
    go_enter Try.func6, Try.ntmps6
    go_wp2_with (first
      | (go_at_call 11; refine HWO.out.mono ?_; rintro e w1 ⟨rfl, hb1⟩)
      | (go_at_call 12; refine (HF1.out w1 hb1).mono ?_; rintro e w2 ⟨p, q, rfl, c, s, F, hst, hrw, hFw, hpw, hb2⟩; have hb12 := hb1.trans (hb2.mono hb1.size)))
    go_ret
    exact ⟨rfl, hb12⟩
  have t27 : decide ((16 : Int) < (val.size : Int)) = false := decide_eq_false (by omega)
  have HK := Lib.hid hk
  clear hk
  go_enter Try.func6, Try.ntmps6
  go_wp2_with (first
    | (go_at_call 11; refine HWO.out.mono ?_; rintro e w1 ⟨rfl, hb1⟩)
    | (go_at_call 12; refine (HF1.out w1 hb1).mono ?_; rintro e w2 ⟨p, q, rfl, c, s, F, hst, hrw, hFw, hpw, hb2⟩; have hb12 := hb1.trans (hb2.mono hb1.size)))
  have HR2 := Lib.hid (rows_st hst)
  have HB2 := Lib.hid (And.intro hb2 hb1.size)
  have HB01 := Lib.hid hb1
  have HRI := Lib.hid (And.intro hst.rise (And.intro (rows_alive s) (rows_fault hst.ok.inv)))
  have hr40 : s.rows.length ≤ 40 := hst.ok.inv.body.rows
  clear hst hrw hFw hpw hb2 hb1 hb12 HWO HF1
  refine HR2.out.mono ?_
  rintro e w3 ⟨v3, rfl, hv3, hs3, hb3⟩
  have HB3 : Hid (Below w1.heap.size w1 w3) := HB2.out.1.trans (hb3.mono HB2.out.1.size)
  have HBW : Hid (∀ W, Below w1.heap.size w1 W → Below w.heap.size w W) := fun W hW => HB01.out.trans (hW.mono HB01.out.size)
  obtain ⟨A3, c3, rfl, _, _, hcell⟩ := hv3.form
  have HC3 := Lib.hid hcell
  have HS3 := Lib.hid hs3
  clear hv3 hcell hs3 hb3 HR2
  have t33 : decide ((40 : Int) < (s.rows.length : Int)) = false := decide_eq_false (by omega)
  by_cases h0 : s.rows.length = 0
  · have t36 : ((s.rows.length : Int) == 0) = true := by rw [beq_iff_eq]; omega
    clear h0
    go_wp2_with fail
    go_ret
    exact ⟨rfl, HBW.out _ HB3.out⟩
  obtain ⟨n, hn⟩ : ∃ n, s.rows.length = n + 1 := ⟨s.rows.length - 1, by omega⟩
  have hlt : n < s.rows.length := by omega
  obtain ⟨x, hx, _, _⟩ := getElem?_of_lt hlt
  obtain ⟨b, o, rfl, hb, y1, y2, y3⟩ := HC3.out n x hx
  obtain ⟨k1, k2, k3⟩ := anew HRI.out.1 HRI.out.2.1 HRI.out.2.2 hr40 (List.mem_of_getElem? hx) HK.out
  have hxk := (faultE_zero (HRI.out.2.2 x (List.mem_of_getElem? hx))).2.2.1
  have HK2 := Lib.hid k2
  have HK3 := Lib.hid k3
  have hen : Ents w1.heap.size (w3.alloc (.cells #[.string x.k, .string val, .bool false] 34)) (.slice (some ⟨w3.heap.size, 0, none⟩) 1 1) [⟨x.k, val, false⟩] := ⟨rd_lit3 _ w3 _ rfl x.k val false, by intro e he; simp at he; subst he; exact ⟨by show x.k.size ≤ _; omega, hks⟩⟩
  have hb4 : Below w3.heap.size w3 (w3.alloc (.cells #[.string x.k, .string val, .bool false] 34)) := (Below.refl _ _).alloc (Nat.le_refl _) _
  have hw4 := write_st (HS3.out.below hb4) (by omega) hen
  rw [k1] at hw4
  have HW4 := Lib.hid hw4
  have HB4 : Hid (Below w1.heap.size w1 (w3.alloc (.cells #[.string x.k, .string val, .bool false] 34))) := HB3.out.trans (hb4.mono HB3.out.size)
  have HNN := Lib.hid hn
  have HXK := Lib.hid hxk
  obtain ⟨t33', t36', hwn, n0, n1⟩ := tf_facts n (hn ▸ hr40)
  clear t33
  rw [hn]
  clear hx y2 y3 hen hb4 hw4 k1 k2 k3 HC3 h0 hlt HK hn hr40 hxk
  go_wp2_with fail
  refine HW4.out.mono ?_
  intro e w5 hd
  obtain ⟨c5, s5, F5, rfl, hs5, hr5, hb5⟩ := hd.st HB4.out (Nat.le_refl _)
  have hg5 := get_st hs5 x.k (by have := HXK.out; omega)
  rw [hr5, HK2.out] at hg5
  have HG5 : Hid (Calls Try.prog 15 #[.pointer (some ⟨q, 0, none⟩), .string x.k] w5 fun e w' => e = .returned (.tuple #[.string val, .bool true, .nilIface]) ∧ StS w1.heap.size w' q p _ _ c5 s5 F5 ∧ Below w5.heap.size w5 w') := hg5
  have HB5 := Lib.hid hb5
  have HR5 := Lib.hid hr5
  clear hd hs5 hr5 hb5 hg5 HW4
  rw [show errV 0 = Value.nilIface from rfl]
  go_wp2_with fail
  refine HG5.out.mono ?_
  rintro e w6 ⟨rfl, hs6, hb6⟩
  have HR6 := Lib.hid (rows_st hs6)
  have HB6 := Lib.hid (HB5.out.trans (hb6.mono HB5.out.size))
  clear hs6 hb6 HG5
  go_wp2_with fail
  refine HR6.out.mono ?_
  rintro e w7 ⟨v7, rfl, hv7, _, hb7⟩
  obtain ⟨A7, c7, rfl, _, _, _⟩ := hv7.form
  have HB7 := Lib.hid (HB6.out.trans (hb7.mono HB6.out.size))
  clear hv7 hb7 HR6
  rw [HR5.out, HK3.out, HNN.out]
  go_wp2_with fail
  go_ret
  exact ⟨by simp, HBW.out _ HB7.out⟩

-- CLOSING

set_option maxRecDepth 100000 in
theorem topFull_holds : Rows.TopFullSaid :=
  OpenClaim.holds_of_wide 6 Try.f6 rfl rfl rfl rfl rfl rfl rfl ⟨rfl, rfl, rfl, rfl, rfl⟩ rfl rfl rfl rfl rfl (by kernel_rfl) Try.func6 (by kernel_rfl)
    (of_decide_eq_true (by kernel_rfl)) (by unfold Func.isWrapper; first | (rw [if_pos (by decide +kernel)]; kernel_rfl) | (rw [if_neg (by decide +kernel)]; exact ⟨rfl, rfl⟩))
    (fun os started H enc _ => close_lifted Rows.topFullSpec 6 Try.f6 os started H enc (by kernel_rfl) Try.func6 (by kernel_rfl) rfl
      (fun ds hd => by
        rw [Try.params6] at hd
        match ds, hd with
        | [d1, d2], _ => rfl)
      (by kernel_rfl)
      (ChangeSpec.witness6 (enc := enc) (C := Try.checked) false ⟨#[], #[.slice none 0 0, .string ByteArray.empty], []⟩ 8 (by kernel_rfl) (by kernel_rfl) (by kernel_rfl) (by kernel_rfl))
      (fun W base args ds p hval hA => by
        rw [Try.params6] at hA hval
        obtain ⟨v0, v1, d0, d1, p0, p1, hargs, rfl, rfl, h0, h1⟩ := trodAll_two hA
        obtain rfl : args = #[v0, v1] := by cases args; simp_all
        obtain ⟨l0, hl0⟩ := acts_of (hval 0 _ v0 rfl rfl) h0
        obtain ⟨s1, rfl, rfl, rfl, hs1⟩ := open_string Try.underlying9 (hval 1 _ v1 rfl rfl) h1
        exact topFull_walk v0 l0 s1 W hl0 (by unfold maxLen at hs1; omega)))
#print axioms topFull_holds
end Go.Proofs.Ytaepdbkfaoiimac
