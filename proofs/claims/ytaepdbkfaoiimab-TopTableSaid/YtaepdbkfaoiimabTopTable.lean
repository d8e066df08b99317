/- TopTable returns true at every input, and leaves it as it was. Conditions: none. -/
import Derived.Test.YtaepdbkfaoiimabGet
import Derived.Test.YtaepdbkfaoiimabTabP
import Derived.Test.YtaepdbkfaoiimabTabX
import Derived.Test.YtaepdbkfaoiimabRefEnts
import Derived.Test.YtaepdbkfaoiimabSame
import Derived.Test.YtaepdbkfaoiimabMerge
import Derived.Test.YtaepdbkfaoiimabOpen
set_option linter.unusedVariables false
set_option linter.unusedSimpArgs false
namespace Go.Proofs.Ytaepdbkfaoiimab
open Go.ChangeShapes Go.WideShapes Go.ChangeAt Go.RowKit Go.WideMaps Go.WideElems
open Go.ChangeMaps (open_string shut_string)
attribute [local go_sem ↓] eql_err eql_nilerr neq_err neq_nilerr guard_err guard_nilerr guardn_err guardn_nilerr neq_ent eql_ent

theorem foldl_or_bit' (l : List ByteArray) : ∀ (n i : Nat), n.testBit i = true → (l.foldl (fun f s => f ||| spBits s) n).testBit i = true := by
  induction l with
  | nil => intro n i h; exact h
  | cons s l ih => intro n i h; exact ih _ _ (by rw [Nat.testBit_or, h, Bool.true_or])
theorem spBits_a' (s : ByteArray) : (spBits s).testBit (spA s) = true := by rw [spBits, Nat.testBit_or, Nat.testBit_two_pow_self, Bool.true_or]
theorem spBits_b' (s : ByteArray) : (spBits s).testBit (spB s) = true := by rw [spBits, Nat.testBit_or, Nat.testBit_two_pow_self, Bool.or_true]
theorem foldl_or_mem' (l : List ByteArray) (s : ByteArray) (h : s ∈ l) : ∀ (n i : Nat), (spBits s).testBit i = true → (l.foldl (fun f s => f ||| spBits s) n).testBit i = true := by
  induction l with
  | nil => cases h
  | cons a l ih =>
    intro n i hi
    rcases List.mem_cons.1 h with rfl | h
    · exact foldl_or_bit' l _ _ (by rw [Nat.testBit_or, hi, Bool.or_true])
    · exact ih h _ _ hi
theorem may_mem' (l : List ByteArray) (s : ByteArray) (h : s ∈ l) : mayB (fOf l) s = true := by
  rw [mayB, fOf, foldl_or_mem' l s h _ _ (spBits_a' s), foldl_or_mem' l s h _ _ (spBits_b' s)]; rfl
theorem may_get (l : List Ent) (key : ByteArray) (h : mayB (fOf (l.map Ent.k)) key = false) : getE l key = none := by
  cases hg : getE l key with
  | none => rfl
  | some e =>
    obtain ⟨h1, h2⟩ := getE_mem hg
    rw [← h2, may_mem' _ _ (List.mem_map.2 ⟨e, h1, rfl⟩)] at h
    cases h
abbrev tK : ByteArray := ⟨#[107]⟩
abbrev tX : ByteArray := ⟨#[120]⟩
theorem kx_ok : tabF [⟨tK, tX, false⟩] = 0 := by decide +kernel
theorem kx_get : getE [⟨tK, tX, false⟩] tK = some ⟨tK, tX, false⟩ := by simp [getE]
theorem ents_lit1' (B : Nat) (w : World) (n : Nat) (hn : w.heap.size = n) (k v : ByteArray) (g : Bool) (hk : k.size ≤ 100) (hv : v.size ≤ 100) :
    Ents B (w.alloc (.cells #[.string k, .string v, .bool g] 25)) (.slice (some ⟨n, 0, none⟩) 1 1) [⟨k, v, g⟩] :=
  ⟨rd_lit3 B w n hn k v g, by intro e he; simp at he; subst he; exact ⟨by simp; omega, by simp; omega⟩⟩
theorem entO_val (o : Option Ent) : entO o = (o.getD Ent.zero).val := by cases o <;> rfl
/-- What lies where, while TopTable runs. -/
structure TtS (w : World) (v : Value) (l : List Ent) (p : Nat) (c : Chip) (W : World) : Prop where
  rep : ChipR w.heap.size W p c
  bl : Below w.heap.size w W
  en : Ents w.heap.size W v l
section
variable {w W W' : World} {v : Value} {l : List Ent} {p : Nat} {c c' : Chip}
theorem TtS.below (h : TtS w v l p c W) (hb : Below W.heap.size W W') : TtS w v l p c W' := ⟨h.rep.below hb, h.bl.trans (hb.mono h.bl.size), h.en.below hb⟩
theorem TtS.alloc (h : TtS w v l p c W) (o : Obj) : TtS w v l p c (W.alloc o) := h.below ((Below.refl _ _).alloc (Nat.le_refl _) _)
theorem TtS.fr (h : TtS w v l p c W) (hr : ChipR w.heap.size W' p c') (hf : Fr w.heap.size (· = p) W W') : TtS w v l p c' W' := ⟨hr, h.bl.trans (hf.below h.bl.size), h.en.fr hf⟩
end
set_option maxRecDepth 40000 in
set_option maxHeartbeats 8000000 in
theorem topTable_walk (v0 : Value) (l : List Ent) (b : Int) (key : ByteArray) (w : World) (h : Ents w.heap.size w v0 l) (hk : key.size ≤ 9223372036854775807) :
    Calls Try.prog 10 #[v0, .int .i64 b, .string key] w fun e w' => e = .returned (.bool true) ∧ Below w.heap.size w w' := by
  obtain ⟨A, cap, rfl, hcp, hcp2, hcell⟩ := h.form
  have HX := Lib.hid hcell
  have HL := Lib.hid h
  clear hcell h
  have HNEW := Lib.hid (cnew_any w.heap.size w (Nat.le_refl _))
  go_enter Try.func10, Try.ntmps10
  go_wp2_with (go_at_call 32; refine HNEW.out.mono ?_; rintro e1 w1 ⟨p, rfl, hp1, hr1, hb1⟩)
  obtain ⟨c1, n1, hc1, hs1, hf1, ho1⟩ := tabWrite_calm (c := Chip.new) (b := 3) (l := [⟨tK, tX, false⟩]) (by decide) rfl rfl rfl kx_ok
  have hf1' := hf1 (by decide)
  obtain ⟨hn1, hfu1⟩ := hf1'
  subst hn1
  have ho1 : c1.down = false ∧ TabAt c1 3 [⟨tK, tX, false⟩] := by
    rcases ho1 with ⟨_, h1, _, h2, _⟩ | ⟨h, _⟩
    · exact ⟨h1, h2⟩
    · cases h
  have HT1 : Hid (TtS w (.slice A l.length cap) l p Chip.new w1) := ⟨hr1, hb1, HL.out.below hb1⟩
  have HW1 : Hid (Calls Try.prog 46 #[.pointer (some ⟨p, 0, none⟩), .int .i64 3, .slice (some ⟨w1.heap.size, 0, none⟩) 1 1] (w1.alloc (.cells #[.string tK, .string tX, .bool false] 25)) fun e w' => e = .returned .nilIface ∧ TtS w (.slice A l.length cap) l p c1 w') := by
    have := twrite_any w.heap.size p Chip.new 3 _ [⟨tK, tX, false⟩] _ (HT1.out.alloc (.cells #[.string tK, .string tX, .bool false] 25)).rep (ents_lit1' w.heap.size w1 _ rfl tK tX false (by decide) (by decide)) kx_ok
    rw [show ((3 : Nat) : Int) = 3 from rfl] at hc1
    rw [hc1] at this
    exact this.mono (fun e w' ⟨h1, h2, h3⟩ => ⟨h1, (HT1.out.alloc _).fr h2 h3⟩)
  have HG1 : Hid (∀ W, TtS w (.slice A l.length cap) l p c1 W → Calls Try.prog 47 #[.pointer (some ⟨p, 0, none⟩), .int .i64 3, .string tK] W fun e w' => e = .returned (.tuple #[.agg #[.string tK, .string tX, .bool false], .bool true, .nilIface]) ∧ TtS w (.slice A l.length cap) l p c1 w') := by
    intro W hW
    have := tabget_any w.heap.size p 3 c1 [⟨tK, tX, false⟩] tK W hW.rep (by decide) ho1.1 ho1.2 (by decide) (may_get _ _)
    rw [kx_get] at this
    exact this.mono (fun e w' ⟨h1, h2⟩ => ⟨h1, hW.below h2⟩)
  have hb1c : ∀ i, (c1.b i).bad = false ∧ (c1.b i).weak = false := by
    intro i
    by_cases hi : i = 3
    · subst hi; exact ⟨hs1.bad, hs1.weak⟩
    · rw [hs1.other i hi]; exact ⟨rfl, rfl⟩
  have HC1 := Lib.hid hb1c
  have HD1 := Lib.hid ho1.1
  have HF1 := Lib.hid hfu1
  have HLE := Lib.hid (fun W (h : TtS w (.slice A l.length cap) l p c1 W) => lightE_any w.heap.size (.slice A l.length cap) l 20 W h.en)
  clear hc1 hs1 hf1 hfu1 ho1 hb1c hr1 hb1 HNEW
  by_cases hli0 : lightE 20 l = true
  case neg =>
    have HLI : Hid (lightE 20 l = false) := by simpa [Hid] using hli0
    rw [HLI.out] at HLE
    go_wp2_with (first
    | (go_at_call 46; refine HW1.out.mono ?_; rintro e2 w2 ⟨rfl, ht2⟩; have HT2 := Lib.hid ht2; clear ht2 HW1)
    | (go_at_call 47; refine (HG1.out _ HT2.out).mono ?_; rintro e3 w3 ⟨rfl, ht3⟩; have HT3 := Lib.hid ht3; clear ht3 HG1)
    | (go_at_call 22; refine (HLE.out _ (HT3.out.alloc _)).mono ?_; rintro e4 w4 ⟨rfl, rfl⟩; clear HLE))
    go_ret
    exact ⟨rfl, (HT3.out.alloc _).bl⟩
  have HLI := Lib.hid hli0
  rw [HLI.out] at HLE
  by_cases k1 : 0 ≤ b
  case neg =>
    have t1 : decide (b < 0) = true := decide_eq_true (by omega)
    go_wp2_with (first
    | (go_at_call 46; refine HW1.out.mono ?_; rintro e2 w2 ⟨rfl, ht2⟩; have HT2 := Lib.hid ht2; clear ht2 HW1)
    | (go_at_call 47; refine (HG1.out _ HT2.out).mono ?_; rintro e3 w3 ⟨rfl, ht3⟩; have HT3 := Lib.hid ht3; clear ht3 HG1)
    | (go_at_call 22; refine (HLE.out _ (HT3.out.alloc _)).mono ?_; rintro e4 w4 ⟨rfl, rfl⟩; clear HLE))
    go_ret
    exact ⟨rfl, (HT3.out.alloc _).bl⟩
  by_cases k2 : b < 24
  case neg =>
    have t1 : decide (b < 0) = false := decide_eq_false (by omega)
    have t2 : decide ((24 : Int) ≤ b) = true := decide_eq_true (by omega)
    go_wp2_with (first
    | (go_at_call 46; refine HW1.out.mono ?_; rintro e2 w2 ⟨rfl, ht2⟩; have HT2 := Lib.hid ht2; clear ht2 HW1)
    | (go_at_call 47; refine (HG1.out _ HT2.out).mono ?_; rintro e3 w3 ⟨rfl, ht3⟩; have HT3 := Lib.hid ht3; clear ht3 HG1)
    | (go_at_call 22; refine (HLE.out _ (HT3.out.alloc _)).mono ?_; rintro e4 w4 ⟨rfl, rfl⟩; clear HLE))
    go_ret
    exact ⟨rfl, (HT3.out.alloc _).bl⟩
  by_cases k3 : key.size ≤ 20
  case neg =>
    have t1 : decide (b < 0) = false := decide_eq_false (by omega)
    have t2 : decide ((24 : Int) ≤ b) = false := decide_eq_false (by omega)
    have t3 : decide ((20 : Int) < (key.size : Int)) = true := decide_eq_true (by omega)
    go_wp2_with (first
    | (go_at_call 46; refine HW1.out.mono ?_; rintro e2 w2 ⟨rfl, ht2⟩; have HT2 := Lib.hid ht2; clear ht2 HW1)
    | (go_at_call 47; refine (HG1.out _ HT2.out).mono ?_; rintro e3 w3 ⟨rfl, ht3⟩; have HT3 := Lib.hid ht3; clear ht3 HG1)
    | (go_at_call 22; refine (HLE.out _ (HT3.out.alloc _)).mono ?_; rintro e4 w4 ⟨rfl, rfl⟩; clear HLE))
    go_ret
    exact ⟨rfl, (HT3.out.alloc _).bl⟩
  have t1 : decide (b < 0) = false := decide_eq_false (by omega)
  have t2 : decide ((24 : Int) ≤ b) = false := decide_eq_false (by omega)
  have t3 : decide ((20 : Int) < (key.size : Int)) = false := decide_eq_false (by omega)
  go_wp2_with (first
    | (go_at_call 46; refine HW1.out.mono ?_; rintro e2 w2 ⟨rfl, ht2⟩; have HT2 := Lib.hid ht2; clear ht2 HW1)
    | (go_at_call 47; refine (HG1.out _ HT2.out).mono ?_; rintro e3 w3 ⟨rfl, ht3⟩; have HT3 := Lib.hid ht3; clear ht3 HG1)
    | (go_at_call 22; refine (HLE.out _ (HT3.out.alloc _)).mono ?_; rintro e4 w4 ⟨rfl, rfl⟩; clear HLE))
  obtain ⟨bn, rfl⟩ := Int.eq_ofNat_of_zero_le k1
  have hbn : bn < 24 := by omega
  have HT4 : Hid (TtS w (.slice A l.length cap) l p c1 (w3.alloc (.cells #[.string tK, .string tX, .bool false] 25))) := HT3.out.alloc _
  generalize hW3 : (w3.alloc (.cells #[.string tK, .string tX, .bool false] 25)) = W3 at *
  have hll : l.length ≤ 20 := by
    have := HLI.out
    simp [lightE] at this
    omega
  clear ho1 HT2 HT3 hW3 hli0 t1 t2 t3
  by_cases htf : tabF l = 0
  case neg =>
    have HW2 : Hid (Calls Try.prog 46 #[.pointer (some ⟨p, 0, none⟩), .int .i64 bn, .slice A l.length cap] W3 fun e w' => (∃ n : Nat, e = .returned (.iface 107 (.int .i64 n))) ∧ TtS w (.slice A l.length cap) l p c1 w') := by
      refine (twrite_bad w.heap.size p c1 bn _ l _ HT4.out.rep HT4.out.en htf (by omega)).mono ?_
      rintro e w' ⟨⟨n, hn, rfl⟩, hr, hf⟩
      exact ⟨⟨n, by rw [show errV n = _ from if_neg hn]⟩, HT4.out.fr hr hf⟩
    have HCK : Hid (∀ W, TtS w (.slice A l.length cap) l p c1 W → Calls Try.prog 48 #[.slice A l.length cap] W fun e w' => e = .returned (.iface 107 (.int .i64 (tabF l))) ∧ TtS w (.slice A l.length cap) l p c1 w') := by
      intro W hW
      refine (tcheck_any w.heap.size _ l W hW.en).mono ?_
      rintro e w' ⟨rfl, hb⟩
      exact ⟨by rw [show errV (tabF l) = _ from if_neg htf], hW.below hb⟩
    clear htf
    go_wp2_with fail
    refine HW2.out.mono ?_
    rintro e4 w4 ⟨⟨n4, rfl⟩, ht4⟩
    have HT5 := Lib.hid ht4
    clear ht4 HW2
    go_wp2_with (go_at_call 48; refine (HCK.out _ HT5.out).mono ?_; rintro e5 w5 ⟨rfl, ht5⟩; have HT6 := Lib.hid ht5; clear ht5)
    go_ret
    exact ⟨rfl, HT6.out.bl⟩
  obtain ⟨c2, n2, hc2, hs2, hf2, ho2⟩ := tabWrite_calm (c := c1) (b := bn) (l := l) hbn HD1.out (HC1.out bn).1 (HC1.out bn).2 htf
  obtain ⟨hn2, _⟩ := hf2 HF1.out
  subst hn2
  have ho2 : c2.down = false ∧ TabAt c2 bn l := by
    rcases ho2 with ⟨_, h1, _, h2, _⟩ | ⟨h, _⟩
    · exact ⟨h1, h2⟩
    · cases h
  have HW2 : Hid (Calls Try.prog 46 #[.pointer (some ⟨p, 0, none⟩), .int .i64 bn, .slice A l.length cap] W3 fun e w' => e = .returned .nilIface ∧ TtS w (.slice A l.length cap) l p c2 w') := by
    have := twrite_any w.heap.size p c1 bn _ l _ HT4.out.rep HT4.out.en htf
    rw [hc2] at this
    exact this.mono (fun e w' ⟨h1, h2, h3⟩ => ⟨h1, HT4.out.fr h2 h3⟩)
  have HAL : Hid (∀ W, TtS w (.slice A l.length cap) l p c2 W → Calls Try.prog 49 #[.pointer (some ⟨p, 0, none⟩), .int .i64 bn] W fun e w' => (∃ v, e = .returned (.tuple #[v, .nilIface]) ∧ Ents w.heap.size w' v l) ∧ TtS w (.slice A l.length cap) l p c2 w') := by
    intro W hW
    refine (taball_any w.heap.size p bn c2 l W hW.rep hbn ho2.1 ho2.2).mono ?_
    rintro e w' ⟨v, rfl, hv, hb⟩
    exact ⟨⟨v, rfl, hv⟩, hW.below hb⟩
  have HGE : Hid (∀ W key, key.size ≤ 1000 → TtS w (.slice A l.length cap) l p c2 W → Calls Try.prog 47 #[.pointer (some ⟨p, 0, none⟩), .int .i64 bn, .string key] W fun e w' => (∃ x : Ent, x = (getE l key).getD Ent.zero ∧ e = .returned (.tuple #[.agg #[.string x.k, .string x.v, .bool x.g], .bool (getE l key).isSome, .nilIface])) ∧ TtS w (.slice A l.length cap) l p c2 w') := by
    intro W key hk hW
    refine (tabget_any w.heap.size p bn c2 l key W hW.rep hbn ho2.1 ho2.2 (by omega) (may_get _ _)).mono ?_
    rintro e w' ⟨rfl, hb⟩
    exact ⟨⟨_, rfl, by rw [entO_val]; rfl⟩, hW.below hb⟩
  have HRG : Hid (∀ W, TtS w (.slice A l.length cap) l p c2 W → Calls Try.prog 16 #[.slice A l.length cap, .string key] W fun e w' => (∃ x : Ent, x = (getE l key).getD Ent.zero ∧ e = .returned (.tuple #[.agg #[.string x.k, .string x.v, .bool x.g], .bool (getE l key).isSome])) ∧ TtS w (.slice A l.length cap) l p c2 w' ∧ Below W.heap.size W w') := by
    intro W hW
    refine (rget_any w.heap.size _ l key W hW.en).mono ?_
    rintro e w' ⟨rfl, hb⟩
    exact ⟨⟨_, rfl, rfl⟩, hW.below hb, hb⟩
  have HRI := Lib.hid (chkT_rises (tabF_parts htf).2.2).1
  have HOK : Hid (∀ e ∈ l, faultE e = 0) := chkT_all (tabF_parts htf).2.2
  have HSM : Hid (∀ W v, Ents w.heap.size W v l → TtS w (.slice A l.length cap) l p c2 W → Calls Try.prog 17 #[v, .slice A l.length cap] W fun e w' => e = .returned (.bool true) ∧ TtS w (.slice A l.length cap) l p c2 w') := by
    intro W v hv hW
    refine (same_any w.heap.size v _ l l W hv hW.en).mono ?_
    rintro e w' ⟨rfl, n, rfl⟩
    exact ⟨by simp, ⟨hW.rep.drewN n, below_drewN' hW.bl n, hW.en.drewN n⟩⟩
  clear hc2 hs2 hf2 ho2 htf
  go_wp2_with (first
    | (go_at_call 46; refine HW2.out.mono ?_; rintro e4 w4 ⟨rfl, ht4⟩; have HT5 := Lib.hid ht4; clear ht4 HW2)
    | (go_at_call 49; refine (HAL.out _ HT5.out).mono ?_; rintro e5 w5 ⟨⟨v5, rfl, hv5⟩, ht5⟩; have HT6 := Lib.hid ht5; have HV5 := Lib.hid hv5; clear ht5 hv5)
    | (go_at_call 17; refine (HSM.out _ _ HV5.out HT6.out).mono ?_; rintro e6 w6 ⟨rfl, ht6⟩; have HT7 := Lib.hid ht6; clear ht6))
  go_loopw [13] (fun i wr => ∃ k : Nat, i = .int .i64 (k : Int) ∧ k ≤ l.length ∧ Hid (TtS w (.slice A l.length cap) l p c2 wr)) (fun i _ => l.length - (intOf i).toNat)
  case atStart => exact ⟨0, rfl, Nat.zero_le _, HT7.out⟩
  case round =>
    obtain ⟨k, rfl, hk', hT⟩ := hrel
    by_cases hlt : k < l.length
    · obtain ⟨y, hy, _, _⟩ := getElem?_of_lt hlt
      obtain ⟨bb, oo, rfl, hbb, y1, y2, y3⟩ := HX.out k y hy
      have HD : Hid (∀ {wx : World}, Below w.heap.size w wx → wx.cell? ⟨bb, oo + k * 3, none⟩ = some (.string y.k) ∧ wx.cell? ⟨bb, oo + k * 3 + 1, none⟩ = some (.string y.v) ∧ wx.cell? ⟨bb, oo + k * 3 + 2, none⟩ = some (.bool y.g)) := by
        intro wx hbl
        exact ⟨(hbl.cell (p := ⟨bb, oo + k * 3, none⟩) hbb).trans y1, (hbl.cell (p := ⟨bb, oo + k * 3 + 1, none⟩) hbb).trans y2, (hbl.cell (p := ⟨bb, oo + k * 3 + 2, none⟩) hbb).trans y3⟩
      have hyk := (faultE_zero (HOK.out y (List.mem_of_getElem? hy))).2.2.1
      have HGY : Hid (getE l y.k = some y) := getE_of_mem HRI.out (List.mem_of_getElem? hy)
      have hyk' : y.k.size ≤ 1000 := by omega
      have HG := Lib.hid (HGE.out wr y.k hyk' hT.out)
      obtain ⟨d1, d2, d3⟩ := HD.out hT.out.bl
      have g1 : (0 : Int) ≤ (k : Int) := by omega
      have g2 : (k : Int) < (l.length : Int) := by omega
      clear y1 y2 y3 hy hyk HX
      go_wp2_with fail
      refine HG.out.mono ?_
      rintro e8 w8 ⟨⟨x, hx, rfl⟩, ht8⟩
      rw [HGY.out] at hx ⊢
      obtain rfl : x = y := hx
      have HT8 : Hid (TtS w (.slice (some ⟨bb, oo, none⟩) l.length cap) l p c2 (w8.alloc (.cells #[.string x.k, .string x.v, .bool x.g] 25))) := ht8.alloc _
      clear ht8 HG d1 d2 d3
      obtain ⟨d1, d2, d3⟩ := HD.out HT8.out.bl
      simp only [Option.isSome_some]
      go_wp2_with fail
      go_quiet (fail)
      go_wp2_with fail
      go_roundw
      case rel => exact ⟨k + 1, by simp, by omega, ⟨HT8.out.rep.drewN _, below_drewN' HT8.out.bl _, HT8.out.en.drewN _⟩⟩
      case measure => simp [intOf] <;> omega
    · have g3 : decide ((k : Int) < (l.length : Int)) = false := decide_eq_false (by omega)
      have HG := Lib.hid (HGE.out wr key (by omega) hT.out)
      clear HX
      go_wp2_with fail
      refine HG.out.mono ?_
      rintro e8 w8 ⟨⟨x, hx, rfl⟩, ht8⟩
      have HX8 := Lib.hid hx
      have HT8 : Hid (TtS w (.slice A l.length cap) l p c2 (w8.alloc (.cells #[.string x.k, .string x.v, .bool x.g] 25))) := ht8.alloc _
      have HR8 := Lib.hid (HRG.out _ HT8.out)
      have HC8 : Hid (∀ wx, Below (w8.alloc (.cells #[.string x.k, .string x.v, .bool x.g] 25)).heap.size (w8.alloc (.cells #[.string x.k, .string x.v, .bool x.g] 25)) wx → Blk wx w8.heap.size 25 #[.string x.k, .string x.v, .bool x.g]) := fun wx hb => (Blk.new w8 _ _).below hb (by simp)
      clear ht8 HG hx
      generalize (getE l key).isSome = z at *
      generalize (getE l key).getD Ent.zero = y0 at *
      go_wp2_with fail
      refine HR8.out.mono ?_
      rintro e9 w9 ⟨⟨x', hx', rfl⟩, ht9, hb9⟩
      rw [← HX8.out] at hx'
      obtain rfl : x' = x := hx'
      have HK9 := HC8.out w9 hb9
      have hs9 := HK9.lt
      have a0 := HK9.cell 0
      have a1 := HK9.cell 1
      have a2 := HK9.cell 2
      simp at a0 a1 a2
      have HB9 : Hid (Below w.heap.size w (w9.alloc (.cells #[.string x'.k, .string x'.v, .bool x'.g] 25))) := (ht9.alloc _).bl
      clear HK9 HC8 HR8 ht9 hb9 HT8 HX8
      cases z
      all_goals
        go_wp2_with fail
        go_ret
        exact ⟨by simp, HB9.out⟩
-- CLOSING

set_option maxRecDepth 100000 in
theorem topTable_holds : Rows.TopTableSaid :=
  OpenClaim.holds_of_wide 10 Try.f10 rfl rfl rfl rfl rfl rfl rfl ⟨rfl, rfl, rfl, rfl, rfl⟩ rfl rfl rfl rfl rfl (by kernel_rfl) Try.func10 (by kernel_rfl)
    (of_decide_eq_true (by kernel_rfl)) (by unfold Func.isWrapper; first | (rw [if_pos (by decide +kernel)]; kernel_rfl) | (rw [if_neg (by decide +kernel)]; exact ⟨rfl, rfl⟩))
    (fun os started H enc _ => close_lifted Rows.topTableSpec 10 Try.f10 os started H enc (by kernel_rfl) Try.func10 (by kernel_rfl) rfl
      (fun ds hd => by
        rw [Try.params10] at hd
        match ds, hd with
        | [d1, d2, d3], _ => rfl)
      (by kernel_rfl)
      (ChangeSpec.witness6 (enc := enc) (C := Try.checked) false ⟨#[], #[.slice none 0 0, .int .i64 0, .string ByteArray.empty], []⟩ 8 (by kernel_rfl) (by kernel_rfl) (by kernel_rfl) (by kernel_rfl))
      (fun W base args ds p hval hA => by
        rw [Try.params10] at hA hval
        obtain ⟨v0, v1, v2, d0, d1, d2, p0, p1, p2, hargs, rfl, rfl, h0, h1, h2⟩ := trodAll_three hA
        obtain rfl : args = #[v0, v1, v2] := by cases args; simp_all
        obtain ⟨l0, hl0⟩ := ents_of (hval 0 _ v0 rfl rfl) h0
        obtain ⟨n1, rfl, rfl, rfl, wn1⟩ := open_int Try.underlying3 (hval 1 _ v1 rfl rfl) h1
        obtain ⟨s2, rfl, rfl, rfl, hs2⟩ := open_string Try.underlying9 (hval 2 _ v2 rfl rfl) h2
        exact topTable_walk v0 l0 n1 s2 W hl0 (by unfold maxLen at hs2; omega)))
#print axioms topTable_holds
end Go.Proofs.Ytaepdbkfaoiimab
