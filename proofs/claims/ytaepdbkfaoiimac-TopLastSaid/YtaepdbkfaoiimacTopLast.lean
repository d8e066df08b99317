/- TopLast returns true at every input, and leaves it as it was. Conditions: none. -/
import Derived.Test.YtaepdbkfaoiimacMi
set_option linter.unusedVariables false
set_option linter.unusedSimpArgs false
namespace Go.Proofs.Ytaepdbkfaoiimac
open Go.ChangeShapes Go.WideShapes Go.ChangeAt Go.RowKit Go.WideMaps Go.WideElems
open Go.ChangeMaps (open_string shut_string)
attribute [local go_sem ↓] eql_err eql_nilerr neq_err neq_nilerr guard_err guard_nilerr guardn_err guardn_nilerr
def foldLast (y : Ent) (l : List Ent) : Ent := l.foldl (fun a x => if x.k = a.k then x else a) y
theorem foldLast_k (l : List Ent) : ∀ y : Ent, (foldLast y l).k = y.k := by
  induction l with
  | nil => intro y; rfl
  | cons x l ih =>
    intro y
    show (foldLast (if x.k = y.k then x else y) l).k = y.k
    rw [ih]
    split
    · assumption
    · rfl
theorem lastE_snoc (l : List Ent) (x : Ent) (k : ByteArray) : lastE (l ++ [x]) k = if x.k = k then some x else lastE l k := by
  unfold lastE
  rw [List.reverse_append]
  show getE (x :: l.reverse) k = _
  rw [getE_cons]
theorem foldLast_get (A : List Ent) (y : Ent) (suf : List Ent) : lastE ((A ++ [y]) ++ suf) y.k = some (foldLast y suf) := by
  induction suf using snoc_ind with
  | h0 => rw [List.append_nil, lastE_snoc, if_pos rfl]; rfl
  | h1 suf x ih =>
    have e : foldLast y (suf ++ [x]) = if x.k = (foldLast y suf).k then x else foldLast y suf := by unfold foldLast; rw [List.foldl_append]; rfl
    rw [← List.append_assoc, lastE_snoc, e, foldLast_k]
    split
    · rfl
    · exact ih
theorem foldLast_at {l : List Ent} {n : Nat} {y : Ent} (h : l[n]? = some y) : lastE l y.k = some (foldLast y (l.drop (n + 1))) := by
  obtain ⟨h1, e1⟩ := List.getElem?_eq_some_iff.1 h
  have e : l = (l.take n ++ [y]) ++ l.drop (n + 1) := by
    rw [← e1, ← List.take_succ_eq_append_getElem h1, List.take_append_drop]
  conv => lhs; rw [e]
  exact foldLast_get _ _ _
/-- What is told of a key that was written. -/
theorem told_last {r l : List Ent} (hr : Rises r) (ha : ∀ e ∈ r, e.g = false) (h0 : checkR r l = 0) {z : Ent} (hz : lastE l z.k = some z) (hf : faultE z = 0) :
    ((getE (rowsW r l) z.k).getD Ent.zero).v = z.v ∧ (getE (rowsW r l) z.k).isSome = !z.g := by
  rw [get_rowsW hr ha h0, hz, Option.some_or]
  cases hg : z.g
  · have e1 : (some z : Option Ent).filter (fun e => !e.g) = some z := by simp [hg]
    rw [e1]
    exact ⟨rfl, rfl⟩
  · have e1 : (some z : Option Ent).filter (fun e => !e.g) = none := by simp [hg]
    rw [e1]
    refine ⟨?_, rfl⟩
    have h1 := (faultE_zero hf).2.1 hg
    show ByteArray.empty = z.v
    rw [← toList_inj, h1]
    exact (toList_nil ByteArray.empty).2 rfl
theorem check_faults {r l : List Ent} (h : checkR r l = 0) : l.length ≤ 4 ∧ ∀ e ∈ l, faultE e = 0 := by
  unfold checkR at h
  split at h
  · cases h
  · split at h
    · rename_i h1 h2; exact absurd h h2
    · rename_i h1 h2
      exact ⟨by omega, (bytesF_parts (by simpa using h2)).1⟩
theorem StS.drewN {B q p k j : Nat} {w : World} {c : Chip} {s : SM} {F : List Nat} (h : StS B w q p k j c s F) (n : Nat) : StS B (w.drewN n) q p k j c s F := ⟨h.st.drewN n, h.ch.drewN n, h.ok⟩
set_option maxRecDepth 20000 in
set_option maxHeartbeats 4000000 in
theorem topLast_walk (va vb : Value) (l : List Act) (batch : List Ent) (w : World) (ha : ActsR w.heap.size w va l) (hb : Ents w.heap.size w vb batch) :
    Calls Try.prog 3 #[va, vb] w fun e w' => e = .returned (.bool true) ∧ Below w.heap.size w w' := by
  obtain ⟨A, cp, rfl, q1, q2, hcell⟩ := hb.form
  have HWO := Lib.hid (works_any w)
  have HFI := Lib.hid (fun W (hW : Below w.heap.size w W) => filled_any w.heap.size va l W (acts_below ha hW) hW.size)
  have HC := Lib.hid hcell
  have HLE := Lib.hid (fun W (hW : Below w.heap.size w W) => lightE_any w.heap.size _ batch 6 W (hb.below hW))
  have HEN := Lib.hid (fun W (hW : Below w.heap.size w W) => hb.below hW)
  clear hcell ha hb
  cases hg : filG l
  · have HF0 := Lib.hid (fun W hW => fil_no hg (HFI.out W hW))
    clear hg HFI
    go_enter Try.func3, Try.ntmps3
    go_wp2_with (first
      | (go_at_call 11; refine HWO.out.mono ?_; rintro e w1 ⟨rfl, hb1⟩)
      | (go_at_call 12; refine (HF0.out w1 hb1).mono ?_; rintro e w2 ⟨rfl, rfl⟩))
    go_ret
    exact ⟨rfl, hb1⟩
  have HF1 := Lib.hid (fun W hW => fil_yes hg (HFI.out W hW))
  have hl80 := filG_len hg
  clear hg HFI
  cases hle : lightE 6 batch
  · rw [hle] at HLE
    clear hle
    go_enter Try.func3, Try.ntmps3
    go_wp2_with (first
      | (go_at_call 11; refine HWO.out.mono ?_; rintro e w1 ⟨rfl, hb1⟩)
      | (go_at_call 12; refine (HF1.out w1 hb1).mono ?_; rintro e w2 ⟨p, q, rfl, c, s, F, hst, hrw, hFw, hpw, hb2⟩; have hb12 := hb1.trans (hb2.mono hb1.size))
      | (go_at_call 13; refine (HLE.out w2 hb12).mono ?_; rintro e w3 ⟨rfl, rfl⟩))
    go_ret
    exact ⟨rfl, hb12⟩
  rw [hle] at HLE
  clear hle
  go_enter Try.func3, Try.ntmps3
  go_wp2_with (first
    | (go_at_call 11; refine HWO.out.mono ?_; rintro e w1 ⟨rfl, hb1⟩)
    | (go_at_call 12; refine (HF1.out w1 hb1).mono ?_; rintro e w2 ⟨p, q, rfl, c, s, F, hst, hrw, hFw, hpw, hb2⟩; have hb12 := hb1.trans (hb2.mono hb1.size))
    | (go_at_call 13; refine (HLE.out w2 hb12).mono ?_; rintro e w3 ⟨rfl, rfl⟩))
  have HB2 := Lib.hid (And.intro hb2 hb1.size)
  have HB01 := Lib.hid hb1
  have HEB : Hid (Ents w1.heap.size w2 (.slice A batch.length cp) batch) := ents_up (HEN.out w2 hb12) hb1.size
  have HRI := Lib.hid (And.intro hst.rise (rows_alive s))
  have HW := Lib.hid (write_st hst (by omega) HEB.out)
  clear hst hrw hFw hpw hb2 hb1 hb12 HLE HWO HF1 HEN
  refine HW.out.mono ?_
  intro e w5 hd
  obtain ⟨c5, s5, F5, rfl, hs5, hr5, hb5⟩ := hd.st HB2.out.1 (Nat.le_refl _)
  have HS5 := Lib.hid hs5
  have HR5 := Lib.hid hr5
  have HB5 := Lib.hid hb5
  have HBW : Hid (∀ W, Below w1.heap.size w1 W → Below w.heap.size w W) := fun W hW => HB01.out.trans (hW.mono HB01.out.size)
  clear hd hs5 hr5 hb5 HW HEB
  by_cases hck : checkR s.rows batch = 0
  case neg =>
    have he : errV (checkR s.rows batch) = .iface 68 (.int .i64 (checkR s.rows batch)) := if_neg hck
    rw [he]
    clear he hck
    go_wp2_with fail
    go_ret
    exact ⟨rfl, HBW.out _ HB5.out⟩
  have HCF := Lib.hid (check_faults hck)
  have HTL := Lib.hid (fun z (hz : lastE batch z.k = some z) (hf : faultE z = 0) => told_last HRI.out.1 HRI.out.2 hck hz hf)
  have HLM := Lib.hid (fun z k (h : lastE batch k = some z) => show z ∈ batch from List.mem_reverse.1 (getE_mem h).1)
  have hb4 := HCF.out.1
  rw [hck, show errV 0 = Value.nilIface from rfl]
  clear hck
  generalize rowsW s.rows batch = R at *
  go_wp2_with fail
  go_loopw [8] (fun i wr => ∃ n : Nat, n ≤ batch.length ∧ i = .int .i64 n ∧ Hid (StS w1.heap.size wr q p (l.length + 1) (weakN l) c5 s5 F5) ∧ Hid (Below w1.heap.size w1 wr)) (fun i _ => batch.length - (intOf i).toNat)
  case atStart => exact ⟨0, Nat.zero_le _, rfl, HS5.out, HB5.out⟩
  case round =>
    obtain ⟨n, hn, rfl, hst, hbl⟩ := hrel
    by_cases hlt : n < batch.length
    · obtain ⟨y, hy, _, _⟩ := getElem?_of_lt hlt
      obtain ⟨bb, oo, rfl, hbb, y1, y2, y3⟩ := HC.out n y hy
      have hbw := HBW.out wr hbl.out
      have d1 := (hbw.cell (p := ⟨bb, oo + n * 3, none⟩) hbb).trans y1
      have d2 := (hbw.cell (p := ⟨bb, oo + n * 3 + 1, none⟩) hbb).trans y2
      have d3 := (hbw.cell (p := ⟨bb, oo + n * 3 + 2, none⟩) hbb).trans y3
      have HLY := Lib.hid (foldLast_at hy)
      have g1 : (0 : Int) ≤ (n : Int) := by omega
      have g2 : (n : Int) < (batch.length : Int) := by omega
      have hgs : w1.heap.size ≤ wr.heap.size := hbl.out.size
      have HBK : Hid (Blk (wr.alloc (.cells #[.string y.k, .string y.v, .bool y.g] 34)) wr.heap.size 34 #[.string y.k, .string y.v, .bool y.g]) := Blk.new wr _ _
      have HSA : Hid (StS w1.heap.size (wr.alloc (.cells #[.string y.k, .string y.v, .bool y.g] 34)) q p (l.length + 1) (weakN l) c5 s5 F5) := hst.out.below ((Below.refl _ _).alloc (Nat.le_refl _) _)
      have HBA : Hid (Below w1.heap.size w1 (wr.alloc (.cells #[.string y.k, .string y.v, .bool y.g] 34))) := hbl.out.alloc hgs _
      clear hy y1 y2 y3 hbw
      generalize hgg : wr.heap.size = g at *
      go_wp2_with fail
      obtain ⟨wo, hwo⟩ : ∃ wo : World, wo = wr := ⟨_, rfl⟩
      go_loopw [10] (fun i wr' => ∃ (m : Nat) (z : Ent), m ≤ batch.length ∧ i = .int .i64 m ∧ Hid (foldLast z (batch.drop m) = foldLast y (batch.drop (n + 1)) ∧ z.k = y.k) ∧ Hid (Blk wr' g 34 #[.string z.k, .string z.v, .bool z.g]) ∧ Hid (StS w1.heap.size wr' q p (l.length + 1) (weakN l) c5 s5 F5) ∧ Hid (Below w1.heap.size w1 wr')) (fun i _ => batch.length - (intOf i).toNat)
      case atStart => exact ⟨n + 1, y, by omega, by go_num, ⟨rfl, rfl⟩, HBK.out, HSA.out, HBA.out⟩
      case round =>
        obtain ⟨m, z, hm, rfl, hfl, hbk, hst', hbl'⟩ := hrel
        have z0 := hbk.out.cell 0
        have z1 := hbk.out.cell 1
        have z2 := hbk.out.cell 2
        simp at z0 z1 z2
        have z3 := hbk.out.frozen 0
        have z4 := hbk.out.frozen 1
        have z5 := hbk.out.frozen 2
        by_cases hmb : m < batch.length
        · obtain ⟨x, hx, _, hdr⟩ := getElem?_of_lt hmb
          obtain ⟨b', o', e', _, y1, y2, y3⟩ := HC.out m x hx
          cases e'
          have hbw := HBW.out wr hbl'.out
          have e1 := (hbw.cell (p := ⟨bb, oo + m * 3, none⟩) hbb).trans y1
          have e2 := (hbw.cell (p := ⟨bb, oo + m * 3 + 1, none⟩) hbb).trans y2
          have e3 := (hbw.cell (p := ⟨bb, oo + m * 3 + 2, none⟩) hbb).trans y3
          have g3 : (0 : Int) ≤ (m : Int) := by omega
          have g4 : (m : Int) < (batch.length : Int) := by omega
          have hst2 : foldLast z (batch.drop m) = foldLast (if x.k = z.k then x else z) (batch.drop (m + 1)) := by rw [hdr]; rfl
          have HF2 := Lib.hid hst2
          clear hx hdr y1 y2 y3 hbw hst2
          by_cases hk : x.k = z.k
          · have t59 : (x.k.toList == z.k.toList) = true := by rw [beq_iff_eq, hk]
            have HFN : Hid (foldLast x (batch.drop (m + 1)) = foldLast y (batch.drop (n + 1)) ∧ x.k = y.k) := by
              have h1 := HF2.out
              rw [if_pos hk] at h1
              exact ⟨h1.symm.trans hfl.out.1, hk.trans hfl.out.2⟩
            clear hk
            go_wp2_with fail
            go_quiet (fail)
            go_wp2_with fail
            go_roundw
            case rel =>
              refine ⟨m + 1, x, by omega, by go_num, HFN.out, (((hbk.out.drewN _).set_ 0 _).set_ 1 _).set_ 2 _, StS.ent3 (StS.drewN hst'.out _) (hbk.out.drewN _) hgs _ _ _, (((below_drewN' hbl'.out _).setCell (p := ⟨g, 0, none⟩) hgs _).setCell (p := ⟨g, 1, none⟩) hgs _).setCell (p := ⟨g, 2, none⟩) hgs _⟩
            case measure => simp [intOf] <;> omega
          · have t59 : (x.k.toList == z.k.toList) = false := by rw [beq_eq_false_iff_ne]; intro h; exact hk ((toList_inj _ _).1 h)
            have HFN : Hid (foldLast z (batch.drop (m + 1)) = foldLast y (batch.drop (n + 1)) ∧ z.k = y.k) := by
              have h1 := HF2.out
              rw [if_neg hk] at h1
              exact ⟨h1.symm.trans hfl.out.1, hfl.out.2⟩
            clear hk
            go_wp2_with fail
            go_quiet (fail)
            go_wp2_with fail
            go_roundw
            case rel => exact ⟨m + 1, z, by omega, by go_num, HFN.out, hbk.out.drewN _, StS.drewN hst'.out _, below_drewN' hbl'.out _⟩
            case measure => simp [intOf] <;> omega
        · have hz : lastE batch z.k = some z := by
            have h1 := hfl.out.1
            rw [List.drop_eq_nil_of_le (by omega)] at h1
            have h2 : z = foldLast y (batch.drop (n + 1)) := h1
            rw [hfl.out.2, HLY.out, ← h2]
          obtain ⟨k1, k2⟩ := HTL.out z hz (HCF.out.2 z (HLM.out z z.k hz))
          have hzk := (faultE_zero (HCF.out.2 z (HLM.out z z.k hz))).2.2.1
          have hge := get_st hst'.out z.k (by omega)
          rw [HR5.out, k1, k2] at hge
          have HGE := Lib.hid hge
          have t49 : decide ((m : Int) < (batch.length : Int)) = false := decide_eq_false (by omega)
          clear hz k1 k2 hzk hge
          go_wp2_with fail
          refine HGE.out.mono ?_
          rintro e w6 ⟨rfl, hs6, hb6⟩
          have hk6 := hbk.out.below hb6 hbk.out.lt
          have v0 := hk6.cell 0
          have v1 := hk6.cell 1
          have v2 := hk6.cell 2
          simp at v0 v1 v2
          have HS6 := Lib.hid hs6
          have HB6 := Lib.hid (hbl'.out.trans (hb6.mono hbl'.out.size))
          clear hk6 hs6 hb6 HGE z0 z1 z2 z3 z4 z5
          cases hzg : z.g
          all_goals
            rw [hzg] at v2
            simp only [Bool.not_true, Bool.not_false]
            go_wp2_with fail
            go_roundw
            case rel => exact ⟨n + 1, by omega, by go_num, HS6.out, HB6.out⟩
            case measure => simp [intOf] <;> omega
    · have t37 : decide ((n : Int) < (batch.length : Int)) = false := decide_eq_false (by omega)
      go_wp2_with fail
      go_ret
      exact ⟨rfl, HBW.out _ hbl.out⟩

-- CLOSING

set_option maxRecDepth 100000 in
theorem topLast_holds : Rows.TopLastSaid :=
  OpenClaim.holds_of_wide 3 Try.f3 rfl rfl rfl rfl rfl rfl rfl ⟨rfl, rfl, rfl, rfl, rfl⟩ rfl rfl rfl rfl rfl (by kernel_rfl) Try.func3 (by kernel_rfl)
    (of_decide_eq_true (by kernel_rfl)) (by unfold Func.isWrapper; first | (rw [if_pos (by decide +kernel)]; kernel_rfl) | (rw [if_neg (by decide +kernel)]; exact ⟨rfl, rfl⟩))
    (fun os started H enc _ => close_lifted Rows.topLastSpec 3 Try.f3 os started H enc (by kernel_rfl) Try.func3 (by kernel_rfl) rfl
      (fun ds hd => by
        rw [Try.params3] at hd
        match ds, hd with
        | [d1, d2], _ => rfl)
      (by kernel_rfl)
      (ChangeSpec.witness6 (enc := enc) (C := Try.checked) false ⟨#[], #[.slice none 0 0, .slice none 0 0], []⟩ 8 (by kernel_rfl) (by kernel_rfl) (by kernel_rfl) (by kernel_rfl))
      (fun W base args ds p hval hA => by
        rw [Try.params3] at hA hval
        obtain ⟨v0, v1, d0, d1, p0, p1, hargs, rfl, rfl, h0, h1⟩ := trodAll_two hA
        obtain rfl : args = #[v0, v1] := by cases args; simp_all
        obtain ⟨l0, hl0⟩ := acts_of (hval 0 _ v0 rfl rfl) h0
        obtain ⟨l1, hl1⟩ := ents_of (hval 1 _ v1 rfl rfl) h1
        exact topLast_walk v0 v1 l0 l1 W hl0 hl1))
#print axioms topLast_holds
end Go.Proofs.Ytaepdbkfaoiimac
