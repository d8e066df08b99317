/- The contracts of the document's manifest: ManifestFault, ManifestBytes, ManifestOf. Conditions: none but the sizes of any memory. -/
import Derived.Test.YtaepdbkfaoiimaaManP
set_option linter.unusedVariables false
set_option linter.unusedSimpArgs false
namespace Go.Proofs.Ytaepdbkfaoiimaa
open Go.RowKit
attribute [local go_sem] bt_idx bt_wrap bt_extract
theorem chk_hit {seen l : List Int} {b : Int} (h1 : ¬ b < 2) (h2 : ¬ 24 ≤ b) (h3 : inL seen b = true) : chk seen (b :: l) = 3 := by
  unfold inL at h3
  rw [chk, if_neg (by omega), if_pos h3]
theorem inL_no {l : List Int} {k : Nat} {x : Int} (h : ∀ i y, i < k → l[i]? = some y → y ≠ x) : inL (l.take k) x = false := by
  unfold inL
  rw [Bool.eq_false_iff]
  intro hc
  rw [List.contains_iff_mem] at hc
  obtain ⟨i, hi⟩ := List.getElem?_of_mem hc
  rw [List.getElem?_take] at hi
  split at hi
  · rename_i hk
    exact h i x hk hi rfl
  · cases hi
theorem inL_yes {l : List Int} {k j : Nat} {x : Int} (hj : j < k) (h : l[j]? = some x) : inL (l.take k) x = true := by
  unfold inL
  rw [List.contains_iff_mem]
  refine List.mem_of_getElem? (i := j) ?_
  rw [List.getElem?_take, if_pos hj, h]
set_option maxRecDepth 20000 in
set_option maxHeartbeats 8000000 in
theorem rmfault_any (B : Nat) (v : Value) (m : Man) (w : World) (h : ManV B w v m) (h1 : m.nw.length ≤ 1000) (h2 : m.od.length ≤ 1000) :
    Calls Try.prog 64 #[v] w fun e w' => e = .returned (.int .i64 m.fault) ∧ Below w.heap.size w w' := by
  obtain ⟨vn, vo, rfl, hn, ho⟩ := h
  obtain ⟨A1, c1, rfl, k1, k2, kX⟩ := hn.form
  obtain ⟨A2, c2, rfl, k3, k4, kY⟩ := ho.form
  clear kX kY
  have hx : Hid (Blk (w.alloc (.cells #[.int .i64 m.ep, .int .i64 m.log, .slice A1 m.nw.length c1, .slice A2 m.od.length c2] 91)) w.heap.size 91 #[.int .i64 m.ep, .int .i64 m.log, .slice A1 m.nw.length c1, .slice A2 m.od.length c2]) := Blk.new w _ _
  have x0 := hx.out.cell 0
  have x1 := hx.out.cell 1
  have x2 := hx.out.cell 2
  have x3 := hx.out.cell 3
  simp at x0 x1 x2 x3
  have hB0 : Below w.heap.size w (w.alloc (.cells #[.int .i64 m.ep, .int .i64 m.log, .slice A1 m.nw.length c1, .slice A2 m.od.length c2] 91)) := (Below.refl _ _).alloc (Nat.le_refl _) _
  by_cases he : m.ep < 1 ∨ 100000 < m.ep
  · have hf : Hid (m.fault = 1) := if_pos he
    rcases he with he | he
    · go_enter Try.func64, Try.ntmps64
      go_wp2_with fail
      go_ret
      exact ⟨by rw [hf.out]; rfl, hB0⟩
    · have he2 : ¬ m.ep < 1 := by omega
      go_enter Try.func64, Try.ntmps64
      go_wp2_with fail
      go_ret
      exact ⟨by rw [hf.out]; rfl, hB0⟩
  · have hf : Hid (m.fault = chk [] m.all) := if_neg he
    have e1 : ¬ m.ep < 1 := by omega
    have e2 : ¬ 100000 < m.ep := by omega
    clear he
    have HC : Hid (∀ w' : World, Below (w.heap.size + 1) (w.alloc (.cells #[.int .i64 m.ep, .int .i64 m.log, .slice A1 m.nw.length c1, .slice A2 m.od.length c2] 91)) w' → ((w'.cell? ⟨w.heap.size, 1, none⟩ = some (.int .i64 m.log) ∧ w'.cell? ⟨w.heap.size, 2, none⟩ = some (.slice A1 m.nw.length c1) ∧ w'.cell? ⟨w.heap.size, 3, none⟩ = some (.slice A2 m.od.length c2)) ∧ Below (w.heap.size + 1) (w.alloc (.cells #[.int .i64 m.ep, .int .i64 m.log, .slice A1 m.nw.length c1, .slice A2 m.od.length c2] 91)) w')) := fun w' hb =>
      ⟨⟨(hb.cell (p := ⟨w.heap.size, 1, none⟩) (by show w.heap.size < _; omega)).trans (hx.out.cell 1), (hb.cell (p := ⟨w.heap.size, 2, none⟩) (by show w.heap.size < _; omega)).trans (hx.out.cell 2), (hb.cell (p := ⟨w.heap.size, 3, none⟩) (by show w.heap.size < _; omega)).trans (hx.out.cell 3)⟩, hb⟩
    have HB1 : Hid (Below (w.heap.size + 1) (w.alloc (.cells #[.int .i64 m.ep, .int .i64 m.log, .slice A1 m.nw.length c1, .slice A2 m.od.length c2] 91)) (w.alloc (.cells #[.int .i64 m.ep, .int .i64 m.log, .slice A1 m.nw.length c1, .slice A2 m.od.length c2] 91)).drew) := (Below.refl _ _).drew
    have HB2 : Hid (Below (w.heap.size + 1) (w.alloc (.cells #[.int .i64 m.ep, .int .i64 m.log, .slice A1 m.nw.length c1, .slice A2 m.od.length c2] 91)) ((w.alloc (.cells #[.int .i64 m.ep, .int .i64 m.log, .slice A1 m.nw.length c1, .slice A2 m.od.length c2] 91)).alloc (.cells #[.int .i64 m.log] 3)).drew) := ((Below.refl _ _).alloc (by simp) _).drew
    have up : ∀ w', Below (w.heap.size + 1) (w.alloc (.cells #[.int .i64 m.ep, .int .i64 m.log, .slice A1 m.nw.length c1, .slice A2 m.od.length c2] 91)) w' → Below w.heap.size w w' := fun w' hb => hB0.trans (hb.mono (by omega))
    have HN2 : Hid (Ints B ((w.alloc (.cells #[.int .i64 m.ep, .int .i64 m.log, .slice A1 m.nw.length c1, .slice A2 m.od.length c2] 91)).alloc (.cells #[.int .i64 m.log] 3)).drew (.slice A1 m.nw.length c1) m.nw) := hn.below (up _ HB2.out)
    have HO : Hid (∀ w', Below (w.heap.size + 1) (w.alloc (.cells #[.int .i64 m.ep, .int .i64 m.log, .slice A1 m.nw.length c1, .slice A2 m.od.length c2] 91)) w' → Ints B w' (.slice A2 m.od.length c2) m.od) := fun w' hb => ho.below (up _ hb)
    have HQ : Hid (((w.alloc (.cells #[.int .i64 m.ep, .int .i64 m.log, .slice A1 m.nw.length c1, .slice A2 m.od.length c2] 91)).alloc (.cells #[.int .i64 m.log] 3)).drew.ownsRow (w.heap.size + 1) 3 1 (.slice (some ⟨w.heap.size + 1, 0, none⟩) 1 1) 1 [.int .i64 m.log]) := by
      have := (Blk.new (w.alloc (.cells #[.int .i64 m.ep, .int .i64 m.log, .slice A1 m.nw.length c1, .slice A2 m.od.length c2] 91)) 3 #[.int .i64 m.log]).drewN 1
      rw [World.size_alloc] at this
      exact own_one this (Nat.le_refl _)
    have UP := Lib.hid up
    obtain ⟨i0, hi, hz0, hz1, hz2⟩ := info_parts info_int
    have T1 : Hid (1 + m.nw.length ≤ maxLen ∧ (1 + m.nw.length) * 8 ≤ 140737488355328 ∧ w.heap.size + 1 ≤ ((w.alloc (.cells #[.int .i64 m.ep, .int .i64 m.log, .slice A1 m.nw.length c1, .slice A2 m.od.length c2] 91)).alloc (.cells #[.int .i64 m.log] 3)).drew.heap.size) := ⟨by unfold maxLen; omega, by omega, by have := HB2.out.size; rw [World.size_alloc] at this; exact this⟩
    have T2 : Hid (1 + m.nw.length + m.od.length ≤ maxLen ∧ (1 + m.nw.length + m.od.length) * 8 ≤ 140737488355328) := ⟨by unfold maxLen; omega, by omega⟩
    have T3 : Hid (∀ w', Below (w.heap.size + 1) (w.alloc (.cells #[.int .i64 m.ep, .int .i64 m.log, .slice A1 m.nw.length c1, .slice A2 m.od.length c2] 91)) w' → w.heap.size + 1 ≤ w'.heap.size) := fun w' hb => by have := hb.size; rw [World.size_alloc] at this; exact this
    have T4 : Hid (w.heap.size + 1 ≤ (w.alloc (.cells #[.int .i64 m.ep, .int .i64 m.log, .slice A1 m.nw.length c1, .slice A2 m.od.length c2] 91)).heap.size) := by rw [Hid, World.size_alloc]; omega
    clear hn ho up
    go_enter Try.func64, Try.ntmps64
    go_wp2_with fail
    go_region_held3 (fun w' => ((w'.cell? ⟨w.heap.size, 1, none⟩ = some (.int .i64 m.log) ∧ w'.cell? ⟨w.heap.size, 2, none⟩ = some (.slice A1 m.nw.length c1) ∧ w'.cell? ⟨w.heap.size, 3, none⟩ = some (.slice A2 m.od.length c2)) ∧ Below (w.heap.size + 1) (w.alloc (.cells #[.int .i64 m.ep, .int .i64 m.log, .slice A1 m.nw.length c1, .slice A2 m.od.length c2] 91)) w'))
      ((first
        | exact HC.out _ hB6
        | exact HC.out _ hB5
        | exact HC.out _ HB1.out
        | exact HC.out _ HB2.out))
      ((first
        | (refine step_append_rd rfl (.tmp 16) (.tmp 18) 41 rfl (w.heap.size + 1) 3 i0 (.int .i64 0) 1 8 Try.underlying41 hi hz0 hz1 hz2 rfl (by decide) (.slice (some ⟨w.heap.size + 1, 0, none⟩) 1 1) 1 [.int .i64 m.log] rfl HQ.out B 3 (.slice A1 m.nw.length c1) m.nw.length (m.nw.map (.int .i64)) rfl HN2.out ints_one T1.out.1 T1.out.2.1 T1.out.2.2 ?_; intro v4 w4 hown4 hg4 hat4; have hB5 : Below (w.heap.size + 1) (w.alloc (.cells #[.int .i64 m.ep, .int .i64 m.log, .slice A1 m.nw.length c1, .slice A2 m.od.length c2] 91)) w4 := below_own HB2.out T4.out HQ.out hg4; obtain ⟨A4, c4, rfl⟩ := rd_form' (Rd.of_own (B := 0) hown4))
        | (refine step_append_rd rfl (.tmp 19) (.tmp 21) 41 rfl (w.heap.size + 1) 3 i0 (.int .i64 0) 1 8 Try.underlying41 hi hz0 hz1 hz2 rfl (by decide) (.slice A4 (1 + m.nw.length) c4) (1 + m.nw.length) ([.int .i64 m.log] ++ m.nw.map (.int .i64)) rfl hown4 B 3 (.slice A2 m.od.length c2) m.od.length (m.od.map (.int .i64)) rfl (HO.out _ hB5) ints_one T2.out.1 T2.out.2 (T3.out _ hB5) ?_; intro v5 w5 hown5 hg5 hat5; have hB6 : Below (w.heap.size + 1) (w.alloc (.cells #[.int .i64 m.ep, .int .i64 m.log, .slice A1 m.nw.length c1, .slice A2 m.od.length c2] 91)) w5 := below_own hB5 T4.out hown4 hg5)))
    have HI : Hid (Ints w.heap.size w5 v5 m.all) := by
      have := Rd.of_own (B := w.heap.size) hown5
      have e : (1 + m.nw.length + m.od.length) = m.all.length := by simp [Man.all]; omega
      rw [e] at this
      have e2 : [Value.int .i64 m.log] ++ m.nw.map (.int .i64) ++ m.od.map (.int .i64) = m.all.map (.int .i64) := by simp [Man.all]
      rw [e2] at this
      exact this
    have HBL : Hid (Below w.heap.size w w5) := UP.out _ hB6
    obtain ⟨A5, c5, rfl, q1, q2, hcell⟩ := HI.out.form
    have hlen : m.all.length ≤ 2001 := by simp [Man.all]; omega
    clear hcell hown4 hown5 hg4 hg5 hat4 hat5 hB5 hB6 T1 T2 T3 T4 HC HB1 HB2 HN2 HO HQ UP hi hz0 hz1 hz2 hx x0 x1 x2 x3 hB0 e1 e2
    generalize m.all = l at *
    go_wp2_with fail
    go_loopw [4] (fun i wr => ∃ k : Nat, k ≤ l.length ∧ i = .int .i64 k ∧ Hid (m.fault = chk (l.take k) (l.drop k)) ∧ Hid (Ints w.heap.size wr (.slice A5 l.length c5) l) ∧ Hid (Below w.heap.size w wr)) (fun i _ => l.length - (intOf i).toNat)
    case atStart => exact ⟨0, Nat.zero_le _, rfl, hf, HI.out, HBL.out⟩
    case round =>
      obtain ⟨k, hk, rfl, hch, hi, hbl⟩ := hrel
      by_cases hlt : k < l.length
      · obtain ⟨x, hx, htk, hdr⟩ := getElem?_of_lt hlt
        obtain ⟨_, _, e5, _, _, hcell⟩ := hi.out.form
        cases e5
        obtain ⟨b, o, rfl, hb, hc1⟩ := hcell k x hx
        have HCE := Lib.hid hcell
        have g1 : (0 : Int) ≤ (k : Int) := by omega
        have g2 : (k : Int) < (l.length : Int) := by omega
        rw [hdr] at hch
        have HT := Lib.hid htk
        have HX := Lib.hid hx
        clear hx htk hdr hcell
        by_cases b1 : x < 2
        · have HF : Hid (m.fault = 1) := by rw [Hid, hch.out, chk, if_pos (.inl b1)]
          go_wp2_with fail
          go_ret
          exact ⟨by rw [HF.out]; rfl, hbl.out⟩
        · by_cases b2 : 24 ≤ x
          · have HF : Hid (m.fault = 1) := by rw [Hid, hch.out, chk, if_pos (.inr b2)]
            have b3 : 23 < x := by omega
            clear b2
            go_wp2_with fail
            go_ret
            exact ⟨by rw [HF.out]; rfl, hbl.out⟩
          · have b3 : ¬ 23 < x := by omega
            have HB12 : Hid (2 ≤ x ∧ x < 24) := ⟨by omega, by omega⟩
            clear b2
            obtain ⟨wo, hwo⟩ : ∃ wo : World, wo = wr := ⟨_, rfl⟩
            go_wp2_with fail
            go_loopw [5] (fun i wr => ∃ j : Nat, j ≤ k ∧ i = .int .i64 j ∧ Hid (∀ i y, i < j → l[i]? = some y → y ≠ x) ∧ Hid (Ints w.heap.size wr (.slice (some ⟨b, o, none⟩) l.length c5) l) ∧ Hid (Below w.heap.size w wr)) (fun i _ => k - (intOf i).toNat)
            case atStart => exact ⟨0, Nat.zero_le _, rfl, fun i y h => absurd h (by omega), hi.out, hbl.out⟩
            case round =>
              obtain ⟨j, hj, rfl, hno, hi', hbl'⟩ := hrel
              by_cases hjk : j < k
              · have hjl : j < l.length := by omega
                obtain ⟨y, hy, _, _⟩ := getElem?_of_lt hjl
                obtain ⟨_, _, e5, _, _, hcell'⟩ := hi'.out.form
                cases e5
                obtain ⟨b', o', e6, hb', d1⟩ := hcell' j y hy
                cases e6
                obtain ⟨b', o', e6, hb', d2⟩ := hcell' k x HX.out
                cases e6
                have g3 : (0 : Int) ≤ (j : Int) := by omega
                have g4 : (j : Int) < (l.length : Int) := by omega
                have t43 : decide ((j : Int) < (k : Int)) = true := decide_eq_true (by omega)
                have HY := Lib.hid hy
                clear hcell' hy
                by_cases hyx : y = x
                · have HF : Hid (m.fault = 3) := by rw [Hid, hch.out]; exact chk_hit (by have := HB12.out; omega) (by have := HB12.out; omega) (inL_yes hjk (hyx ▸ HY.out))
                  have t54 : (y == x) = true := by rw [beq_iff_eq]; exact hyx
                  clear hyx
                  go_wp2_with fail
                  go_quiet (fail)
                  go_wp2_with fail
                  go_ret
                  exact ⟨by rw [HF.out]; rfl, below_drewN' hbl'.out _⟩
                · have t54 : (y == x) = false := by rw [beq_eq_false_iff_ne]; exact hyx
                  have HN : Hid (∀ i z, i < j + 1 → l[i]? = some z → z ≠ x) := by
                    intro i z hi hz
                    by_cases e : i = j
                    · subst e; rw [HY.out] at hz; cases hz; exact hyx
                    · exact hno.out i z (by omega) hz
                  clear hyx
                  go_wp2_with fail
                  go_quiet (fail)
                  go_wp2_with fail
                  go_roundw
                  case rel => exact ⟨j + 1, by omega, by go_num, HN.out, hi'.out.drewN _, below_drewN' hbl'.out _⟩
                  case measure => simp [intOf] <;> omega
              · obtain rfl : j = k := by omega
                have HN : Hid (m.fault = chk (l.take (j + 1)) (l.drop (j + 1))) := by
                  rw [Hid, hch.out, HT.out]; exact chk_step (by have := HB12.out; omega) (by have := HB12.out; omega) (inL_no hno.out)
                have t43 : decide ((j : Int) < (j : Int)) = false := by simp
                go_wp2_with fail
                go_roundw
                case rel => exact ⟨j + 1, by omega, by go_num, HN.out, hi'.out, hbl'.out⟩
                case measure => simp [intOf] <;> omega
      · have HF : Hid (m.fault = 0) := by rw [Hid, hch.out, List.drop_eq_nil_of_le (by omega)]; rfl
        go_wp2_with fail
        go_ret
        exact ⟨by rw [HF.out]; rfl, hbl.out⟩
theorem son_append (a b : List Int) : strOfNums a ++ strOfNums b = strOfNums (a ++ b) := by
  apply ByteArray.ext
  apply Array.ext'
  rw [ByteArray.data_append, Array.toList_append, strOfNums_data, strOfNums_data, strOfNums_data, List.map_append]
theorem son_77 (l : List Int) : (⟨#[77]⟩ : ByteArray) ++ strOfNums l = strOfNums (77 :: l) := by
  rw [show (⟨#[77]⟩ : ByteArray) = strOfNums [77] from rfl, son_append]; rfl
theorem conv6 (w : World) (g : Nat) (x1 x2 x3 x4 x5 x6 : Int) (hg : g = w.heap.size) : (convert 139 9 (.slice (some ⟨g, 0, none⟩) 6 6)).run Try.prog (w.alloc (.cells #[.int .u8 x1, .int .u8 x2, .int .u8 x3, .int .u8 x4, .int .u8 x5, .int .u8 x6] 5)) = .ok (.string (strOfNums [x1, x2, x3, x4, x5, x6])) (w.alloc (.cells #[.int .u8 x1, .int .u8 x2, .int .u8 x3, .int .u8 x4, .int .u8 x5, .int .u8 x6] 5)) := by
  subst hg
  refine run_convert_bytes_arg _ _ _ Try.underlying139 Try.underlying5 _ _ _ _ [x1, x2, x3, x4, x5, x6] rfl (fun i hi => ?_) _ Try.underlying9
  match i, hi with
  | 0, _ => simp
  | 1, _ => simp
  | 2, _ => simp
  | 3, _ => simp
  | 4, _ => simp
  | 5, _ => simp
attribute [local go_sem] conv1 conv6
set_option maxRecDepth 20000 in
set_option maxHeartbeats 8000000 in
theorem rmbytes_any (B : Nat) (v : Value) (m : Man) (w : World) (h : ManV B w v m) (h1 : m.nw.length ≤ 1000) (h2 : m.od.length ≤ 1000) :
    Calls Try.prog 60 #[v] w fun e w' => e = .returned (.tuple #[.string (mbytesS m), .int .i64 m.fault]) ∧ Below w.heap.size w w' := by
  have hc := rmfault_any B v m (w.alloc (.cells v.cells 91)) (h.below ((Below.refl _ _).alloc (Nat.le_refl _) _)) h1 h2
  obtain ⟨vn, vo, rfl, hn, ho⟩ := h
  obtain ⟨A1, c1, rfl, k1, k2, kX⟩ := hn.form
  obtain ⟨A2, c2, rfl, k3, k4, kY⟩ := ho.form
  have HN := Lib.hid kX
  have HO := Lib.hid kY
  have HCK : Hid (Calls Try.prog 64 #[.agg #[.int .i64 m.ep, .int .i64 m.log, .slice A1 m.nw.length c1, .slice A2 m.od.length c2]] (w.alloc (.cells #[.int .i64 m.ep, .int .i64 m.log, .slice A1 m.nw.length c1, .slice A2 m.od.length c2] 91)) _) := hc
  clear hn ho hc kX kY
  have hx : Hid (Blk (w.alloc (.cells #[.int .i64 m.ep, .int .i64 m.log, .slice A1 m.nw.length c1, .slice A2 m.od.length c2] 91)) w.heap.size 91 #[.int .i64 m.ep, .int .i64 m.log, .slice A1 m.nw.length c1, .slice A2 m.od.length c2]) := Blk.new w _ _
  have x0 := hx.out.cell 0
  have x1 := hx.out.cell 1
  have x2 := hx.out.cell 2
  have x3 := hx.out.cell 3
  simp at x0 x1 x2 x3
  by_cases hf : m.fault = 0
  · have HF := Lib.hid hf
    rw [hf] at HCK
    obtain ⟨z1, z2, z3, z4⟩ := fault_zero.1 hf
    have HZ3 := Lib.hid z3
    have HZ4 := Lib.hid z4
    clear hf z3 z4
    have a1 : m.ep.tmod 256 = m.ep % 256 := Int.tmod_eq_emod_of_nonneg (by omega)
    have a2 : m.ep.tdiv 256 = m.ep / 256 := Int.tdiv_eq_ediv_of_nonneg (by omega)
    have a3 : (m.ep / 256).tmod 256 = m.ep / 256 % 256 := Int.tmod_eq_emod_of_nonneg (by omega)
    have a4 : m.ep.tdiv 65536 = m.ep / 65536 := Int.tdiv_eq_ediv_of_nonneg (by omega)
    go_enter Try.func60, Try.ntmps60
    go_wp2_with fail
    refine HCK.out.mono ?_
    rintro e w1 ⟨rfl, hb1⟩
    have hx1 := hx.out.below hb1 (by simp)
    have y0 := hx1.cell 0
    have y1 := hx1.cell 1
    have y2 := hx1.cell 2
    have y3 := hx1.cell 3
    simp at y0 y1 y2 y3
    have HX1 := Lib.hid hx1
    have HB1 : Hid (Below w.heap.size w w1) := ((Below.refl _ _).alloc (Nat.le_refl _) _).trans (hb1.mono (by simp))
    clear hx1 hb1 HCK x0 x1 x2 x3
    go_wp2_with fail
    clear y0 y1 y2 y3
    have HD : Hid (∀ wx, Below w.heap.size w wx → Blk wx w.heap.size 91 #[.int .i64 m.ep, .int .i64 m.log, .slice A1 m.nw.length c1, .slice A2 m.od.length c2] → (wx.cell? ⟨w.heap.size, 2, none⟩ = some (.slice A1 m.nw.length c1) ∧ wx.cell? ⟨w.heap.size, 3, none⟩ = some (.slice A2 m.od.length c2))) := by
      intro wx _ hb
      have y2 := hb.cell 2
      have y3 := hb.cell 3
      simp at y2 y3
      exact ⟨y2, y3⟩
    have HE : Hid (∀ (g : Nat) (x : Int) (wx : World) (l : List Int), Below w.heap.size w wx → wx.heap.size ≤ g → True) := fun _ _ _ _ _ _ => trivial
    clear HE
    go_loopw [5, 6] (fun u i wr => ∃ k : Nat, k ≤ m.nw.length ∧ i = .int .i64 k ∧ u = .string (strOfNums ([77, m.ep % 256, m.ep / 256 % 256, m.ep / 65536, m.log % 256, (m.nw.length : Int) % 256, (m.od.length : Int) % 256] ++ (m.nw.take k).map (· % 256))) ∧ Hid (Blk wr w.heap.size 91 #[.int .i64 m.ep, .int .i64 m.log, .slice A1 m.nw.length c1, .slice A2 m.od.length c2]) ∧ Hid (Below w.heap.size w wr)) (fun _ i _ => m.nw.length - (intOf i).toNat)
    case atStart => exact ⟨0, Nat.zero_le _, rfl, by rw [son_77]; simp, HX1.out.alloc _, HB1.out.alloc HB1.out.size _⟩
    case round =>
      obtain ⟨k, hk, rfl, rfl, hxr, hbl⟩ := hrel
      obtain ⟨y2, y3⟩ := HD.out wr hbl.out hxr.out
      have hsz := strOfNums_size ([77, m.ep % 256, m.ep / 256 % 256, m.ep / 65536, m.log % 256, (m.nw.length : Int) % 256, (m.od.length : Int) % 256] ++ (m.nw.take k).map (· % 256))
      have hsz2 : (strOfNums ([77, m.ep % 256, m.ep / 256 % 256, m.ep / 65536, m.log % 256, (m.nw.length : Int) % 256, (m.od.length : Int) % 256] ++ (m.nw.take k).map (· % 256))).size ≤ 2000 := by rw [hsz]; simp; omega
      have HAP := Lib.hid (son_append ([77, m.ep % 256, m.ep / 256 % 256, m.ep / 65536, m.log % 256, (m.nw.length : Int) % 256, (m.od.length : Int) % 256] ++ (m.nw.take k).map (· % 256)))
      by_cases hlt : k < m.nw.length
      · obtain ⟨x, hx, htk, hdr⟩ := getElem?_of_lt hlt
        obtain ⟨b, o, rfl, hb, hc1⟩ := HN.out k x hx
        have d1 := (hbl.out.cell (p := ⟨b, o + k, none⟩) hb).trans hc1
        have g1 : (0 : Int) ≤ (k : Int) := by omega
        have g2 : (k : Int) < (m.nw.length : Int) := by omega
        have hs1 : (strOfNums [x % 256]).size = 1 := strOfNums_size _
        have HT := Lib.hid htk
        clear hx htk hdr hc1 hsz
        generalize hU : strOfNums ([77, m.ep % 256, m.ep / 256 % 256, m.ep / 65536, m.log % 256, (m.nw.length : Int) % 256, (m.od.length : Int) % 256] ++ (m.nw.take k).map (· % 256)) = U at *
        have HU := Lib.hid hU
        clear hU
        go_wp2_with fail
        go_roundw
        case rel =>
          refine ⟨k + 1, by omega, by go_num, ?_, hxr.out.alloc _, hbl.out.alloc hbl.out.size _⟩
          rw [HAP.out, HT.out]; simp
        case measure => simp [intOf] <;> omega
      · have e : m.nw.take k = m.nw := List.take_of_length_le (by omega)
        rw [e] at hsz2 ⊢
        clear HAP hsz e
        have t44 : decide ((k : Int) < (m.nw.length : Int)) = false := decide_eq_false (by omega)
        go_wp2_with fail
        go_loopw [5, 7] (fun u i wr => ∃ k : Nat, k ≤ m.od.length ∧ i = .int .i64 k ∧ u = .string (strOfNums ([77, m.ep % 256, m.ep / 256 % 256, m.ep / 65536, m.log % 256, (m.nw.length : Int) % 256, (m.od.length : Int) % 256] ++ (m.nw ++ m.od.take k).map (· % 256))) ∧ Hid (Blk wr w.heap.size 91 #[.int .i64 m.ep, .int .i64 m.log, .slice A1 m.nw.length c1, .slice A2 m.od.length c2]) ∧ Hid (Below w.heap.size w wr)) (fun _ i _ => m.od.length - (intOf i).toNat)
        case atStart => exact ⟨0, Nat.zero_le _, rfl, by simp, hxr.out, hbl.out⟩
        case round =>
          obtain ⟨k', hk', rfl, rfl, hxr', hbl'⟩ := hrel
          obtain ⟨y2, y3⟩ := HD.out wr hbl'.out hxr'.out
          have hsz := strOfNums_size ([77, m.ep % 256, m.ep / 256 % 256, m.ep / 65536, m.log % 256, (m.nw.length : Int) % 256, (m.od.length : Int) % 256] ++ (m.nw ++ m.od.take k').map (· % 256))
          have hsz3 : (strOfNums ([77, m.ep % 256, m.ep / 256 % 256, m.ep / 65536, m.log % 256, (m.nw.length : Int) % 256, (m.od.length : Int) % 256] ++ (m.nw ++ m.od.take k').map (· % 256))).size ≤ 3000 := by rw [hsz]; simp; omega
          have HAP := Lib.hid (son_append ([77, m.ep % 256, m.ep / 256 % 256, m.ep / 65536, m.log % 256, (m.nw.length : Int) % 256, (m.od.length : Int) % 256] ++ (m.nw ++ m.od.take k').map (· % 256)))
          by_cases hlt' : k' < m.od.length
          · obtain ⟨x, hx, htk, hdr⟩ := getElem?_of_lt hlt'
            obtain ⟨b, o, rfl, hb, hc1⟩ := HO.out k' x hx
            have d1 := (hbl'.out.cell (p := ⟨b, o + k', none⟩) hb).trans hc1
            have g1 : (0 : Int) ≤ (k' : Int) := by omega
            have g2 : (k' : Int) < (m.od.length : Int) := by omega
            have hs1 : (strOfNums [x % 256]).size = 1 := strOfNums_size _
            have HT := Lib.hid htk
            clear hx htk hdr hc1 hsz hsz2 t44
            generalize hU : strOfNums ([77, m.ep % 256, m.ep / 256 % 256, m.ep / 65536, m.log % 256, (m.nw.length : Int) % 256, (m.od.length : Int) % 256] ++ (m.nw ++ m.od.take k').map (· % 256)) = U at *
            have HU := Lib.hid hU
            clear hU
            go_wp2_with fail
            go_roundw
            case rel =>
              refine ⟨k' + 1, by omega, by go_num, ?_, hxr'.out.alloc _, hbl'.out.alloc hbl'.out.size _⟩
              rw [HAP.out, HT.out]; simp
            case measure => simp [intOf] <;> omega
          · have e : m.od.take k' = m.od := List.take_of_length_le (by omega)
            rw [e] at hsz3 ⊢
            have HBY : Hid (m.bytes = strOfNums ([77, m.ep % 256, m.ep / 256 % 256, m.ep / 65536, m.log % 256, (m.nw.length : Int) % 256, (m.od.length : Int) % 256] ++ (m.nw ++ m.od).map (· % 256))) := rfl
            clear HAP hsz e hsz2 t44
            have t61 : decide ((k' : Int) < (m.od.length : Int)) = false := decide_eq_false (by omega)
            rw [← HBY.out] at hsz3 ⊢
            go_wp2_with fail
            exact bodyPost_ret (v := .tuple #[.string m.bytes, .int .i64 0]) (by simp [results, Try.results60, go_sem] <;> rfl) rfl ⟨by rw [mbytesS, HF.out]; rfl, hbl'.out⟩
  · have HS : Hid (mbytesS m = ByteArray.empty) := if_neg hf
    have hpos : 0 < m.fault := by omega
    have t11 : decide ((0 : Int) < (m.fault : Int)) = true := decide_eq_true (by omega)
    clear hf
    go_enter Try.func60, Try.ntmps60
    go_wp2_with fail
    refine HCK.out.mono ?_
    rintro e w1 ⟨rfl, hb1⟩
    have HB1 : Hid (Below w.heap.size w w1) := ((Below.refl _ _).alloc (Nat.le_refl _) _).trans (hb1.mono (by simp))
    clear hb1 HCK
    go_wp2_with fail
    exact bodyPost_ret (v := .tuple #[.string ByteArray.empty, .int .i64 m.fault]) (by simp [results, Try.results60, go_sem] <;> rfl) rfl ⟨by rw [HS.out], HB1.out⟩
end Go.Proofs.Ytaepdbkfaoiimaa
