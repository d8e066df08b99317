/- The contracts of the reference's lists of entries: Put, Get, Live, Merged. Conditions: lists of at most a million entries. -/
import Derived.Test.YtaepdbkfaoiimaaMerge
import Derived.Test.YtaepdbkfaoiimaaSame
set_option linter.unusedVariables false
set_option linter.unusedSimpArgs false
namespace Go.Proofs.Ytaepdbkfaoiimaa
open Go.RowKit

set_option maxHeartbeats 1000000 in
theorem rlive_any (B : Nat) (v : Value) (l : List Ent) (w : World) (h : Ents B w v l) (hn : l.length ≤ 1000000) :
    Calls Try.prog 23 #[v] w fun e w' => ∃ u, e = .returned u ∧ Ents B w' u (liveE l) ∧ Below w.heap.size w w' := by
  obtain ⟨A, c, rfl, hc, hc2, hcell⟩ := h.form
  have HC := Lib.hid hcell
  have HO : Hid (∀ e ∈ l, EntOk e) := h.2
  clear hcell h
  go_enter Try.func23, Try.ntmps23
  go_wp2_with fail
  go_loopw [3, 4] (fun u i wr => ∃ k m : Nat, k ≤ l.length ∧ i = .int .i64 k ∧ m ≤ k ∧ ∃ zs : List Ent, Hid (zs = liveE (l.take k)) ∧ Hid (zs.length = m) ∧ Hid (wr.ownsRow w.heap.size 35 3 u zs.length (zs.flatMap Ent.cells)) ∧ Below w.heap.size w wr) (fun _ i _ => l.length - (intOf i).toNat)
  case atStart => exact ⟨0, 0, Nat.zero_le _, rfl, Nat.le_refl _, [], rfl, rfl, World.ownsRow_nil _ _ _ _, Below.refl _ _⟩
  case round =>
    obtain ⟨k, m, hk, rfl, hmk, zs, hz, hzl, hown, hbl⟩ := hrel
    by_cases hlt : k < l.length
    · obtain ⟨x, hx, htk, _⟩ := getElem?_of_lt hlt
      obtain ⟨b, o, rfl, hb, c1, c2, c3⟩ := HC.out k x hx
      have d1 := (hbl.cell (p := ⟨b, o + k * 3, none⟩) hb).trans c1
      have d2 := (hbl.cell (p := ⟨b, o + k * 3 + 1, none⟩) hb).trans c2
      have d3 := (hbl.cell (p := ⟨b, o + k * 3 + 2, none⟩) hb).trans c3
      have HT := Lib.hid htk
      have hbs := hbl.size
      clear htk hx c1 c2 c3
      cases hg : x.g
      · obtain ⟨i0, hi, hz0, hz1, hz2⟩ := info_parts info_entry
        rw [hg] at d3
        have hzm : zs.length ≤ 1000000 := by have := hzl.out; omega
        have hb0 := Lib.hid (hbl.alloc hbs (.cells #[.string x.k, .string x.v, .bool false] 35))
        have hownA1 := Lib.hid (own_alloc hown.out (.cells #[.string x.k, .string x.v, .bool false] 35))
        go_wp2_with (at_builtin; go_loud (refine wpList_append_rd _ rfl (.tmp 17) (.tmp 22) 32 rfl (w.heap.size) 35 i0 _ 3 40 Try.underlying32 hi hz0 hz1 hz2 rfl (by decide) u3 _ _ rfl hownA1.out B 35 _ 1 _ rfl (rd_lit3 _ _ _ (by simp) _ _ _) (ent_one3 _ _ _) (by unfold maxLen; omega) (by omega) (by simp; omega) ?_); intro v1 w1 hown1 hg1 hat1)
        have hb1 := below_own hb0.out (Nat.le_refl _) hownA1.out hg1
        have hown2 : Hid (w1.ownsRow w.heap.size 35 3 v1 (zs ++ [x]).length ((zs ++ [x]).flatMap Ent.cells)) := by
          rw [Hid]; simpa [Ent.cells, hg] using hown1
        have hm2 : Hid (zs ++ [x] = liveE (l.take (k + 1))) := by
          rw [Hid, HT.out, liveE_snoc, hg, hz.out]; simp
        clear hi hz0 hz1 hz2 hg1 hat1 hown1
        go_roundw
        case rel => exact ⟨k + 1, m + 1, by omega, by go_num, by omega, zs ++ [x], hm2, by rw [Hid, List.length_append, hzl.out]; rfl, hown2, hb1⟩
        case measure => simp [intOf] <;> omega
      · rw [hg] at d3
        go_wp2_with fail
        go_roundw
        case rel => exact ⟨k + 1, m, by omega, by go_num, by omega, zs, by rw [Hid, HT.out, liveE_snoc, hg]; exact hz.out, hzl, hown, hbl⟩
        case measure => simp [intOf] <;> omega
    · have hge : l.length ≤ k := by omega
      go_wp2_with fail
      go_ret
      have e : l.take k = l := List.take_of_length_le hge
      have hz' := hz.out
      rw [e] at hz'
      subst hz'
      exact ⟨_, rfl, ⟨Rd.of_own hown.out, fun e he => HO.out e (List.mem_filter.1 he).1⟩, hbl⟩

set_option maxHeartbeats 1000000 in
theorem rget_any (B : Nat) (v : Value) (l : List Ent) (key : ByteArray) (w : World) (h : Ents B w v l) :
    Calls Try.prog 30 #[v, .string key] w fun e w' => e = .returned (.tuple #[((getE l key).getD Ent.zero).val, .bool (getE l key).isSome]) ∧ Below w.heap.size w w' := by
  obtain ⟨A, c, rfl, hc, hc2, hcell⟩ := h.form
  have HC := Lib.hid hcell
  clear hcell h
  go_enter Try.func30, Try.ntmps30
  go_wp2_with fail
  go_loop [6] (fun i => ∃ k : Nat, k ≤ l.length ∧ i = .int .i64 k ∧ Hid (getE (l.take k) key = none)) (fun i => l.length - (intOf i).toNat)
  case atStart => exact ⟨0, Nat.zero_le _, rfl, rfl⟩
  case round =>
    obtain ⟨k, hk, rfl, hz⟩ := hrel
    have hbl : Below w.heap.size w (w.alloc (.cells #[.string { data := #[] }, .string { data := #[] }, .bool false] 35)) := (Below.refl _ _).alloc (Nat.le_refl _) _
    by_cases hlt : k < l.length
    · obtain ⟨x, hx, htk, hdk⟩ := getElem?_of_lt hlt
      obtain ⟨b, o, rfl, hb, c1, c2, c3⟩ := HC.out k x hx
      have d1 := (hbl.cell (p := ⟨b, o + k * 3, none⟩) hb).trans c1
      have d2 := (hbl.cell (p := ⟨b, o + k * 3 + 1, none⟩) hb).trans c2
      have d3 := (hbl.cell (p := ⟨b, o + k * 3 + 2, none⟩) hb).trans c3
      have HT := Lib.hid htk
      have HD := Lib.hid hdk
      clear htk hx hdk c1 c2 c3
      by_cases hkey : x.k = key
      · have ht : (x.k.toList == key.toList) = true := by rw [hkey]; simp
        have hf : Hid (getE l key = some x) := by
          have e : l = l.take k ++ x :: l.drop (k + 1) := by rw [← HD.out, List.take_append_drop]
          have h1 := hz.out
          unfold getE at h1
          rw [Hid, getE, e, List.find?_append, h1]
          simp [hkey]
        clear hkey
        go_wp2_with fail
        refine bodyPost_ret (v := .tuple #[x.val, .bool true]) (by simp [results, Try.results30, go_sem, Ent.val]) rfl ⟨by rw [hf.out]; rfl, ?_⟩
        exact (Below.refl _ _).alloc (Nat.le_refl _) _
      · have ht : (x.k.toList == key.toList) = false := by rw [ba_beq]; simp [hkey]
        have hf : Hid (getE (l.take (k + 1)) key = none) := by
          have h1 := hz.out
          unfold getE at h1
          rw [Hid, HT.out, getE, List.find?_append, h1]
          simp [hkey]
        clear hkey
        go_wp2_with fail
        go_round
        case rel => exact ⟨k + 1, by omega, by go_num, hf⟩
        case measure => simp [intOf] <;> omega
    · have hge : l.length ≤ k := by omega
      have hf : Hid (getE l key = none) := by
        have h1 := hz.out
        rw [List.take_of_length_le hge] at h1
        exact h1
      go_wp2_with fail
      refine bodyPost_ret (v := .tuple #[Ent.zero.val, .bool false]) (by simp [results, Try.results30, go_sem, Ent.val, Ent.zero]; rfl) rfl ⟨by rw [hf.out]; rfl, ?_⟩
      exact (Below.refl _ _).alloc (Nat.le_refl _) _

set_option maxHeartbeats 4000000 in
theorem rput_own (B : Nat) (v : Value) (l : List Ent) (e : Ent) (w : World) (h : Ents B w v l) (hn : l.length ≤ 1000000) :
    Calls Try.prog 28 #[v, .agg #[.string e.k, .string e.v, .bool e.g]] w fun d w' => ∃ u, d = .returned u ∧ w'.ownsRow (w.heap.size + 1) 35 3 u (putE l e).length ((putE l e).flatMap Ent.cells) ∧ Below w.heap.size w w' := by
  obtain ⟨A, c, rfl, hc, hc2, hcell⟩ := h.form
  have HC := Lib.hid hcell
  clear hcell h
  have HW : Hid (Below w.heap.size w (w.alloc (.cells #[.string e.k, .string e.v, .bool e.g] 35))) := (Below.refl _ _).alloc (Nat.le_refl _) _
  have HB : Hid (Blk (w.alloc (.cells #[.string e.k, .string e.v, .bool e.g] 35)) w.heap.size 35 #[.string e.k, .string e.v, .bool e.g]) := Blk.new _ _ _
  go_enter Try.func28, Try.ntmps28
  go_wp2_with fail
  go_loopw [5, 6, 7] (fun u ld i wr => ∃ (k : Nat) (zs : List Ent) (d : Bool), k ≤ l.length ∧ i = .int .i64 k ∧ ld = .bool d ∧ Hid ((zs, d) = (l.take k).foldl (putStep e) ([], false)) ∧ Hid (wr.ownsRow (w.heap.size + 1) 35 3 u zs.length (zs.flatMap Ent.cells)) ∧ Below (w.heap.size + 1) (w.alloc (.cells #[.string e.k, .string e.v, .bool e.g] 35)) wr) (fun _ _ i _ => l.length - (intOf i).toNat)
  case atStart => exact ⟨0, [], false, Nat.zero_le _, rfl, rfl, rfl, World.ownsRow_nil _ _ _ _, Below.refl _ _⟩
  case round =>
    obtain ⟨k, zs, d, hk, rfl, rfl, hz, hown, hbl⟩ := hrel
    have hzl : zs.length ≤ 1000001 := by
      have h1 := putFold_len e (l.take k)
      rw [← hz.out] at h1
      have h2 : (l.take k).length ≤ l.length := List.length_take_le' _ _
      have h3 : (if d = true then 1 else 0) ≤ 1 := by split <;> omega
      simp only at h1
      omega
    have hbs : w.heap.size + 1 ≤ wr.heap.size := by have := hbl.size; simpa using this
    have hblk := HB.out.below hbl (by omega)
    have b1 : wr.cell? ⟨w.heap.size, 0, none⟩ = some (.string e.k) := hblk.cell 0
    have b2 : wr.cell? ⟨w.heap.size, 1, none⟩ = some (.string e.v) := hblk.cell 1
    have b3 : wr.cell? ⟨w.heap.size, 2, none⟩ = some (.bool e.g) := hblk.cell 2
    clear hblk
    have hbw := HW.out.trans (hbl.mono (show w.heap.size ≤ w.heap.size + 1 by omega))
    have HBW := Lib.hid hbw
    by_cases hlt : k < l.length
    · obtain ⟨x, hx, htk, _⟩ := getElem?_of_lt hlt
      obtain ⟨b, o, rfl, hb, c1, c2, c3⟩ := HC.out k x hx
      have d1 := (hbw.cell (p := ⟨b, o + k * 3, none⟩) hb).trans c1
      have d2 := (hbw.cell (p := ⟨b, o + k * 3 + 1, none⟩) hb).trans c2
      have d3 := (hbw.cell (p := ⟨b, o + k * 3 + 2, none⟩) hb).trans c3
      have hst : Hid ((l.take (k + 1)).foldl (putStep e) ([], false) = putStep e (zs, d) x) := by
        rw [Hid, htk, List.foldl_append, ← hz.out]; rfl
      have C1 := Lib.hid c1
      have C2 := Lib.hid c2
      have C3 := Lib.hid c3
      clear htk hx c1 c2 c3 hbw
      have g1 : (0 : Int) ≤ (k : Int) := by omega
      have g2 : (k : Int) < (l.length : Int) := by omega
      by_cases hkk : x.k = e.k
      · have t2 : (e.k.toList == x.k.toList) = true := by rw [hkk]; simp
        have t3 : (x.k.toList == e.k.toList) = true := by rw [hkk]; simp
        have hle : leB e.k x.k = true := by rw [leB, t2, Bool.or_true]
        have HK := Lib.hid hkk
        clear hkk
        cases d
        · have hst2 : Hid ((zs ++ [e], true) = (l.take (k + 1)).foldl (putStep e) ([], false)) := by
            rw [Hid, hst.out, putStep, if_pos HK.out, hle]; rfl
          clear hle
          go_wp2_with fail
          go_quiet (fail)
          revert nq; intro n1
          obtain ⟨i0, hi, hz0, hz1, hz2⟩ := info_parts info_entry
          have hownA1 := Lib.hid (own_alloc (own_drewN hown.out n1) (.cells #[.string e.k, .string e.v, .bool e.g] 35))
          go_wp2_with (at_builtin; go_loud (refine wpList_append_rd _ rfl (.tmp 26) (.tmp 28) 32 rfl (w.heap.size + 1) 35 i0 _ 3 40 Try.underlying32 hi hz0 hz1 hz2 rfl (by decide) u5 _ _ rfl hownA1.out B 35 _ 1 _ rfl (rd_lit3 _ _ _ (by simp) _ _ _) (ent_one3 _ _ _) (by unfold maxLen; omega) (by omega) (by simp; omega) ?_); intro v1 w1 hown1 hg1 hat1)
          clear hi hz0 hz1 hz2
          have hb1 := below_own ((below_drewN' hbl n1).alloc hbs _) (by simp) hownA1.out hg1
          have hown2 : Hid (w1.ownsRow (w.heap.size + 1) 35 3 v1 (zs ++ [e]).length ((zs ++ [e]).flatMap Ent.cells)) := by
            rw [Hid]; simpa [Ent.cells] using hown1
          clear hg1 hat1 hown1 d1 d2 d3 b1 b2 b3
          have hbwX := HW.out.trans (hb1.mono (show w.heap.size ≤ w.heap.size + 1 by omega))
          have f1 := (hbwX.cell (p := ⟨b, o + k * 3, none⟩) hb).trans C1.out
          have f2 := (hbwX.cell (p := ⟨b, o + k * 3 + 1, none⟩) hb).trans C2.out
          have f3 := (hbwX.cell (p := ⟨b, o + k * 3 + 2, none⟩) hb).trans C3.out
          have hblk := HB.out.below hb1 (by omega)
          have b1' : w1.cell? ⟨w.heap.size, 0, none⟩ = some (.string e.k) := hblk.cell 0
          have hbsX : w.heap.size + 1 ≤ w1.heap.size := by have := hb1.size; simpa using this
          clear hblk hbwX
          go_quiet (fail)
          go_wp2_with fail
          go_roundw
          case rel => exact ⟨k + 1, zs ++ [e], true, by omega, by go_num, rfl, hst2, hown2, below_drewN' hb1 _⟩
          case measure => simp [intOf] <;> omega
        · have hst2 : Hid ((zs, true) = (l.take (k + 1)).foldl (putStep e) ([], false)) := by
            rw [Hid, hst.out, putStep, if_pos HK.out, hle]; rfl
          clear hle
          go_wp2_with fail
          go_quiet (fail)
          revert nq; intro n1
          go_wp2_with fail
          go_quiet (fail)
          go_wp2_with fail
          go_roundw
          case rel => exact ⟨k + 1, zs, true, by omega, by go_num, rfl, hst2, own_drewN hown.out _, below_drewN' hbl _⟩
          case measure => simp [intOf] <;> omega
      · have t2 : (e.k.toList == x.k.toList) = false := by rw [ba_beq]; simp [Ne.symm hkk]
        have t3 : (x.k.toList == e.k.toList) = false := by rw [ba_beq]; simp [hkk]
        have HK := Lib.hid hkk
        clear hkk
        cases d
        · by_cases hlt2 : Op.bytesLess e.k.toList x.k.toList = true
          · have hle : leB e.k x.k = true := by rw [leB, hlt2, Bool.true_or]
            have hst2 : Hid ((zs ++ [e] ++ [x], true) = (l.take (k + 1)).foldl (putStep e) ([], false)) := by
              rw [Hid, hst.out, putStep, if_neg HK.out, hle]; rfl
            clear hle
            go_wp2_with fail
            go_quiet (fail)
            revert nq; intro n1
            obtain ⟨i0, hi, hz0, hz1, hz2⟩ := info_parts info_entry
            have hownA1 := Lib.hid (own_alloc (own_drewN hown.out n1) (.cells #[.string e.k, .string e.v, .bool e.g] 35))
            go_wp2_with (at_builtin; go_loud (refine wpList_append_rd _ rfl (.tmp 26) (.tmp 28) 32 rfl (w.heap.size + 1) 35 i0 _ 3 40 Try.underlying32 hi hz0 hz1 hz2 rfl (by decide) u5 _ _ rfl hownA1.out B 35 _ 1 _ rfl (rd_lit3 _ _ _ (by simp) _ _ _) (ent_one3 _ _ _) (by unfold maxLen; omega) (by omega) (by simp; omega) ?_); intro v1 w1 hown1 hg1 hat1)
            clear hi hz0 hz1 hz2
            have hb1 := below_own ((below_drewN' hbl n1).alloc hbs _) (by simp) hownA1.out hg1
            have hown2 : Hid (w1.ownsRow (w.heap.size + 1) 35 3 v1 (zs ++ [e]).length ((zs ++ [e]).flatMap Ent.cells)) := by
              rw [Hid]; simpa [Ent.cells] using hown1
            clear hg1 hat1 hown1 d1 d2 d3 b1 b2 b3
            have hbwX := HW.out.trans (hb1.mono (show w.heap.size ≤ w.heap.size + 1 by omega))
            have f1 := (hbwX.cell (p := ⟨b, o + k * 3, none⟩) hb).trans C1.out
            have f2 := (hbwX.cell (p := ⟨b, o + k * 3 + 1, none⟩) hb).trans C2.out
            have f3 := (hbwX.cell (p := ⟨b, o + k * 3 + 2, none⟩) hb).trans C3.out
            have hblk := HB.out.below hb1 (by omega)
            have b1' : w1.cell? ⟨w.heap.size, 0, none⟩ = some (.string e.k) := hblk.cell 0
            have hbsX : w.heap.size + 1 ≤ w1.heap.size := by have := hb1.size; simpa using this
            clear hblk hbwX
            go_quiet (fail)
            revert nq; intro n2
            obtain ⟨i0, hi, hz0, hz1, hz2⟩ := info_parts info_entry
            have hzl2 : (zs ++ [e]).length ≤ 1000002 := by simp; omega
            have hownA2 := Lib.hid (own_alloc (own_drewN hown2.out n2) (.cells #[.string x.k, .string x.v, .bool x.g] 35))
            go_wp2_with (at_builtin; go_loud (refine wpList_append_rd _ rfl (.tmp 38) (.tmp 43) 32 rfl (w.heap.size + 1) 35 i0 _ 3 40 Try.underlying32 hi hz0 hz1 hz2 rfl (by decide) v1 _ _ rfl hownA2.out B 35 _ 1 _ rfl (rd_lit3 _ _ _ (by simp) _ _ _) (ent_one3 _ _ _) (by unfold maxLen; omega) (by omega) (by simp; omega) ?_); intro v2 w2 hown2' hg2 hat2)
            clear hi hz0 hz1 hz2
            have hb2 := below_own ((below_drewN' hb1 n2).alloc hbsX _) (by simp) hownA2.out hg2
            have hown3 : Hid (w2.ownsRow (w.heap.size + 1) 35 3 v2 (zs ++ [e] ++ [x]).length ((zs ++ [e] ++ [x]).flatMap Ent.cells)) := by
              rw [Hid]; simpa [Ent.cells] using hown2'
            clear hg2 hat2 hown2'
            go_roundw
            case rel => exact ⟨k + 1, zs ++ [e] ++ [x], true, by omega, by go_num, rfl, hst2, hown3, hb2⟩
            case measure => simp [intOf] <;> omega
          · have hlt3 : Op.bytesLess e.k.toList x.k.toList = false := by simpa using hlt2
            have hle : Hid (leB e.k x.k = false) := by rw [Hid, leB, hlt3, t2]; rfl
            clear hlt2
            have hst2 : Hid ((zs ++ [x], false) = (l.take (k + 1)).foldl (putStep e) ([], false)) := by
              rw [Hid, hst.out, putStep, if_neg HK.out, hle.out]; rfl
            go_wp2_with fail
            go_quiet (fail)
            revert nq; intro n1
            go_wp2_with fail
            go_quiet (fail)
            revert nq; intro n2
            obtain ⟨i0, hi, hz0, hz1, hz2⟩ := info_parts info_entry
            have hownA1 := Lib.hid (own_alloc (own_drewN hown.out (n1 + n2)) (.cells #[.string x.k, .string x.v, .bool x.g] 35))
            go_wp2_with (at_builtin; go_loud (refine wpList_append_rd _ rfl (.tmp 38) (.tmp 43) 32 rfl (w.heap.size + 1) 35 i0 _ 3 40 Try.underlying32 hi hz0 hz1 hz2 rfl (by decide) u5 _ _ rfl hownA1.out B 35 _ 1 _ rfl (rd_lit3 _ _ _ (by simp) _ _ _) (ent_one3 _ _ _) (by unfold maxLen; omega) (by omega) (by simp; omega) ?_); intro v1 w1 hown1 hg1 hat1)
            clear hi hz0 hz1 hz2
            have hb1 := below_own ((below_drewN' hbl (n1 + n2)).alloc hbs _) (by simp) hownA1.out hg1
            have hown2 : Hid (w1.ownsRow (w.heap.size + 1) 35 3 v1 (zs ++ [x]).length ((zs ++ [x]).flatMap Ent.cells)) := by
              rw [Hid]; simpa [Ent.cells] using hown1
            clear hg1 hat1 hown1
            go_roundw
            case rel => exact ⟨k + 1, zs ++ [x], false, by omega, by go_num, rfl, hst2, hown2, hb1⟩
            case measure => simp [intOf] <;> omega
        · have hst2 : Hid ((zs ++ [x], true) = (l.take (k + 1)).foldl (putStep e) ([], false)) := by
            rw [Hid, hst.out, putStep, if_neg HK.out]; rfl
          go_wp2_with fail
          go_quiet (fail)
          revert nq; intro n1
          go_wp2_with fail
          go_quiet (fail)
          revert nq; intro n2
          obtain ⟨i0, hi, hz0, hz1, hz2⟩ := info_parts info_entry
          have hownA1 := Lib.hid (own_alloc (own_drewN hown.out (n1 + n2)) (.cells #[.string x.k, .string x.v, .bool x.g] 35))
          go_wp2_with (at_builtin; go_loud (refine wpList_append_rd _ rfl (.tmp 38) (.tmp 43) 32 rfl (w.heap.size + 1) 35 i0 _ 3 40 Try.underlying32 hi hz0 hz1 hz2 rfl (by decide) u5 _ _ rfl hownA1.out B 35 _ 1 _ rfl (rd_lit3 _ _ _ (by simp) _ _ _) (ent_one3 _ _ _) (by unfold maxLen; omega) (by omega) (by simp; omega) ?_); intro v1 w1 hown1 hg1 hat1)
          clear hi hz0 hz1 hz2
          have hb1 := below_own ((below_drewN' hbl (n1 + n2)).alloc hbs _) (by simp) hownA1.out hg1
          have hown2 : Hid (w1.ownsRow (w.heap.size + 1) 35 3 v1 (zs ++ [x]).length ((zs ++ [x]).flatMap Ent.cells)) := by
            rw [Hid]; simpa [Ent.cells] using hown1
          clear hg1 hat1 hown1
          go_roundw
          case rel => exact ⟨k + 1, zs ++ [x], true, by omega, by go_num, rfl, hst2, hown2, hb1⟩
          case measure => simp [intOf] <;> omega
    · have hge : l.length ≤ k := by omega
      have hz' := hz.out
      rw [List.take_of_length_le hge] at hz'
      cases d
      · have hst2 : Hid (putE l e = zs ++ [e]) := by rw [Hid, putE, ← hz']; rfl
        clear hz' HC
        obtain ⟨i0, hi, hz0, hz1, hz2⟩ := info_parts info_entry
        have hownA1 := Lib.hid (own_alloc hown.out (.cells #[.string e.k, .string e.v, .bool e.g] 35))
        go_wp2_with (at_builtin; go_loud (refine wpList_append_rd _ rfl (.tmp 47) (.tmp 49) 32 rfl (w.heap.size + 1) 35 i0 _ 3 40 Try.underlying32 hi hz0 hz1 hz2 rfl (by decide) u5 _ _ rfl hownA1.out B 35 _ 1 _ rfl (rd_lit3 _ _ _ (by simp) _ _ _) (ent_one3 _ _ _) (by unfold maxLen; omega) (by omega) (by simp; omega) ?_); intro v1 w1 hown1 hg1 hat1)
        clear hi hz0 hz1 hz2
        have hb1 := below_own ((below_drewN' hbl 0).alloc hbs _) (by simp) hownA1.out hg1
        go_ret
        refine ⟨_, rfl, ?_, HW.out.trans (hb1.mono (show w.heap.size ≤ w.heap.size + 1 by omega))⟩
        rw [hst2.out]
        simpa [Ent.cells] using hown1
      · have hst2 : Hid (putE l e = zs) := by rw [Hid, putE, ← hz']; rfl
        clear hz' HC
        go_wp2_with fail
        go_ret
        refine ⟨_, rfl, ?_, HBW.out⟩
        rw [hst2.out]
        exact hown.out
end Go.Proofs.Ytaepdbkfaoiimaa
