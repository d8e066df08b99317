/- Several texts of this proof, one behind the other: walks and plain laws that the statement rests on. Conditions: none but those that each lemma names. -/
import Derived.Test.YtaepdbkfaoiimabGreatDoorGa
import Derived.Test.YtaepdbkfaoiimabGreatDoorGo
/- The contracts of the reference's lists of entries: Put, Get, Live, Merged. Conditions: lists of at most a million entries. -/
set_option linter.unusedVariables false
set_option linter.unusedSimpArgs false
namespace Go.Proofs.YtaepdbkfaoiimabGreatDoor
open Go.RowKit

set_option maxHeartbeats 1000000 in
theorem rlive_any (B : Nat) (v : Value) (l : List Ent) (w : World) (h : Ents B w v l) (hn : l.length ≤ 1000000) :
    Calls Tryz.prog 74 #[v] w fun e w' => ∃ u, e = .returned u ∧ Ents B w' u (liveE l) ∧ Below w.heap.size w w' := by
  obtain ⟨A, c, rfl, hc, hc2, hcell⟩ := h.form
  have HC := Lib.hid hcell
  have HO : Hid (∀ e ∈ l, EntOk e) := h.2
  clear hcell h
  go_enter Tryz.func74, Tryz.ntmps74
  go_wp2_with fail
  go_loopw [3, 4] (fun u i wr => ∃ k m : Nat, k ≤ l.length ∧ i = .int .i64 k ∧ m ≤ k ∧ ∃ zs : List Ent, Hid (zs = liveE (l.take k)) ∧ Hid (zs.length = m) ∧ Hid (wr.ownsRow w.heap.size 56 3 u zs.length (zs.flatMap Ent.cells)) ∧ Below w.heap.size w wr) (fun _ i _ => l.length - (intOf i).toNat)
  case atStart => exact ⟨0, 0, Nat.zero_le _, rfl, Nat.le_refl _, [], rfl, rfl, World.ownsRow_nil _ _ _ _, Below.refl _ _⟩
  case round =>
    obtain ⟨k, m, hk, rfl, hmk, zs, hz, hzl, hown, hbl⟩ := hrel
    by_cases hlt : k < l.length
    · obtain ⟨x, hx, htk, _⟩ := getElem?_of_lt hlt
      obtain ⟨b, o, rfl, hb, c1, c2, c3⟩ := HC.out k x hx
      have d1 := (hbl.cell (p := ⟨b, o + k * 3, none⟩) hb).trans c1
      have d2 := (hbl.cell (p := ⟨b, o + k * 3 + 1, none⟩) hb).trans c2
      have d3 := (hbl.cell (p := ⟨b, o + k * 3 + 2, none⟩) hb).trans c3
      have HT := Lib.hid htk
      have hbs := hbl.size
      clear htk hx c1 c2 c3
      cases hg : x.g
      · obtain ⟨i0, hi, hz0, hz1, hz2⟩ := info_parts info_entry
        rw [hg] at d3
        have hzm : zs.length ≤ 1000000 := by have := hzl.out; omega
        have hb0 := Lib.hid (hbl.alloc hbs (.cells #[.string x.k, .string x.v, .bool false] 56))
        have hownA1 := Lib.hid (own_alloc hown.out (.cells #[.string x.k, .string x.v, .bool false] 56))
        go_wp2_with (at_builtin; go_loud (refine wpList_append_rd _ rfl (.tmp 17) (.tmp 22) 31 rfl (w.heap.size) 56 i0 _ 3 40 Tryz.underlying31 hi hz0 hz1 hz2 rfl (by decide) u3 _ _ rfl hownA1.out B 56 _ 1 _ rfl (rd_lit3 _ _ _ (by simp) _ _ _) (ent_one3 _ _ _) (by unfold maxLen; omega) (by omega) (by simp; omega) ?_); intro v1 w1 hown1 hg1 hat1)
        have hb1 := below_own hb0.out (Nat.le_refl _) hownA1.out hg1
        have hown2 : Hid (w1.ownsRow w.heap.size 56 3 v1 (zs ++ [x]).length ((zs ++ [x]).flatMap Ent.cells)) := by
          rw [Hid]; simpa [Ent.cells, hg] using hown1
        have hm2 : Hid (zs ++ [x] = liveE (l.take (k + 1))) := by
          rw [Hid, HT.out, liveE_snoc, hg, hz.out]; simp
        clear hi hz0 hz1 hz2 hg1 hat1 hown1
        go_roundw
        case rel => exact ⟨k + 1, m + 1, by omega, by go_num, by omega, zs ++ [x], hm2, by rw [Hid, List.length_append, hzl.out]; rfl, hown2, hb1⟩
        case measure => simp [intOf] <;> omega
      · rw [hg] at d3
        go_wp2_with fail
        go_roundw
        case rel => exact ⟨k + 1, m, by omega, by go_num, by omega, zs, by rw [Hid, HT.out, liveE_snoc, hg]; exact hz.out, hzl, hown, hbl⟩
        case measure => simp [intOf] <;> omega
    · have hge : l.length ≤ k := by omega
      go_wp2_with fail
      go_ret
      have e : l.take k = l := List.take_of_length_le hge
      have hz' := hz.out
      rw [e] at hz'
      subst hz'
      exact ⟨_, rfl, ⟨Rd.of_own hown.out, fun e he => HO.out e (List.mem_filter.1 he).1⟩, hbl⟩

set_option maxHeartbeats 1000000 in
theorem rget_any (B : Nat) (v : Value) (l : List Ent) (key : ByteArray) (w : World) (h : Ents B w v l) :
    Calls Tryz.prog 18 #[v, .string key] w fun e w' => e = .returned (.tuple #[((getE l key).getD Ent.zero).val, .bool (getE l key).isSome]) ∧ Below w.heap.size w w' := by
  obtain ⟨A, c, rfl, hc, hc2, hcell⟩ := h.form
  have HC := Lib.hid hcell
  clear hcell h
  go_enter Tryz.func18, Tryz.ntmps18
  go_wp2_with fail
  go_loop [6] (fun i => ∃ k : Nat, k ≤ l.length ∧ i = .int .i64 k ∧ Hid (getE (l.take k) key = none)) (fun i => l.length - (intOf i).toNat)
  case atStart => exact ⟨0, Nat.zero_le _, rfl, rfl⟩
  case round =>
    obtain ⟨k, hk, rfl, hz⟩ := hrel
    have hbl : Below w.heap.size w (w.alloc (.cells #[.string { data := #[] }, .string { data := #[] }, .bool false] 56)) := (Below.refl _ _).alloc (Nat.le_refl _) _
    by_cases hlt : k < l.length
    · obtain ⟨x, hx, htk, hdk⟩ := getElem?_of_lt hlt
      obtain ⟨b, o, rfl, hb, c1, c2, c3⟩ := HC.out k x hx
      have d1 := (hbl.cell (p := ⟨b, o + k * 3, none⟩) hb).trans c1
      have d2 := (hbl.cell (p := ⟨b, o + k * 3 + 1, none⟩) hb).trans c2
      have d3 := (hbl.cell (p := ⟨b, o + k * 3 + 2, none⟩) hb).trans c3
      have HT := Lib.hid htk
      have HD := Lib.hid hdk
      clear htk hx hdk c1 c2 c3
      by_cases hkey : x.k = key
      · have ht : (x.k.toList == key.toList) = true := by rw [hkey]; simp
        have hf : Hid (getE l key = some x) := by
          have e : l = l.take k ++ x :: l.drop (k + 1) := by rw [← HD.out, List.take_append_drop]
          have h1 := hz.out
          unfold getE at h1
          rw [Hid, getE, e, List.find?_append, h1]
          simp [hkey]
        clear hkey
        go_wp2_with fail
        refine bodyPost_ret (v := .tuple #[x.val, .bool true]) (by simp [results, Tryz.results18, go_sem, Ent.val]) rfl ⟨by rw [hf.out]; rfl, ?_⟩
        exact (Below.refl _ _).alloc (Nat.le_refl _) _
      · have ht : (x.k.toList == key.toList) = false := by rw [ba_beq]; simp [hkey]
        have hf : Hid (getE (l.take (k + 1)) key = none) := by
          have h1 := hz.out
          unfold getE at h1
          rw [Hid, HT.out, getE, List.find?_append, h1]
          simp [hkey]
        clear hkey
        go_wp2_with fail
        go_round
        case rel => exact ⟨k + 1, by omega, by go_num, hf⟩
        case measure => simp [intOf] <;> omega
    · have hge : l.length ≤ k := by omega
      have hf : Hid (getE l key = none) := by
        have h1 := hz.out
        rw [List.take_of_length_le hge] at h1
        exact h1
      go_wp2_with fail
      refine bodyPost_ret (v := .tuple #[Ent.zero.val, .bool false]) (by simp [results, Tryz.results18, go_sem, Ent.val, Ent.zero]; rfl) rfl ⟨by rw [hf.out]; rfl, ?_⟩
      exact (Below.refl _ _).alloc (Nat.le_refl _) _

set_option maxHeartbeats 4000000 in
theorem rput_own (B : Nat) (v : Value) (l : List Ent) (e : Ent) (w : World) (h : Ents B w v l) (hn : l.length ≤ 1000000) :
    Calls Tryz.prog 73 #[v, .agg #[.string e.k, .string e.v, .bool e.g]] w fun d w' => ∃ u, d = .returned u ∧ w'.ownsRow (w.heap.size + 1) 56 3 u (putE l e).length ((putE l e).flatMap Ent.cells) ∧ Below w.heap.size w w' := by
  obtain ⟨A, c, rfl, hc, hc2, hcell⟩ := h.form
  have HC := Lib.hid hcell
  clear hcell h
  have HW : Hid (Below w.heap.size w (w.alloc (.cells #[.string e.k, .string e.v, .bool e.g] 56))) := (Below.refl _ _).alloc (Nat.le_refl _) _
  have HB : Hid (Blk (w.alloc (.cells #[.string e.k, .string e.v, .bool e.g] 56)) w.heap.size 56 #[.string e.k, .string e.v, .bool e.g]) := Blk.new _ _ _
  go_enter Tryz.func73, Tryz.ntmps73
  go_wp2_with fail
  go_loopw [5, 6, 7] (fun u ld i wr => ∃ (k : Nat) (zs : List Ent) (d : Bool), k ≤ l.length ∧ i = .int .i64 k ∧ ld = .bool d ∧ Hid ((zs, d) = (l.take k).foldl (putStep e) ([], false)) ∧ Hid (wr.ownsRow (w.heap.size + 1) 56 3 u zs.length (zs.flatMap Ent.cells)) ∧ Below (w.heap.size + 1) (w.alloc (.cells #[.string e.k, .string e.v, .bool e.g] 56)) wr) (fun _ _ i _ => l.length - (intOf i).toNat)
  case atStart => exact ⟨0, [], false, Nat.zero_le _, rfl, rfl, rfl, World.ownsRow_nil _ _ _ _, Below.refl _ _⟩
  case round =>
    obtain ⟨k, zs, d, hk, rfl, rfl, hz, hown, hbl⟩ := hrel
    have hzl : zs.length ≤ 1000001 := by
      have h1 := putFold_len e (l.take k)
      rw [← hz.out] at h1
      have h2 : (l.take k).length ≤ l.length := List.length_take_le' _ _
      have h3 : (if d = true then 1 else 0) ≤ 1 := by split <;> omega
      simp only at h1
      omega
    have hbs : w.heap.size + 1 ≤ wr.heap.size := by have := hbl.size; simpa using this
    have hblk := HB.out.below hbl (by omega)
    have b1 : wr.cell? ⟨w.heap.size, 0, none⟩ = some (.string e.k) := hblk.cell 0
    have b2 : wr.cell? ⟨w.heap.size, 1, none⟩ = some (.string e.v) := hblk.cell 1
    have b3 : wr.cell? ⟨w.heap.size, 2, none⟩ = some (.bool e.g) := hblk.cell 2
    clear hblk
    have hbw := HW.out.trans (hbl.mono (show w.heap.size ≤ w.heap.size + 1 by omega))
    have HBW := Lib.hid hbw
    by_cases hlt : k < l.length
    · obtain ⟨x, hx, htk, _⟩ := getElem?_of_lt hlt
      obtain ⟨b, o, rfl, hb, c1, c2, c3⟩ := HC.out k x hx
      have d1 := (hbw.cell (p := ⟨b, o + k * 3, none⟩) hb).trans c1
      have d2 := (hbw.cell (p := ⟨b, o + k * 3 + 1, none⟩) hb).trans c2
      have d3 := (hbw.cell (p := ⟨b, o + k * 3 + 2, none⟩) hb).trans c3
      have hst : Hid ((l.take (k + 1)).foldl (putStep e) ([], false) = putStep e (zs, d) x) := by
        rw [Hid, htk, List.foldl_append, ← hz.out]; rfl
      have C1 := Lib.hid c1
      have C2 := Lib.hid c2
      have C3 := Lib.hid c3
      clear htk hx c1 c2 c3 hbw
      have g1 : (0 : Int) ≤ (k : Int) := by omega
      have g2 : (k : Int) < (l.length : Int) := by omega
      by_cases hkk : x.k = e.k
      · have t2 : (e.k.toList == x.k.toList) = true := by rw [hkk]; simp
        have t3 : (x.k.toList == e.k.toList) = true := by rw [hkk]; simp
        have hle : leB e.k x.k = true := by rw [leB, t2, Bool.or_true]
        have HK := Lib.hid hkk
        clear hkk
        cases d
        · have hst2 : Hid ((zs ++ [e], true) = (l.take (k + 1)).foldl (putStep e) ([], false)) := by
            rw [Hid, hst.out, putStep, if_pos HK.out, hle]; rfl
          clear hle
          go_wp2_with fail
          go_quiet (fail)
          revert nq; intro n1
          obtain ⟨i0, hi, hz0, hz1, hz2⟩ := info_parts info_entry
          have hownA1 := Lib.hid (own_alloc (own_drewN hown.out n1) (.cells #[.string e.k, .string e.v, .bool e.g] 56))
          go_wp2_with (at_builtin; go_loud (refine wpList_append_rd _ rfl (.tmp 26) (.tmp 28) 31 rfl (w.heap.size + 1) 56 i0 _ 3 40 Tryz.underlying31 hi hz0 hz1 hz2 rfl (by decide) u5 _ _ rfl hownA1.out B 56 _ 1 _ rfl (rd_lit3 _ _ _ (by simp) _ _ _) (ent_one3 _ _ _) (by unfold maxLen; omega) (by omega) (by simp; omega) ?_); intro v1 w1 hown1 hg1 hat1)
          clear hi hz0 hz1 hz2
          have hb1 := below_own ((below_drewN' hbl n1).alloc hbs _) (by simp) hownA1.out hg1
          have hown2 : Hid (w1.ownsRow (w.heap.size + 1) 56 3 v1 (zs ++ [e]).length ((zs ++ [e]).flatMap Ent.cells)) := by
            rw [Hid]; simpa [Ent.cells] using hown1
          clear hg1 hat1 hown1 d1 d2 d3 b1 b2 b3
          have hbwX := HW.out.trans (hb1.mono (show w.heap.size ≤ w.heap.size + 1 by omega))
          have f1 := (hbwX.cell (p := ⟨b, o + k * 3, none⟩) hb).trans C1.out
          have f2 := (hbwX.cell (p := ⟨b, o + k * 3 + 1, none⟩) hb).trans C2.out
          have f3 := (hbwX.cell (p := ⟨b, o + k * 3 + 2, none⟩) hb).trans C3.out
          have hblk := HB.out.below hb1 (by omega)
          have b1' : w1.cell? ⟨w.heap.size, 0, none⟩ = some (.string e.k) := hblk.cell 0
          have hbsX : w.heap.size + 1 ≤ w1.heap.size := by have := hb1.size; simpa using this
          clear hblk hbwX
          go_quiet (fail)
          go_wp2_with fail
          go_roundw
          case rel => exact ⟨k + 1, zs ++ [e], true, by omega, by go_num, rfl, hst2, hown2, below_drewN' hb1 _⟩
          case measure => simp [intOf] <;> omega
        · have hst2 : Hid ((zs, true) = (l.take (k + 1)).foldl (putStep e) ([], false)) := by
            rw [Hid, hst.out, putStep, if_pos HK.out, hle]; rfl
          clear hle
          go_wp2_with fail
          go_quiet (fail)
          revert nq; intro n1
          go_wp2_with fail
          go_quiet (fail)
          go_wp2_with fail
          go_roundw
          case rel => exact ⟨k + 1, zs, true, by omega, by go_num, rfl, hst2, own_drewN hown.out _, below_drewN' hbl _⟩
          case measure => simp [intOf] <;> omega
      · have t2 : (e.k.toList == x.k.toList) = false := by rw [ba_beq]; simp [Ne.symm hkk]
        have t3 : (x.k.toList == e.k.toList) = false := by rw [ba_beq]; simp [hkk]
        have HK := Lib.hid hkk
        clear hkk
        cases d
        · by_cases hlt2 : Op.bytesLess e.k.toList x.k.toList = true
          · have hle : leB e.k x.k = true := by rw [leB, hlt2, Bool.true_or]
            have hst2 : Hid ((zs ++ [e] ++ [x], true) = (l.take (k + 1)).foldl (putStep e) ([], false)) := by
              rw [Hid, hst.out, putStep, if_neg HK.out, hle]; rfl
            clear hle
            go_wp2_with fail
            go_quiet (fail)
            revert nq; intro n1
            obtain ⟨i0, hi, hz0, hz1, hz2⟩ := info_parts info_entry
            have hownA1 := Lib.hid (own_alloc (own_drewN hown.out n1) (.cells #[.string e.k, .string e.v, .bool e.g] 56))
            go_wp2_with (at_builtin; go_loud (refine wpList_append_rd _ rfl (.tmp 26) (.tmp 28) 31 rfl (w.heap.size + 1) 56 i0 _ 3 40 Tryz.underlying31 hi hz0 hz1 hz2 rfl (by decide) u5 _ _ rfl hownA1.out B 56 _ 1 _ rfl (rd_lit3 _ _ _ (by simp) _ _ _) (ent_one3 _ _ _) (by unfold maxLen; omega) (by omega) (by simp; omega) ?_); intro v1 w1 hown1 hg1 hat1)
            clear hi hz0 hz1 hz2
            have hb1 := below_own ((below_drewN' hbl n1).alloc hbs _) (by simp) hownA1.out hg1
            have hown2 : Hid (w1.ownsRow (w.heap.size + 1) 56 3 v1 (zs ++ [e]).length ((zs ++ [e]).flatMap Ent.cells)) := by
              rw [Hid]; simpa [Ent.cells] using hown1
            clear hg1 hat1 hown1 d1 d2 d3 b1 b2 b3
            have hbwX := HW.out.trans (hb1.mono (show w.heap.size ≤ w.heap.size + 1 by omega))
            have f1 := (hbwX.cell (p := ⟨b, o + k * 3, none⟩) hb).trans C1.out
            have f2 := (hbwX.cell (p := ⟨b, o + k * 3 + 1, none⟩) hb).trans C2.out
            have f3 := (hbwX.cell (p := ⟨b, o + k * 3 + 2, none⟩) hb).trans C3.out
            have hblk := HB.out.below hb1 (by omega)
            have b1' : w1.cell? ⟨w.heap.size, 0, none⟩ = some (.string e.k) := hblk.cell 0
            have hbsX : w.heap.size + 1 ≤ w1.heap.size := by have := hb1.size; simpa using this
            clear hblk hbwX
            go_quiet (fail)
            revert nq; intro n2
            obtain ⟨i0, hi, hz0, hz1, hz2⟩ := info_parts info_entry
            have hzl2 : (zs ++ [e]).length ≤ 1000002 := by simp; omega
            have hownA2 := Lib.hid (own_alloc (own_drewN hown2.out n2) (.cells #[.string x.k, .string x.v, .bool x.g] 56))
            go_wp2_with (at_builtin; go_loud (refine wpList_append_rd _ rfl (.tmp 38) (.tmp 43) 31 rfl (w.heap.size + 1) 56 i0 _ 3 40 Tryz.underlying31 hi hz0 hz1 hz2 rfl (by decide) v1 _ _ rfl hownA2.out B 56 _ 1 _ rfl (rd_lit3 _ _ _ (by simp) _ _ _) (ent_one3 _ _ _) (by unfold maxLen; omega) (by omega) (by simp; omega) ?_); intro v2 w2 hown2' hg2 hat2)
            clear hi hz0 hz1 hz2
            have hb2 := below_own ((below_drewN' hb1 n2).alloc hbsX _) (by simp) hownA2.out hg2
            have hown3 : Hid (w2.ownsRow (w.heap.size + 1) 56 3 v2 (zs ++ [e] ++ [x]).length ((zs ++ [e] ++ [x]).flatMap Ent.cells)) := by
              rw [Hid]; simpa [Ent.cells] using hown2'
            clear hg2 hat2 hown2'
            go_roundw
            case rel => exact ⟨k + 1, zs ++ [e] ++ [x], true, by omega, by go_num, rfl, hst2, hown3, hb2⟩
            case measure => simp [intOf] <;> omega
          · have hlt3 : Op.bytesLess e.k.toList x.k.toList = false := by simpa using hlt2
            have hle : Hid (leB e.k x.k = false) := by rw [Hid, leB, hlt3, t2]; rfl
            clear hlt2
            have hst2 : Hid ((zs ++ [x], false) = (l.take (k + 1)).foldl (putStep e) ([], false)) := by
              rw [Hid, hst.out, putStep, if_neg HK.out, hle.out]; rfl
            go_wp2_with fail
            go_quiet (fail)
            revert nq; intro n1
            go_wp2_with fail
            go_quiet (fail)
            revert nq; intro n2
            obtain ⟨i0, hi, hz0, hz1, hz2⟩ := info_parts info_entry
            have hownA1 := Lib.hid (own_alloc (own_drewN hown.out (n1 + n2)) (.cells #[.string x.k, .string x.v, .bool x.g] 56))
            go_wp2_with (at_builtin; go_loud (refine wpList_append_rd _ rfl (.tmp 38) (.tmp 43) 31 rfl (w.heap.size + 1) 56 i0 _ 3 40 Tryz.underlying31 hi hz0 hz1 hz2 rfl (by decide) u5 _ _ rfl hownA1.out B 56 _ 1 _ rfl (rd_lit3 _ _ _ (by simp) _ _ _) (ent_one3 _ _ _) (by unfold maxLen; omega) (by omega) (by simp; omega) ?_); intro v1 w1 hown1 hg1 hat1)
            clear hi hz0 hz1 hz2
            have hb1 := below_own ((below_drewN' hbl (n1 + n2)).alloc hbs _) (by simp) hownA1.out hg1
            have hown2 : Hid (w1.ownsRow (w.heap.size + 1) 56 3 v1 (zs ++ [x]).length ((zs ++ [x]).flatMap Ent.cells)) := by
              rw [Hid]; simpa [Ent.cells] using hown1
            clear hg1 hat1 hown1
            go_roundw
            case rel => exact ⟨k + 1, zs ++ [x], false, by omega, by go_num, rfl, hst2, hown2, hb1⟩
            case measure => simp [intOf] <;> omega
        · have hst2 : Hid ((zs ++ [x], true) = (l.take (k + 1)).foldl (putStep e) ([], false)) := by
            rw [Hid, hst.out, putStep, if_neg HK.out]; rfl
          go_wp2_with fail
          go_quiet (fail)
          revert nq; intro n1
          go_wp2_with fail
          go_quiet (fail)
          revert nq; intro n2
          obtain ⟨i0, hi, hz0, hz1, hz2⟩ := info_parts info_entry
          have hownA1 := Lib.hid (own_alloc (own_drewN hown.out (n1 + n2)) (.cells #[.string x.k, .string x.v, .bool x.g] 56))
          go_wp2_with (at_builtin; go_loud (refine wpList_append_rd _ rfl (.tmp 38) (.tmp 43) 31 rfl (w.heap.size + 1) 56 i0 _ 3 40 Tryz.underlying31 hi hz0 hz1 hz2 rfl (by decide) u5 _ _ rfl hownA1.out B 56 _ 1 _ rfl (rd_lit3 _ _ _ (by simp) _ _ _) (ent_one3 _ _ _) (by unfold maxLen; omega) (by omega) (by simp; omega) ?_); intro v1 w1 hown1 hg1 hat1)
          clear hi hz0 hz1 hz2
          have hb1 := below_own ((below_drewN' hbl (n1 + n2)).alloc hbs _) (by simp) hownA1.out hg1
          have hown2 : Hid (w1.ownsRow (w.heap.size + 1) 56 3 v1 (zs ++ [x]).length ((zs ++ [x]).flatMap Ent.cells)) := by
            rw [Hid]; simpa [Ent.cells] using hown1
          clear hg1 hat1 hown1
          go_roundw
          case rel => exact ⟨k + 1, zs ++ [x], true, by omega, by go_num, rfl, hst2, hown2, hb1⟩
          case measure => simp [intOf] <;> omega
    · have hge : l.length ≤ k := by omega
      have hz' := hz.out
      rw [List.take_of_length_le hge] at hz'
      cases d
      · have hst2 : Hid (putE l e = zs ++ [e]) := by rw [Hid, putE, ← hz']; rfl
        clear hz' HC
        obtain ⟨i0, hi, hz0, hz1, hz2⟩ := info_parts info_entry
        have hownA1 := Lib.hid (own_alloc hown.out (.cells #[.string e.k, .string e.v, .bool e.g] 56))
        go_wp2_with (at_builtin; go_loud (refine wpList_append_rd _ rfl (.tmp 47) (.tmp 49) 31 rfl (w.heap.size + 1) 56 i0 _ 3 40 Tryz.underlying31 hi hz0 hz1 hz2 rfl (by decide) u5 _ _ rfl hownA1.out B 56 _ 1 _ rfl (rd_lit3 _ _ _ (by simp) _ _ _) (ent_one3 _ _ _) (by unfold maxLen; omega) (by omega) (by simp; omega) ?_); intro v1 w1 hown1 hg1 hat1)
        clear hi hz0 hz1 hz2
        have hb1 := below_own ((below_drewN' hbl 0).alloc hbs _) (by simp) hownA1.out hg1
        go_ret
        refine ⟨_, rfl, ?_, HW.out.trans (hb1.mono (show w.heap.size ≤ w.heap.size + 1 by omega))⟩
        rw [hst2.out]
        simpa [Ent.cells] using hown1
      · have hst2 : Hid (putE l e = zs) := by rw [Hid, putE, ← hz']; rfl
        clear hz' HC
        go_wp2_with fail
        go_ret
        refine ⟨_, rfl, ?_, HBW.out⟩
        rw [hst2.out]
        exact hown.out
end Go.Proofs.YtaepdbkfaoiimabGreatDoor
/- The walks of the reference's Merged and of rising. Conditions: lists of at most a million entries. -/
set_option linter.unusedVariables false
set_option linter.unusedSimpArgs false
namespace Go.Proofs.YtaepdbkfaoiimabGreatDoor
open Go.RowKit

theorem rput_any (B : Nat) (v : Value) (l : List Ent) (e : Ent) (w : World) (h : Ents B w v l) (hn : l.length ≤ 1000000) (he : EntOk e) :
    Calls Tryz.prog 73 #[v, .agg #[.string e.k, .string e.v, .bool e.g]] w fun d w' => ∃ u, d = .returned u ∧ Ents B w' u (putE l e) ∧ Below w.heap.size w w' :=
  (rput_own B v l e w h hn).mono fun d w' ⟨u, hd, hown, hb⟩ => ⟨u, hd, ⟨Rd.of_own hown, putE_ok l e he h.2⟩, hb⟩
theorem foldl_put_len (l acc : List Ent) : (l.foldl putE acc).length ≤ acc.length + l.length := by
  induction l generalizing acc with
  | nil => simp
  | cons x l ih =>
    have h1 := ih (putE acc x)
    have h2 := putE_len acc x
    simp only [List.foldl_cons, List.length_cons] at h1 ⊢
    omega
theorem putAll_len (ls : List (List Ent)) : (putAll ls).length ≤ sumLen ls := by
  induction ls with
  | nil => simp [putAll, sumLen]
  | cons l ls ih =>
    have h1 := foldl_put_len l (putAll ls)
    simp only [sumLen, List.map_cons, List.sum_cons] at *
    show (l.foldl putE (putAll ls)).length ≤ _
    omega
theorem Lss.ok {B : Nat} {w : World} {v : Value} {ls : List (List Ent)} (h : Lss B w v ls) : ∀ l ∈ ls, ∀ e ∈ l, EntOk e := by
  intro l hl
  obtain ⟨i, hi⟩ := List.getElem?_of_mem hl
  obtain ⟨A, c, _, _, _, hc⟩ := h.form
  obtain ⟨b, o, u, _, _, _, he⟩ := hc i l hi
  exact he.2


instance (l : List Ent) : Decidable (Rises l) := inferInstanceAs (Decidable (l.Pairwise (fun a b => ltB a.k b.k = true)))
def Adj (l : List Ent) (k : Nat) : Prop := ∀ (i : Nat) (x y : Ent), i + 1 < k → l[i]? = some x → l[i + 1]? = some y → ltB x.k y.k = true
theorem rises_of_adj : ∀ (l : List Ent), Adj l l.length → Rises l
  | [], _ => by simp [Rises]
  | [x], _ => by simp [Rises]
  | x :: y :: l, h => by
    have h1 := rises_of_adj (y :: l) (fun i a b hi ha hb => h (i + 1) a b (by simp at hi ⊢; omega) (by simpa using ha) (by simpa using hb))
    have h0 := h 0 x y (by simp) rfl rfl
    refine rises_cons.2 ⟨fun z hz => ?_, h1⟩
    rcases List.mem_cons.1 hz with rfl | hz
    · exact h0
    · exact ltB_trans h0 ((rises_cons.1 h1).1 z hz)
theorem adj_of_rises : ∀ (l : List Ent), Rises l → Adj l l.length
  | [], _ => fun i x y _ h _ => by simp at h
  | x :: l, h => fun i a b hi ha hb => by
    have h' := rises_cons.1 h
    cases i with
    | zero =>
      simp at ha hb
      subst ha
      exact h'.1 b (List.mem_of_getElem? hb)
    | succ i => exact adj_of_rises l h'.2 i a b (by simp at hi; omega) (by simpa using ha) (by simpa using hb)

end Go.Proofs.YtaepdbkfaoiimabGreatDoor
/- The contracts of the reference's store: After, WriteFault, Write. Conditions: lists of at most a million entries. -/
set_option linter.unusedVariables false
set_option linter.unusedSimpArgs false
namespace Go.Proofs.YtaepdbkfaoiimabGreatDoor
open Go.RowKit
/-- The reference's store lies in block m and has these rows. -/
structure RS (B : Nat) (W : World) (m : Nat) (r : List Ent) : Prop where
  blk : ∃ v, Blk W m 33 #[v] ∧ Ents B W v r
  ge : B ≤ m
section
variable {B m : Nat} {w w' : World} {r : List Ent}
theorem RS.below (h : RS B w m r) (hb : Below w.heap.size w w') : RS B w' m r := by
  obtain ⟨⟨v, h1, h2⟩, h3⟩ := h
  exact ⟨⟨v, h1.below hb h1.lt, h2.below hb⟩, h3⟩
theorem RS.drewN (h : RS B w m r) (n : Nat) : RS B (w.drewN n) m r := h.below (below_drewN' (Below.refl _ _) n)
theorem RS.lt (h : RS B w m r) : m < w.heap.size := by obtain ⟨⟨v, h1, _⟩, _⟩ := h; exact h1.lt
/-- What another store does leaves it. -/
theorem RS.fr {M : Nat → Prop} (h : RS B w m r) (hf : Fr B M w w') (hM : ¬ M m) : RS B w' m r := by
  obtain ⟨⟨v, h1, h2⟩, h3⟩ := h
  exact ⟨⟨v, h1.fr hf (.inr (.inl hM)), h2.fr hf⟩, h3⟩
end
set_option maxHeartbeats 2000000 in
theorem rafter_any (B m : Nat) (v : Value) (r l : List Ent) (w : World) (hm : RS B w m r) (hl : Ents B w v l) (hn : r.length + l.length ≤ 1000000) :
    Calls Tryz.prog 37 #[.pointer (some ⟨m, 0, none⟩), v] w fun e w' => ∃ u, e = .returned u ∧ Ents B w' u (liveE (l.foldl putE r)) ∧ Below w.heap.size w w' := by
  obtain ⟨A, cp, rfl, hc1, hc2, _⟩ := hl.form
  obtain ⟨⟨vr, hmb, hvr⟩, hBm⟩ := hm
  have HL := Lib.hid hl
  have HR := Lib.hid hvr
  have x0 := hmb.cell 0
  simp at x0
  clear hmb hl hvr
  go_enter Tryz.func37, Tryz.ntmps37
  go_wp2_with fail
  go_loopw [5, 6] (fun u i wr => ∃ k : Nat, i = .int .i64 (k : Int) ∧ k ≤ l.length ∧ Hid (Ents B wr u ((l.take k).foldl putE r)) ∧ Hid (Below w.heap.size w wr)) (fun _ i _ => l.length - (intOf i).toNat)
  case atStart => exact ⟨0, rfl, Nat.zero_le _, HR.out, Below.refl _ _⟩
  case round =>
    obtain ⟨k, rfl, hk, hu, hbl⟩ := hrel
    by_cases hlt : k < l.length
    · obtain ⟨y, hy, hty, _⟩ := getElem?_of_lt hlt
      obtain ⟨A', cp', e, _, _, hcell⟩ := (HL.out.below hbl.out).form
      cases e
      obtain ⟨bb, oo, rfl, hbb, y1, y2, y3⟩ := hcell k y hy
      have hyok := HL.out.2 y (List.mem_of_getElem? hy)
      have HNX : Hid ((l.take (k + 1)).foldl putE r = putE ((l.take k).foldl putE r) y) := by
        rw [Hid, hty, List.foldl_append]; rfl
      have hal : ((l.take k).foldl putE r).length ≤ 1000000 := by
        have h1 := foldl_put_len (l.take k) r
        have h2 : (l.take k).length ≤ l.length := List.length_take_le' _ _
        omega
      have HP := Lib.hid (rput_any B u5 ((l.take k).foldl putE r) y wr hu.out hal hyok)
      have g1 : (0 : Int) ≤ (k : Int) := by omega
      have g2 : (k : Int) < (l.length : Int) := by omega
      clear hcell hy hty hyok
      go_wp2_with fail
      refine HP.out.mono ?_
      rintro e w5 ⟨v5, rfl, hv5, hb5⟩
      rw [← HNX.out] at hv5
      have HV5 := Lib.hid hv5
      have HB5 := Lib.hid (hbl.out.trans (hb5.mono hbl.out.size))
      clear hv5 hb5 HP
      go_wp2_with fail
      go_roundw
      case rel => exact ⟨k + 1, by go_num, by omega, HV5.out, HB5.out⟩
      case measure => simp [intOf] <;> omega
    · obtain rfl : k = l.length := by omega
      have g2 : decide ((l.length : Int) < (l.length : Int)) = false := by simp
      rw [List.take_length] at hu
      have hal := foldl_put_len l r
      generalize hR : l.foldl putE r = R at *
      have HLV := Lib.hid (rlive_any B u5 R wr hu.out (by omega))
      go_wp2_with fail
      refine HLV.out.mono ?_
      rintro e w5 ⟨v5, rfl, hv5, hb5⟩
      have HB5 := Lib.hid (hbl.out.trans (hb5.mono hbl.out.size))
      have HV5 := Lib.hid hv5
      clear hv5 hb5 HLV
      go_wp2_with fail
      go_ret
      exact ⟨_, rfl, by rw [hR]; exact HV5.out, HB5.out⟩
set_option maxHeartbeats 2000000 in
theorem rwfault_any (B m : Nat) (v : Value) (r l : List Ent) (w : World) (hm : RS B w m r) (hl : Ents B w v l) (hn : r.length ≤ 1000) :
    Calls Tryz.prog 36 #[.pointer (some ⟨m, 0, none⟩), v] w fun e w' => e = .returned (.int .i64 (checkR r l)) ∧ Below w.heap.size w w' := by
  obtain ⟨A, cp, rfl, hc1, hc2, _⟩ := hl.form
  by_cases hn4 : l.length = 0 ∨ 4 < l.length
  · have HF : Hid (checkR r l = 2) := if_pos hn4
    clear hm hl
    by_cases h0 : l.length = 0
    · have t9 : decide ((l.length : Int) < 1) = true := decide_eq_true (by omega)
      clear hn4
      go_enter Tryz.func36, Tryz.ntmps36
      go_wp2_with fail
      go_ret
      exact ⟨by rw [HF.out]; rfl, Below.refl _ _⟩
    · have t9 : decide ((l.length : Int) < 1) = false := decide_eq_false (by omega)
      have t13 : decide ((4 : Int) < (l.length : Int)) = true := decide_eq_true (by omega)
      clear hn4
      go_enter Tryz.func36, Tryz.ntmps36
      go_wp2_with fail
      go_ret
      exact ⟨by rw [HF.out]; rfl, Below.refl _ _⟩
  have HC0 : Hid (checkR r l = if bytesF l ≠ 0 then bytesF l else if 40 < (liveE (l.foldl putE r)).length then 8 else 0) := if_neg hn4
  have t9 : decide ((l.length : Int) < 1) = false := decide_eq_false (by omega)
  have t13 : decide ((4 : Int) < (l.length : Int)) = false := decide_eq_false (by omega)
  have hl4 : l.length ≤ 4 := by omega
  have HBY := Lib.hid (rbytes_any B _ l w hl (by omega))
  have HAF := Lib.hid (fun W (hW : Below w.heap.size w W) => rafter_any B m _ r l W (hm.below hW) (hl.below hW) (by omega))
  clear hn4 hm hl
  by_cases hb : bytesF l = 0
  case neg =>
    have HF : Hid (checkR r l = bytesF l) := by rw [Hid, HC0.out, if_pos hb]
    have t21 : decide ((0 : Int) < (bytesF l : Int)) = true := decide_eq_true (by omega)
    have t21n : decide (0 < bytesF l) = true := decide_eq_true (by omega)
    clear hb HC0 HAF
    go_enter Tryz.func36, Tryz.ntmps36
    go_wp2_with fail
    refine HBY.out.mono ?_
    rintro e w1 ⟨rfl, hb1⟩
    go_wp2_with fail
    go_ret
    exact ⟨by rw [HF.out]; rfl, hb1⟩
  have HF0 : Hid (checkR r l = if 40 < (liveE (l.foldl putE r)).length then 8 else 0) := by rw [Hid, HC0.out, if_neg (by simp [hb])]
  rw [hb] at HBY
  clear hb HC0
  go_enter Tryz.func36, Tryz.ntmps36
  go_wp2_with fail
  refine HBY.out.mono ?_
  rintro e w1 ⟨rfl, hb1⟩
  have HB1 := Lib.hid hb1
  have HA1 := Lib.hid (HAF.out w1 hb1)
  clear hb1 HBY HAF
  generalize liveE (l.foldl putE r) = R at *
  by_cases h40 : 40 < R.length
  · have t27 : decide ((40 : Int) < (R.length : Int)) = true := decide_eq_true (by omega)
    have HF : Hid (checkR r l = 8) := by rw [Hid, HF0.out, if_pos h40]
    clear h40
    go_wp2_with fail
    refine HA1.out.mono ?_
    rintro e w5 ⟨v5, rfl, hv5, hb5⟩
    obtain ⟨A5, c5, rfl, _, _, kX⟩ := hv5.form
    have HB5 := Lib.hid (HB1.out.trans (hb5.mono HB1.out.size))
    clear hv5 hb5 kX HA1
    go_wp2_with fail
    go_ret
    exact ⟨by rw [HF.out]; rfl, HB5.out⟩
  · have t27 : decide ((40 : Int) < (R.length : Int)) = false := decide_eq_false (by omega)
    have HF : Hid (checkR r l = 0) := by rw [Hid, HF0.out, if_neg h40]
    clear h40
    go_wp2_with fail
    refine HA1.out.mono ?_
    rintro e w5 ⟨v5, rfl, hv5, hb5⟩
    obtain ⟨A5, c5, rfl, _, _, kX⟩ := hv5.form
    have HB5 := Lib.hid (HB1.out.trans (hb5.mono HB1.out.size))
    clear hv5 hb5 kX HA1
    go_wp2_with fail
    go_ret
    exact ⟨by rw [HF.out]; rfl, HB5.out⟩
set_option maxHeartbeats 2000000 in
theorem rwrite_any (B m : Nat) (v : Value) (r l : List Ent) (w : World) (hm : RS B w m r) (hl : Ents B w v l) (hn : r.length ≤ 1000) :
    Calls Tryz.prog 16 #[.pointer (some ⟨m, 0, none⟩), v] w fun e w' => e = .returned (.int .i64 (checkR r l)) ∧ RS B w' m (rowsW r l) ∧ Fr B (· = m) w w' := by
  obtain ⟨A, cp, rfl, hc1, hc2, _⟩ := hl.form
  have HWF := Lib.hid (rwfault_any B m _ r l w hm hl hn)
  by_cases h0 : checkR r l = 0
  case neg =>
    have t10 : decide ((0 : Int) < (checkR r l : Int)) = true := decide_eq_true (by omega)
    have t10n : decide (0 < checkR r l) = true := decide_eq_true (by omega)
    have HF : Hid (rowsW r l = r) := if_neg h0
    have HM := Lib.hid hm
    clear h0 hm hl
    go_enter Tryz.func16, Tryz.ntmps16
    go_wp2_with fail
    refine HWF.out.mono ?_
    rintro e w1 ⟨rfl, hb1⟩
    go_wp2_with fail
    go_ret
    exact ⟨rfl, by rw [HF.out]; exact HM.out.below hb1, Fr.of_below hb1⟩
  have hl4 : l.length ≤ 4 := by
    by_cases h : l.length = 0 ∨ 4 < l.length
    · rw [checkR, if_pos h] at h0; cases h0
    · omega
  have HF : Hid (rowsW r l = liveE (l.foldl putE r)) := if_pos h0
  have HAF := Lib.hid (fun W (hW : Below w.heap.size w W) => rafter_any B m _ r l W (hm.below hW) (hl.below hW) (by omega))
  have HM := Lib.hid hm
  rw [h0] at HWF ⊢
  clear h0 hm hl
  go_enter Tryz.func16, Tryz.ntmps16
  go_wp2_with fail
  refine HWF.out.mono ?_
  rintro e w1 ⟨rfl, hb1⟩
  have HB1 := Lib.hid hb1
  have HA1 := Lib.hid (HAF.out w1 hb1)
  clear hb1 HWF HAF
  go_wp2_with fail
  refine HA1.out.mono ?_
  rintro e w5 ⟨v5, rfl, hv5, hb5⟩
  obtain ⟨A5, c5, rfl, _, _, kX⟩ := hv5.form
  have hb05 := HB1.out.trans (hb5.mono HB1.out.size)
  obtain ⟨⟨vr, hmb, hvr⟩, hBm⟩ := HM.out.below hb05
  have hmlt := hmb.lt
  have x0 := hmb.cell 0
  have f0 := hmb.frozen 0
  simp at x0
  have HMB := Lib.hid hmb
  have HV5 := Lib.hid hv5
  have HB5 := Lib.hid hb05
  clear hmb hvr hv5 hb5 hb05 kX HA1
  go_wp2_with fail
  go_ret
  refine ⟨rfl, ⟨⟨_, HMB.out.set_ 0 _, ?_⟩, hBm⟩, ?_⟩
  · rw [HF.out]
    exact ⟨Rd.far' HV5.out.1 HMB.out hBm (by decide) _, HV5.out.2⟩
  · obtain ⟨⟨vq, hq, _⟩, _⟩ := HM.out
    exact (Fr.of_below HB5.out (M := (· = m))).setCell (p := ⟨m, 0, none⟩) hBm (.inl rfl) (fun _ => ⟨_, _, _, hq, by decide⟩) _
section
variable {B q p k j m : Nat} {w w' : World} {c : Chip} {s : SM} {F : List Nat} {r : List Ent}
/-- The reference's store lies in a block of its own. -/
theorem RS.apart (h : RS B w m r) (hs : StS B w q p k j c s F) : ∀ b ∈ q :: p :: F, b ≠ m := by
  obtain ⟨⟨v, hb, _⟩, _⟩ := h
  intro b hm e
  subst e
  rcases List.mem_cons.1 hm with rfl | hm
  · obtain ⟨A1, c1, A2, c2, t, n, h1, _⟩ := hs.st
    exact blk_ne hb h1 (by decide)
  rcases List.mem_cons.1 hm with rfl | hm
  · obtain ⟨V, u, hv, _⟩ := hs.ch
    exact blk_ne hb hv.blk (by decide)
  · obtain ⟨A1, c1, A2, c2, t, n, _, _, _, h4, _⟩ := hs.st
    exact h4.type hb (by decide) (by decide) hm
/-- What the store does leaves the reference's. -/
theorem RS.sto (h : RS B w m r) (hs : StS B w q p k j c s F) (hf : Fr B (· ∈ q :: p :: F) w w') : RS B w' m r :=
  h.fr hf fun (hm : m ∈ q :: p :: F) => h.apart hs m hm rfl
/-- What the reference's store does leaves the store. -/
theorem StS.ref (hs : StS B w q p k j c s F) (h : RS B w m r) (hf : Fr B (· = m) w w') : StS B w' q p k j c s F := by
  have ha := h.apart hs
  exact ⟨hs.st.fr hf fun b hb e => ha b (by rcases List.mem_cons.1 hb with h1 | h1 <;> simp [h1]) e, hs.ch.keep hf fun e => ha p (by simp) e, hs.ok⟩
theorem RS.new {v : Value} (hv : Ents B w v r) (hB : B ≤ w.heap.size) : RS B (w.alloc (.cells #[v] 33)) w.heap.size r :=
  ⟨⟨v, Blk.new w _ _, hv.below ((Below.refl _ _).alloc (Nat.le_refl _) _)⟩, hB⟩
end
end Go.Proofs.YtaepdbkfaoiimabGreatDoor
