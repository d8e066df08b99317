/- The contracts of package merge: Two, All, Live. Conditions: lists of at most a million entries. -/
import Derived.Test.YtaepdbkfaoiimaaOrd
import Derived.Test.YtaepdbkfaoiimaaLss
import Derived.Test.YtaepdbkfaoiimaaChecked
set_option linter.unusedVariables false
set_option linter.unusedSimpArgs false
namespace Go.Proofs.Ytaepdbkfaoiimaa
open Go.RowKit

def lenOf : Value → Nat
  | .slice _ n _ => n
  | _ => 0

theorem info_entry : (Try.prog.info? 35).map (fun i => (i.zero, i.size, i.bytes)) = some (some (.agg #[.string ByteArray.empty, .string ByteArray.empty, .bool false]), 3, 40) := by kernel_rfl

/-- A slice of one entry, laid just now. -/
theorem rd_lit (B : Nat) (w : World) (e : Ent) : Rd B 35 3 (w.alloc (.cells #[.string e.k, .string e.v, .bool e.g] 35)) (.slice (some ⟨w.heap.size, 0, none⟩) 1 1) 1 e.cells := by
  have hb := Blk.new w 35 #[.string e.k, .string e.v, .bool e.g]
  refine ⟨rfl, _, _, rfl, Nat.le_refl _, by omega, fun _ => ⟨_, _, rfl, .inr ⟨_, _, hb⟩, hb.lt, fun j u hu => ?_⟩⟩
  rw [hb.cell]
  match j, hu with
  | 0, hu => exact hu
  | 1, hu => exact hu
  | 2, hu => exact hu
theorem rd_lit3 (B : Nat) (w : World) (n : Nat) (hn : w.heap.size = n) (k v : ByteArray) (g : Bool) : Rd B 35 3 (w.alloc (.cells #[.string k, .string v, .bool g] 35)) (.slice (some ⟨n, 0, none⟩) 1 1) 1 [.string k, .string v, .bool g] := by
  subst hn; exact rd_lit B w ⟨k, v, g⟩
theorem ent_one3 (k v : ByteArray) (g : Bool) : ∀ u ∈ [Value.string k, .string v, .bool g], u.oneCell' = true := by simp [Value.oneCell']
theorem ent_one (e : Ent) : ∀ u ∈ e.cells, u.oneCell' = true := by
  intro u hu
  simp only [Ent.cells, List.mem_cons, List.not_mem_nil, or_false] at hu
  rcases hu with rfl | rfl | rfl <;> rfl

set_option maxHeartbeats 1000000 in
theorem two_own (B : Nat) (a b : Value) (la lb : List Ent) (w : World) (ha : Ents B w a la) (hb : Ents B w b lb) (h1 : la.length ≤ 1000000) (h2 : lb.length ≤ 1000000) :
    Calls Try.prog 17 #[a, b] w fun e w' => ∃ v, e = .returned v ∧ w'.ownsRow w.heap.size 35 3 v (merge2 la lb).length ((merge2 la lb).flatMap Ent.cells) ∧ Below w.heap.size w w' := by
  go_enter Try.func17, Try.ntmps17
  have HA : Hid (Ents B w a la) := ha
  have HB : Hid (Ents B w b lb) := hb
  clear ha hb
  go_wp2
  go_loopw [0, 1, 5] (fun a b l wr => ∃ (xs ys zs : List Ent), Hid (Ents B w a xs) ∧ Hid (Ents B w b ys) ∧ xs.length ≤ 1000000 ∧ ys.length ≤ 1000000 ∧ zs.length + xs.length + ys.length ≤ 2000000 ∧ Hid (wr.ownsRow w.heap.size 35 3 l zs.length (zs.flatMap Ent.cells)) ∧ Hid (merge2 la lb = zs ++ merge2 xs ys) ∧ Below w.heap.size w wr) (fun a b _ _ => lenOf a + lenOf b)
  case atStart => exact ⟨la, lb, [], HA, HB, h1, h2, by simp; omega, World.ownsRow_nil _ _ _ _, rfl, Below.refl _ _⟩
  case round =>
    obtain ⟨xs, ys, zs, hA, hB, hx, hy, hxyz, hown, hm, hbl⟩ := hrel
    clear HA HB h1 h2
    cases xs with
    | nil =>
      cases ys with
      | nil =>
        obtain ⟨A, c, rfl, hc, hc2, _⟩ := hA.out.form
        obtain ⟨A', c', rfl, hc', hc2', _⟩ := hB.out.form
        go_wp2
        go_ret
        refine ⟨_, rfl, ?_, hbl⟩
        have e : merge2 la lb = zs := by rw [hm.out]; simp [merge2]
        rw [e]
        exact hown.out
      | cons y ys =>
        obtain ⟨A, c, rfl, hc, hc2, _⟩ := hA.out.form
        obtain ⟨A', c', rfl, hc', hc2', hcell⟩ := hB.out.form
        obtain ⟨b, o, rfl, hbs, c1, c2, c3⟩ := hcell 0 y rfl
        have d1 := (hbl.cell (p := ⟨b, o + 0 * 3, none⟩) hbs).trans c1
        have d2 := (hbl.cell (p := ⟨b, o + 0 * 3 + 1, none⟩) hbs).trans c2
        have d3 := (hbl.cell (p := ⟨b, o + 0 * 3 + 2, none⟩) hbs).trans c3
        clear hcell c1 c2 c3
        simp only [Nat.zero_mul, Nat.add_zero] at d1 d2 d3
        simp only [List.length_cons, List.length_nil] at *
        have t1 : ((ys.length : Int) + 1 == 0) = false := by rw [beq_eq_false_iff_ne]; omega
        go_wp2_with fail
        go_quiet (fail)
        revert nq; intro n1
        go_wp2_with fail
        go_quiet (fail)
        revert nq; intro n2
        obtain ⟨i0, hi, hz0, hz1, hz2⟩ := info_parts info_entry
        have hbs := hbl.size
        have hown' := Lib.hid ((own_alloc (own_drewN hown.out (n1 + n2)) (.cells #[.string y.k, .string y.v, .bool y.g] 35)))
        go_wp2_with (at_builtin; go_loud (refine wpList_append_rd _ rfl (.tmp 67) (.tmp 71) 32 rfl w.heap.size 35 i0 _ 3 40 Try.underlying32 hi hz0 hz1 hz2 rfl (by decide) u5 _ _ rfl hown'.out B 35 _ 1 y.cells rfl (rd_lit _ _ y) (ent_one y) (by unfold maxLen; omega) (by omega) (by simp; omega) ?_); intro v1 w1 hown1 hg1 hat1)
        have hb1 := below_own ((below_drewN' hbl (n1 + n2)).alloc hbs _) (Nat.le_refl _) hown'.out hg1
        have hcut := Lib.hid hB.out.cut
        have hown2 : Hid (w1.ownsRow w.heap.size 35 3 v1 (zs ++ [y]).length ((zs ++ [y]).flatMap Ent.cells)) := by
          rw [Hid]; simpa using hown1
        have hm2 : Hid (merge2 la lb = (zs ++ [y]) ++ merge2 [] ys) := by
          rw [Hid, hm.out]; simp [merge2]
        clear hi hz0 hz1 hz2 hg1 hat1 hown1
        go_roundw
        case rel => exact ⟨[], ys, zs ++ [y], hA, hcut, by omega, by omega, by simp; omega, hown2, hm2, hb1⟩
        case measure => simp [lenOf]
    | cons x xs =>
      obtain ⟨A, c, rfl, hc, hc2, hcellx⟩ := hA.out.form
      obtain ⟨bx, ox, rfl, hbx, x1, x2, x3⟩ := hcellx 0 x rfl
      have g1 := (hbl.cell (p := ⟨bx, ox + 0 * 3, none⟩) hbx).trans x1
      have g2 := (hbl.cell (p := ⟨bx, ox + 0 * 3 + 1, none⟩) hbx).trans x2
      have g3 := (hbl.cell (p := ⟨bx, ox + 0 * 3 + 2, none⟩) hbx).trans x3
      clear hcellx x1 x2 x3
      have hcutx := Lib.hid hA.out.cut
      cases ys with
      | nil =>
        obtain ⟨A', c', rfl, hc', hc2', _⟩ := hB.out.form
        simp only [Nat.zero_mul, Nat.add_zero] at g1 g2 g3
        simp only [List.length_cons, List.length_nil] at *
        go_wp2_with fail
        go_quiet (fail)
        revert nq; intro n1
        obtain ⟨i0, hi, hz0, hz1, hz2⟩ := info_parts info_entry
        have hbs := hbl.size
        have hown' := Lib.hid ((own_alloc (own_drewN hown.out (n1)) (.cells #[.string x.k, .string x.v, .bool x.g] 35)))
        go_wp2_with (at_builtin; go_loud (refine wpList_append_rd _ rfl (.tmp 44) (.tmp 48) 32 rfl w.heap.size 35 i0 _ 3 40 Try.underlying32 hi hz0 hz1 hz2 rfl (by decide) u5 _ _ rfl hown'.out B 35 _ 1 x.cells rfl (rd_lit _ _ x) (ent_one x) (by unfold maxLen; omega) (by omega) (by simp; omega) ?_); intro v1 w1 hown1 hg1 hat1)
        have hb1 := below_own ((below_drewN' hbl (n1)).alloc hbs _) (Nat.le_refl _) hown'.out hg1
        have hown2 : Hid (w1.ownsRow w.heap.size 35 3 v1 (zs ++ [x]).length ((zs ++ [x]).flatMap Ent.cells)) := by
          rw [Hid]; simpa using hown1
        have hm2 : Hid (merge2 la lb = (zs ++ [x]) ++ merge2 xs []) := by
          rw [Hid, hm.out]; cases xs <;> simp [merge2]
        clear hi hz0 hz1 hz2 hg1 hat1 hown1
        go_roundw
        case rel => exact ⟨xs, [], zs ++ [x], hcutx, hB, by omega, by simp, by simp; omega, hown2, hm2, hb1⟩
        case measure => simp [lenOf]
      | cons y ys =>
        obtain ⟨A', c', rfl, hc', hc2', hcell⟩ := hB.out.form
        obtain ⟨b, o, rfl, hbs, c1, c2, c3⟩ := hcell 0 y rfl
        have d1 := (hbl.cell (p := ⟨b, o + 0 * 3, none⟩) hbs).trans c1
        have d2 := (hbl.cell (p := ⟨b, o + 0 * 3 + 1, none⟩) hbs).trans c2
        have d3 := (hbl.cell (p := ⟨b, o + 0 * 3 + 2, none⟩) hbs).trans c3
        clear hcell c1 c2 c3
        have hcuty := Lib.hid hB.out.cut
        simp only [Nat.zero_mul, Nat.add_zero] at d1 d2 d3 g1 g2 g3
        simp only [List.length_cons, List.length_nil] at *
        have t1 : ((ys.length : Int) + 1 == 0) = false := by rw [beq_eq_false_iff_ne]; omega
        have t2 : ((xs.length : Int) + 1 == 0) = false := by rw [beq_eq_false_iff_ne]; omega
        have t3 : decide ((0 : Int) < (xs.length : Int) + 1) = true := decide_eq_true (by omega)
        by_cases l1 : ltB x.k y.k = true
        · have l1' : Op.bytesLess x.k.toList y.k.toList = true := l1
          have hm2 : Hid (merge2 la lb = (zs ++ [x]) ++ merge2 xs (y :: ys)) := by
            rw [Hid, hm.out, merge2, if_pos l1]; simp
          clear l1
          go_wp2_with fail
          go_quiet (fail)
          revert nq; intro n1
          obtain ⟨i0, hi, hz0, hz1, hz2⟩ := info_parts info_entry
          have hbs := hbl.size
          have hown' := Lib.hid ((own_alloc (own_drewN hown.out (n1)) (.cells #[.string x.k, .string x.v, .bool x.g] 35)))
          go_wp2_with (at_builtin; go_loud (refine wpList_append_rd _ rfl (.tmp 44) (.tmp 48) 32 rfl w.heap.size 35 i0 _ 3 40 Try.underlying32 hi hz0 hz1 hz2 rfl (by decide) u5 _ _ rfl hown'.out B 35 _ 1 x.cells rfl (rd_lit _ _ x) (ent_one x) (by unfold maxLen; omega) (by omega) (by simp; omega) ?_); intro v1 w1 hown1 hg1 hat1)
          have hb1 := below_own ((below_drewN' hbl (n1)).alloc hbs _) (Nat.le_refl _) hown'.out hg1
          have hown2 : Hid (w1.ownsRow w.heap.size 35 3 v1 (zs ++ [x]).length ((zs ++ [x]).flatMap Ent.cells)) := by
            rw [Hid]; simpa using hown1
          clear hi hz0 hz1 hz2 hg1 hat1 hown1
          go_roundw
          case rel => exact ⟨xs, y :: ys, zs ++ [x], hcutx, hB, by omega, by simp; omega, by simp; omega, hown2, hm2, hb1⟩
          case measure => simp [lenOf]
        · have l1' : Op.bytesLess x.k.toList y.k.toList = false := by simpa [ltB] using l1
          by_cases l2 : ltB y.k x.k = true
          · have l2' : Op.bytesLess y.k.toList x.k.toList = true := l2
            have hm2 : Hid (merge2 la lb = (zs ++ [y]) ++ merge2 (x :: xs) ys) := by
              rw [Hid, hm.out, merge2, if_neg l1, if_pos l2]; simp
            clear l1 l2
            go_wp2_with fail
            go_quiet (fail)
            revert nq; intro n1
            go_wp2_with fail
            go_quiet (fail)
            revert nq; intro n2
            obtain ⟨i0, hi, hz0, hz1, hz2⟩ := info_parts info_entry
            have hbs := hbl.size
            have hown' := Lib.hid ((own_alloc (own_drewN hown.out (n1 + n2)) (.cells #[.string y.k, .string y.v, .bool y.g] 35)))
            go_wp2_with (at_builtin; go_loud (refine wpList_append_rd _ rfl (.tmp 67) (.tmp 71) 32 rfl w.heap.size 35 i0 _ 3 40 Try.underlying32 hi hz0 hz1 hz2 rfl (by decide) u5 _ _ rfl hown'.out B 35 _ 1 y.cells rfl (rd_lit _ _ y) (ent_one y) (by unfold maxLen; omega) (by omega) (by simp; omega) ?_); intro v1 w1 hown1 hg1 hat1)
            have hb1 := below_own ((below_drewN' hbl (n1 + n2)).alloc hbs _) (Nat.le_refl _) hown'.out hg1
            have hown2 : Hid (w1.ownsRow w.heap.size 35 3 v1 (zs ++ [y]).length ((zs ++ [y]).flatMap Ent.cells)) := by
              rw [Hid]; simpa using hown1
            clear hi hz0 hz1 hz2 hg1 hat1 hown1
            go_roundw
            case rel => exact ⟨x :: xs, ys, zs ++ [y], hA, hcuty, by simp; omega, by omega, by simp; omega, hown2, hm2, hb1⟩
            case measure => simp [lenOf]
          · have l2' : Op.bytesLess y.k.toList x.k.toList = false := by simpa [ltB] using l2
            have hm2 : Hid (merge2 la lb = (zs ++ [x]) ++ merge2 xs ys) := by
              rw [Hid, hm.out, merge2, if_neg l1, if_neg l2]; simp
            clear l1 l2
            go_wp2_with fail
            go_quiet (fail)
            revert nq; intro n1
            go_wp2_with fail
            go_quiet (fail)
            revert nq; intro n2
            obtain ⟨i0, hi, hz0, hz1, hz2⟩ := info_parts info_entry
            have hbs := hbl.size
            have hown' := Lib.hid ((own_alloc (own_drewN hown.out (n1 + n2)) (.cells #[.string x.k, .string x.v, .bool x.g] 35)))
            go_wp2_with (at_builtin; go_loud (refine wpList_append_rd _ rfl (.tmp 14) (.tmp 18) 32 rfl w.heap.size 35 i0 _ 3 40 Try.underlying32 hi hz0 hz1 hz2 rfl (by decide) u5 _ _ rfl hown'.out B 35 _ 1 x.cells rfl (rd_lit _ _ x) (ent_one x) (by unfold maxLen; omega) (by omega) (by simp; omega) ?_); intro v1 w1 hown1 hg1 hat1)
            have hb1 := below_own ((below_drewN' hbl (n1 + n2)).alloc hbs _) (Nat.le_refl _) hown'.out hg1
            have hown2 : Hid (w1.ownsRow w.heap.size 35 3 v1 (zs ++ [x]).length ((zs ++ [x]).flatMap Ent.cells)) := by
              rw [Hid]; simpa using hown1
            clear hi hz0 hz1 hz2 hg1 hat1 hown1
            go_quiet (fail)
            go_wp2_with fail
            go_roundw
            case rel => exact ⟨xs, ys, zs ++ [x], hcutx, hcuty, by omega, by omega, by simp; omega, hown2, hm2, below_drewN' hb1 _⟩
            case measure => simp [lenOf] <;> omega

theorem two_any (B : Nat) (a b : Value) (la lb : List Ent) (w : World) (ha : Ents B w a la) (hb : Ents B w b lb) (h1 : la.length ≤ 1000000) (h2 : lb.length ≤ 1000000) :
    Calls Try.prog 17 #[a, b] w fun e w' => ∃ v, e = .returned v ∧ Ents B w' v (merge2 la lb) ∧ Below w.heap.size w w' :=
  (two_own B a b la lb w ha hb h1 h2).mono fun e w' ⟨v, he, hown, hbl⟩ => ⟨v, he, ⟨Rd.of_own hown, ok_merge2 ha.2 hb.2⟩, hbl⟩

set_option maxHeartbeats 1000000 in
theorem all_any (B : Nat) (v : Value) (ls : List (List Ent)) (w : World) (h : Lss B w v ls) (hs : sumLen ls ≤ 1000000) (hn : ls.length ≤ 1000000) :
    Calls Try.prog 20 #[v] w fun e w' => ∃ u, e = .returned u ∧ Ents B w' u (mergeAll ls) ∧ Below w.heap.size w w' := by
  obtain ⟨A, c, rfl, hc, hc2, hcell⟩ := h.form
  have HC := Lib.hid hcell
  clear hcell h
  have HS : Hid (sumLen ls ≤ 1000000) := hs
  clear hs
  go_enter Try.func20, Try.ntmps20
  go_wp2_with fail
  go_loopw [3, 4] (fun l i wr => ∃ k : Nat, k ≤ ls.length ∧ i = .int .i64 ((k : Int) - 1) ∧ Hid (Ents B wr l (mergeAll (ls.drop k))) ∧ Below w.heap.size w wr) (fun _ i _ => (intOf i + 1).toNat)
  case atStart => exact ⟨ls.length, Nat.le_refl _, by go_num, by rw [List.drop_length]; exact ⟨Rd.nil _ _ _ _, by simp [mergeAll]⟩, Below.refl _ _⟩
  case round =>
    obtain ⟨k, hk, rfl, hl, hbl⟩ := hrel
    cases k with
    | zero =>
      go_wp2_with fail
      go_ret
      exact ⟨_, rfl, hl.out, hbl⟩
    | succ k =>
      obtain ⟨x, hx, _, hdr⟩ := getElem?_of_lt (l := ls) (k := k) (by omega)
      obtain ⟨b, o, u, rfl, hb, hcell, hents⟩ := HC.out k x hx
      have hcell' := (hbl.cell (p := ⟨b, o + k, none⟩) hb).trans hcell
      have hx2 := Nat.le_trans (sumLen_mem (List.mem_of_getElem? hx)) HS.out
      have hd2 := Nat.le_trans (Nat.le_trans (mergeAll_len (ls.drop (k + 1))) (sumLen_drop ls (k + 1))) HS.out
      have HH := Lib.hid (two_any B u _ x _ _ (hents.below hbl) hl.out hx2 hd2)
      have HD := Lib.hid hdr
      clear hcell hents hx hx2 hd2 hdr
      have e1 : (((k + 1 : Nat) : Int) - 1) = (k : Int) := by omega
      rw [e1]
      clear e1
      go_wp2_with (go_at_call 17; refine HH.out.mono ?_; rintro e w1 ⟨v1, rfl, he1, hb1⟩)
      go_roundw
      case rel => exact ⟨k, by omega, by go_num, by rw [HD.out]; exact he1, hbl.trans (hb1.mono hbl.size)⟩
      case measure => simp [intOf] <;> omega

set_option maxHeartbeats 1000000 in
theorem live_any (B : Nat) (v : Value) (l : List Ent) (w : World) (h : Ents B w v l) (hn : l.length ≤ 1000000) :
    Calls Try.prog 22 #[v] w fun e w' => ∃ u, e = .returned u ∧ Ents B w' u (liveE l) ∧ Below w.heap.size w w' := by
  obtain ⟨A, c, rfl, hc, hc2, hcell⟩ := h.form
  have HC := Lib.hid hcell
  have HO : Hid (∀ e ∈ l, EntOk e) := h.2
  clear hcell h
  go_enter Try.func22, Try.ntmps22
  go_wp2_with fail
  go_loopw [3, 8] (fun u i wr => ∃ k m : Nat, k ≤ l.length ∧ i = .int .i64 k ∧ m ≤ k ∧ ∃ zs : List Ent, Hid (zs = liveE (l.take k)) ∧ Hid (zs.length = m) ∧ Hid (wr.ownsRow w.heap.size 35 3 u zs.length (zs.flatMap Ent.cells)) ∧ Below w.heap.size w wr) (fun _ i _ => l.length - (intOf i).toNat)
  case atStart => exact ⟨0, 0, Nat.zero_le _, rfl, Nat.le_refl _, [], rfl, rfl, World.ownsRow_nil _ _ _ _, Below.refl _ _⟩
  case round =>
    obtain ⟨k, m, hk, rfl, hmk, zs, hz, hzl, hown, hbl⟩ := hrel
    by_cases hlt : k < l.length
    · obtain ⟨x, hx, htk, _⟩ := getElem?_of_lt hlt
      obtain ⟨b, o, rfl, hb, c1, c2, c3⟩ := HC.out k x hx
      have d1 := (hbl.cell (p := ⟨b, o + k * 3, none⟩) hb).trans c1
      have d2 := (hbl.cell (p := ⟨b, o + k * 3 + 1, none⟩) hb).trans c2
      have d3 := (hbl.cell (p := ⟨b, o + k * 3 + 2, none⟩) hb).trans c3
      have HT := Lib.hid htk
      clear htk hx c1 c2 c3
      cases hg : x.g
      · obtain ⟨i0, hi, hz0, hz1, hz2⟩ := info_parts info_entry
        have hbs := hbl.size
        rw [hg] at d3
        have hown' := Lib.hid (own_alloc (own_alloc hown.out (.cells #[.string x.k, .string x.v, .bool false] 35)) (.cells #[.string x.k, .string x.v, .bool false] 35))
        have hzl' := hzl.out
        have hzm : zs.length ≤ 1000000 := by omega
        clear hzl'
        have hb0 := (hbl.alloc hbs (.cells #[.string x.k, .string x.v, .bool false] 35)).alloc (by simp; omega) (.cells #[.string x.k, .string x.v, .bool false] 35)
        have hlit := rd_lit3 B (wr.alloc (.cells #[.string x.k, .string x.v, .bool false] 35)) (wr.heap.size + 1) (by simp) x.k x.v false
        have HL := Lib.hid hlit
        have HB0 := Lib.hid hb0
        clear hlit hb0
        go_wp2_with (at_builtin; go_loud (refine wpList_append_rd _ rfl (.tmp 15) (.tmp 17) 32 rfl w.heap.size 35 i0 _ 3 40 Try.underlying32 hi hz0 hz1 hz2 rfl (by decide) u3 _ _ rfl hown'.out B 35 _ 1 _ rfl HL.out (ent_one3 _ _ _) (by unfold maxLen; omega) (by omega) (by simp; omega) ?_); intro v1 w1 hown1 hg1 hat1)
        have hb1 := below_own HB0.out (Nat.le_refl _) hown'.out hg1
        have hown2 : Hid (w1.ownsRow w.heap.size 35 3 v1 (zs ++ [x]).length ((zs ++ [x]).flatMap Ent.cells)) := by
          rw [Hid]; simpa [Ent.cells, hg] using hown1
        have hm2 : Hid (zs ++ [x] = liveE (l.take (k + 1))) := by
          rw [Hid, HT.out, liveE_snoc, hg, hz.out]; simp
        clear hi hz0 hz1 hz2 hg1 hat1 hown1
        go_roundw
        case rel => exact ⟨k + 1, m + 1, by omega, by go_num, by omega, zs ++ [x], hm2, by rw [Hid, List.length_append, hzl.out]; rfl, hown2, hb1⟩
        case measure => simp [intOf] <;> omega
      · rw [hg] at d3
        have hbs := hbl.size
        go_wp2_with fail
        go_roundw
        case rel => exact ⟨k + 1, m, by omega, by go_num, by omega, zs, by rw [Hid, HT.out, liveE_snoc, hg]; exact hz.out, hzl, own_alloc hown.out _, hbl.alloc hbs _⟩
        case measure => simp [intOf] <;> omega
    · have hge : l.length ≤ k := by omega
      go_wp2_with fail
      go_ret
      have e : l.take k = l := List.take_of_length_le hge
      have hz' := hz.out
      rw [e] at hz'
      subst hz'
      exact ⟨_, rfl, ⟨Rd.of_own hown.out, fun e he => HO.out e (List.mem_filter.1 he).1⟩, hbl⟩
end Go.Proofs.Ytaepdbkfaoiimaa
