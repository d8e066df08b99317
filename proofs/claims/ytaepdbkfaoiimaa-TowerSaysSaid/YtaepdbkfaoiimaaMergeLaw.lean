/- The walks of the reference's Merged and of rising. Conditions: lists of at most a million entries. -/
import Derived.Test.YtaepdbkfaoiimaaRefEnts
set_option linter.unusedVariables false
set_option linter.unusedSimpArgs false
namespace Go.Proofs.Ytaepdbkfaoiimaa
open Go.RowKit

theorem rput_any (B : Nat) (v : Value) (l : List Ent) (e : Ent) (w : World) (h : Ents B w v l) (hn : l.length ≤ 1000000) (he : EntOk e) :
    Calls Try.prog 28 #[v, .agg #[.string e.k, .string e.v, .bool e.g]] w fun d w' => ∃ u, d = .returned u ∧ Ents B w' u (putE l e) ∧ Below w.heap.size w w' :=
  (rput_own B v l e w h hn).mono fun d w' ⟨u, hd, hown, hb⟩ => ⟨u, hd, ⟨Rd.of_own hown, putE_ok l e he h.2⟩, hb⟩
theorem foldl_put_len (l acc : List Ent) : (l.foldl putE acc).length ≤ acc.length + l.length := by
  induction l generalizing acc with
  | nil => simp
  | cons x l ih =>
    have h1 := ih (putE acc x)
    have h2 := putE_len acc x
    simp only [List.foldl_cons, List.length_cons] at h1 ⊢
    omega
theorem putAll_len (ls : List (List Ent)) : (putAll ls).length ≤ sumLen ls := by
  induction ls with
  | nil => simp [putAll, sumLen]
  | cons l ls ih =>
    have h1 := foldl_put_len l (putAll ls)
    simp only [sumLen, List.map_cons, List.sum_cons] at *
    show (l.foldl putE (putAll ls)).length ≤ _
    omega
theorem Lss.ok {B : Nat} {w : World} {v : Value} {ls : List (List Ent)} (h : Lss B w v ls) : ∀ l ∈ ls, ∀ e ∈ l, EntOk e := by
  intro l hl
  obtain ⟨i, hi⟩ := List.getElem?_of_mem hl
  obtain ⟨A, c, _, _, _, hc⟩ := h.form
  obtain ⟨b, o, u, _, _, _, he⟩ := hc i l hi
  exact he.2

set_option maxHeartbeats 2000000 in
theorem rmerged_any (B : Nat) (v : Value) (ls : List (List Ent)) (w : World) (h : Lss B w v ls) (hs : sumLen ls ≤ 1000000) (hn : ls.length ≤ 1000000) :
    Calls Try.prog 21 #[v] w fun e w' => ∃ u, e = .returned u ∧ Ents B w' u (putAll ls) ∧ Below w.heap.size w w' := by
  have HO := Lib.hid h.ok
  obtain ⟨A, c, rfl, hc, hc2, hcell⟩ := h.form
  have HC := Lib.hid hcell
  clear hcell h
  have HS : Hid (sumLen ls ≤ 1000000) := hs
  clear hs
  go_enter Try.func21, Try.ntmps21
  go_wp2_with fail
  go_loopw [3, 4] (fun l i wr => ∃ k : Nat, k ≤ ls.length ∧ i = .int .i64 ((k : Int) - 1) ∧ Hid (Ents B wr l (putAll (ls.drop k))) ∧ Below w.heap.size w wr) (fun _ i _ => (intOf i + 1).toNat)
  case atStart => exact ⟨ls.length, Nat.le_refl _, by go_num, by rw [List.drop_length]; exact ⟨Rd.nil _ _ _ _, by simp [putAll]⟩, Below.refl _ _⟩
  case round =>
    obtain ⟨k, hk, rfl, hl, hbl⟩ := hrel
    cases k with
    | zero =>
      go_wp2_with fail
      go_ret
      exact ⟨_, rfl, hl.out, hbl⟩
    | succ k =>
      obtain ⟨x, hx, _, hdr⟩ := getElem?_of_lt (l := ls) (k := k) (by omega)
      obtain ⟨b, o, u, rfl, hb, hcell, hents⟩ := HC.out k x hx
      have hx1 := Nat.le_trans (sumLen_mem (List.mem_of_getElem? hx)) HS.out
      have hd2 := Nat.le_trans (putAll_len (ls.drop (k + 1))) (Nat.le_refl _)
      have hd3 : x.length + sumLen (ls.drop (k + 1)) ≤ 1000000 := by
        have h1 := sumLen_drop ls k
        have h2 := HS.out
        rw [hdr] at h1
        simp only [sumLen, List.map_cons, List.sum_cons] at h1 ⊢ h2
        omega
      have hd4 : (putAll (ls.drop (k + 1))).length + x.length ≤ 1000000 := by omega
      have HD4 := Lib.hid hd4
      have HOK := Lib.hid (HO.out x (List.mem_of_getElem? hx))
      have HD := Lib.hid hdr
      have HCELL := Lib.hid hcell
      obtain ⟨A', c', rfl, hc', hc2', hcx⟩ := hents.form
      have HX := Lib.hid hcx
      clear hents hx hd2 hd3 hd4 hdr hcx hcell
      have e1 : (((k + 1 : Nat) : Int) - 1) = (k : Int) := by omega
      rw [e1]
      clear e1
      have g1 : (0 : Int) ≤ (k : Int) := by omega
      have g2 : (k : Int) < (ls.length : Int) := by omega
      go_wp2_with fail
      obtain ⟨wo, rfl⟩ : ∃ wo : World, wo = wr := ⟨_, rfl⟩
      go_loopw [3, 5] (fun l i wr => ∃ j : Nat, j ≤ x.length ∧ i = .int .i64 (j : Int) ∧ Hid (Ents B wr l ((x.take j).foldl putE (putAll (ls.drop (k + 1))))) ∧ Below w.heap.size w wr) (fun _ i _ => x.length - (intOf i).toNat)
      case atStart => exact ⟨0, Nat.zero_le _, rfl, by simpa using hl, hbl⟩
      case round =>
        clear hl hbl
        obtain ⟨j, hj, rfl, hl, hbl⟩ := hrel
        have hcell' := (hbl.cell (p := ⟨b, o + k, none⟩) hb).trans HCELL.out
        by_cases hlt : j < x.length
        · obtain ⟨y, hy, htj, _⟩ := getElem?_of_lt hlt
          obtain ⟨b', o', rfl, hb', c1, c2, c3⟩ := HX.out j y hy
          have d1 := (hbl.cell (p := ⟨b', o' + j * 3, none⟩) hb').trans c1
          have d2 := (hbl.cell (p := ⟨b', o' + j * 3 + 1, none⟩) hb').trans c2
          have d3 := (hbl.cell (p := ⟨b', o' + j * 3 + 2, none⟩) hb').trans c3
          have hlen : ((x.take j).foldl putE (putAll (ls.drop (k + 1)))).length ≤ 1000000 := by
            have h1 := foldl_put_len (x.take j) (putAll (ls.drop (k + 1)))
            have h2 : (x.take j).length ≤ x.length := List.length_take_le' _ _
            have h3 := HD4.out
            omega
          have HH := Lib.hid (rput_any B _ _ y _ hl.out hlen (HOK.out y (List.mem_of_getElem? hy)))
          have HT := Lib.hid htj
          clear c1 c2 c3 hlen hy htj
          have g3 : (0 : Int) ≤ (j : Int) := by omega
          have g4 : (j : Int) < (x.length : Int) := by omega
          go_wp2_with (go_at_call 28; refine HH.out.mono ?_; rintro e w1 ⟨v1, rfl, he1, hb1⟩)
          go_roundw
          case rel => exact ⟨j + 1, by omega, by go_num, by rw [HT.out, List.foldl_append]; exact he1, hbl.trans (hb1.mono hbl.size)⟩
          case measure => simp [intOf] <;> omega
        · have hge : x.length ≤ j := by omega
          have hl' := hl.out
          rw [List.take_of_length_le hge] at hl'
          have HL2 := Lib.hid hl'
          clear hl'
          go_wp2_with fail
          go_roundw
          case rel => exact ⟨k, by omega, by go_num, by rw [HD.out]; exact HL2.out, hbl⟩
          case measure => simp [intOf] <;> omega

instance (l : List Ent) : Decidable (Rises l) := inferInstanceAs (Decidable (l.Pairwise (fun a b => ltB a.k b.k = true)))
def Adj (l : List Ent) (k : Nat) : Prop := ∀ (i : Nat) (x y : Ent), i + 1 < k → l[i]? = some x → l[i + 1]? = some y → ltB x.k y.k = true
theorem rises_of_adj : ∀ (l : List Ent), Adj l l.length → Rises l
  | [], _ => by simp [Rises]
  | [x], _ => by simp [Rises]
  | x :: y :: l, h => by
    have h1 := rises_of_adj (y :: l) (fun i a b hi ha hb => h (i + 1) a b (by simp at hi ⊢; omega) (by simpa using ha) (by simpa using hb))
    have h0 := h 0 x y (by simp) rfl rfl
    refine rises_cons.2 ⟨fun z hz => ?_, h1⟩
    rcases List.mem_cons.1 hz with rfl | hz
    · exact h0
    · exact ltB_trans h0 ((rises_cons.1 h1).1 z hz)
theorem adj_of_rises : ∀ (l : List Ent), Rises l → Adj l l.length
  | [], _ => fun i x y _ h _ => by simp at h
  | x :: l, h => fun i a b hi ha hb => by
    have h' := rises_cons.1 h
    cases i with
    | zero =>
      simp at ha hb
      subst ha
      exact h'.1 b (List.mem_of_getElem? hb)
    | succ i => exact adj_of_rises l h'.2 i a b (by simp at hi; omega) (by simpa using ha) (by simpa using hb)

set_option maxHeartbeats 1000000 in
theorem rising_any (B : Nat) (v : Value) (l : List Ent) (m : Int) (w : World) (hl : Ents B w v l) :
    Calls Try.prog 19 #[v, .int .i64 m] w fun e w' => e = .returned (.bool (lightE m l && decide (Rises l))) ∧ ∃ n, w.drewN n = w' := by
  have HL := Lib.hid (lightE_any B v l m w hl)
  obtain ⟨A, c, rfl, hc, hc2, hcell⟩ := hl.form
  have HC := Lib.hid hcell
  clear hl hcell
  by_cases hli : lightE m l = true
  · go_enter Try.func19, Try.ntmps19
    go_wp2_with (go_at_call 25; refine HL.out.mono ?_; rintro e w1 ⟨rfl, rfl⟩)
    go_loopw [5] (fun i wr => ∃ k n : Nat, i = .int .i64 ((k : Int) + 1) ∧ k ≤ l.length ∧ w.drewN n = wr ∧ Hid (Adj l (k + 1))) (fun i _ => l.length + 1 - (intOf i).toNat)
    case atStart => exact ⟨0, 0, rfl, by omega, rfl, fun i x y hi _ _ => by omega⟩
    case round =>
      obtain ⟨k, n, rfl, hk, rfl, hadj⟩ := hrel
      by_cases hlt : k + 1 < l.length
      · obtain ⟨x, hx, _, _⟩ := getElem?_of_lt (show k < l.length by omega)
        obtain ⟨y, hy, _, _⟩ := getElem?_of_lt hlt
        obtain ⟨b, o, rfl, hb, c1, c2, c3⟩ := HC.out k x hx
        obtain ⟨b', o', hbo, hb', d1, d2, d3⟩ := HC.out (k + 1) y hy
        injection hbo with hbo
        injection hbo with e1 e2
        subst e1; subst e2
        have HX := Lib.hid hx
        have HY := Lib.hid hy
        clear hx hy
        have g1 : (0 : Int) ≤ (k : Int) := by omega
        have g2 : (k : Int) + 1 < (l.length : Int) := by omega
        have g3 : IntKind.i64.wrap ((k : Int) + 1 - 1) = (k : Int) := by rw [show (k : Int) + 1 - 1 = k by omega]; exact IntWalk.i64_in _ (by omega)
        have g4 : ((k : Int) + 1).toNat = k + 1 := by omega
        have g5 : (0 : Int) ≤ (k : Int) + 1 := by omega
        by_cases hlxy : ltB x.k y.k = true
        · have t1 : Op.bytesLess y.k.toList x.k.toList = false := ltB_asymm hlxy
          have t2 : (y.k.toList == x.k.toList) = false := by rw [ba_beq]; simp [(ltB_ne hlxy).symm]
          have hadj2 : Hid (Adj l (k + 1 + 1)) := fun i a b hi ha hb => by
            by_cases hik : i = k
            · subst hik
              rw [HX.out] at ha; rw [HY.out] at hb
              obtain rfl := Option.some.inj ha
              obtain rfl := Option.some.inj hb
              exact hlxy
            · exact hadj.out i a b (by omega) ha hb
          clear hlxy
          go_wp2_with fail
          go_quiet (fail)
          go_wp2_with fail
          go_roundw
          case rel => exact ⟨k + 1, _, by go_num, by omega, rfl, hadj2⟩
          case measure => simp [intOf] <;> omega
        · have hnr : Hid (decide (Rises l) = false) := decide_eq_false fun h => hlxy (adj_of_rises l h k x y hlt HX.out HY.out)
          have t3 : leB y.k x.k = true := by rw [leB_eq]; simpa using hlxy
          clear hlxy
          have t4 : Op.bytesLess y.k.toList x.k.toList = true ∨ (y.k.toList == x.k.toList) = true := by simpa [leB] using t3
          clear t3
          cases t5 : Op.bytesLess y.k.toList x.k.toList
          · have t6 : (y.k.toList == x.k.toList) = true := t4.resolve_left (by rw [t5]; simp)
            clear t4
            go_wp2_with fail
            go_quiet (fail)
            go_wp2_with fail
            go_ret
            exact ⟨ret_bool (by rw [hnr.out, Bool.and_false]), n + nq, by simp [World.drewN_drewN]⟩
          · clear t4
            go_wp2_with fail
            go_quiet (fail)
            go_wp2_with fail
            go_ret
            exact ⟨ret_bool (by rw [hnr.out, Bool.and_false]), n + nq, by simp [World.drewN_drewN]⟩
      · have hr : Hid (decide (Rises l) = true) := decide_eq_true (rises_of_adj l fun i x y hi hx hy => hadj.out i x y (by omega) hx hy)
        go_wp2_with fail
        go_ret
        exact ⟨ret_bool (by rw [hr.out, hli]; rfl), _, rfl⟩
  · have hli' : lightE m l = false := by simpa using hli
    clear hli
    go_enter Try.func19, Try.ntmps19
    go_wp2_with (go_at_call 25; refine HL.out.mono ?_; rintro e w1 ⟨rfl, rfl⟩)
    go_ret
    exact ⟨ret_bool (by rw [hli']; rfl), 0, rfl⟩
end Go.Proofs.Ytaepdbkfaoiimaa
