/- The walks of the reference's Merged and of rising. Conditions: lists of at most a million entries. -/
import Derived.Test.YtaepdbkfaoiimabRefEnts
set_option linter.unusedVariables false
set_option linter.unusedSimpArgs false
namespace Go.Proofs.Ytaepdbkfaoiimab
open Go.RowKit

theorem foldl_put_len (l acc : List Ent) : (l.foldl putE acc).length ≤ acc.length + l.length := by
  induction l generalizing acc with
  | nil => simp
  | cons x l ih =>
    have h1 := ih (putE acc x)
    have h2 := putE_len acc x
    simp only [List.foldl_cons, List.length_cons] at h1 ⊢
    omega
theorem putAll_len (ls : List (List Ent)) : (putAll ls).length ≤ sumLen ls := by
  induction ls with
  | nil => simp [putAll, sumLen]
  | cons l ls ih =>
    have h1 := foldl_put_len l (putAll ls)
    simp only [sumLen, List.map_cons, List.sum_cons] at *
    show (l.foldl putE (putAll ls)).length ≤ _
    omega
theorem Lss.ok {B : Nat} {w : World} {v : Value} {ls : List (List Ent)} (h : Lss B w v ls) : ∀ l ∈ ls, ∀ e ∈ l, EntOk e := by
  intro l hl
  obtain ⟨i, hi⟩ := List.getElem?_of_mem hl
  obtain ⟨A, c, _, _, _, hc⟩ := h.form
  obtain ⟨b, o, u, _, _, _, he⟩ := hc i l hi
  exact he.2


instance (l : List Ent) : Decidable (Rises l) := inferInstanceAs (Decidable (l.Pairwise (fun a b => ltB a.k b.k = true)))
def Adj (l : List Ent) (k : Nat) : Prop := ∀ (i : Nat) (x y : Ent), i + 1 < k → l[i]? = some x → l[i + 1]? = some y → ltB x.k y.k = true
theorem rises_of_adj : ∀ (l : List Ent), Adj l l.length → Rises l
  | [], _ => by simp [Rises]
  | [x], _ => by simp [Rises]
  | x :: y :: l, h => by
    have h1 := rises_of_adj (y :: l) (fun i a b hi ha hb => h (i + 1) a b (by simp at hi ⊢; omega) (by simpa using ha) (by simpa using hb))
    have h0 := h 0 x y (by simp) rfl rfl
    refine rises_cons.2 ⟨fun z hz => ?_, h1⟩
    rcases List.mem_cons.1 hz with rfl | hz
    · exact h0
    · exact ltB_trans h0 ((rises_cons.1 h1).1 z hz)
theorem adj_of_rises : ∀ (l : List Ent), Rises l → Adj l l.length
  | [], _ => fun i x y _ h _ => by simp at h
  | x :: l, h => fun i a b hi ha hb => by
    have h' := rises_cons.1 h
    cases i with
    | zero =>
      simp at ha hb
      subst ha
      exact h'.1 b (List.mem_of_getElem? hb)
    | succ i => exact adj_of_rises l h'.2 i a b (by simp at hi; omega) (by simpa using ha) (by simpa using hb)

set_option maxHeartbeats 1000000 in
theorem trising_any (B : Nat) (v : Value) (l : List Ent) (w : World) (hl : Ents B w v l) :
    Calls Try.prog 14 #[v] w fun e w' => e = .returned (.bool (lightE 20 l && decide (Rises l))) ∧ ∃ n, w.drewN n = w' := by
  have HL := Lib.hid (lightE_any B v l 20 w hl)
  obtain ⟨A, c, rfl, hc, hc2, hcell⟩ := hl.form
  have HC := Lib.hid hcell
  clear hl hcell
  by_cases hli : lightE 20 l = true
  · go_enter Try.func14, Try.ntmps14
    go_wp2_with (go_at_call 22; refine HL.out.mono ?_; rintro e w1 ⟨rfl, rfl⟩)
    go_loopw [3] (fun i wr => ∃ k n : Nat, i = .int .i64 ((k : Int) + 1) ∧ k ≤ l.length ∧ w.drewN n = wr ∧ Hid (Adj l (k + 1))) (fun i _ => l.length + 1 - (intOf i).toNat)
    case atStart => exact ⟨0, 0, rfl, by omega, rfl, fun i x y hi _ _ => by omega⟩
    case round =>
      obtain ⟨k, n, rfl, hk, rfl, hadj⟩ := hrel
      by_cases hlt : k + 1 < l.length
      · obtain ⟨x, hx, _, _⟩ := getElem?_of_lt (show k < l.length by omega)
        obtain ⟨y, hy, _, _⟩ := getElem?_of_lt hlt
        obtain ⟨b, o, rfl, hb, c1, c2, c3⟩ := HC.out k x hx
        obtain ⟨b', o', hbo, hb', d1, d2, d3⟩ := HC.out (k + 1) y hy
        injection hbo with hbo
        injection hbo with e1 e2
        subst e1; subst e2
        have HX := Lib.hid hx
        have HY := Lib.hid hy
        clear hx hy
        have g1 : (0 : Int) ≤ (k : Int) := by omega
        have g2 : (k : Int) + 1 < (l.length : Int) := by omega
        have g3 : IntKind.i64.wrap ((k : Int) + 1 - 1) = (k : Int) := by rw [show (k : Int) + 1 - 1 = k by omega]; exact IntWalk.i64_in _ (by omega)
        have g4 : ((k : Int) + 1).toNat = k + 1 := by omega
        have g5 : (0 : Int) ≤ (k : Int) + 1 := by omega
        by_cases hlxy : ltB x.k y.k = true
        · have t1 : Op.bytesLess y.k.toList x.k.toList = false := ltB_asymm hlxy
          have t2 : (y.k.toList == x.k.toList) = false := by rw [ba_beq]; simp [(ltB_ne hlxy).symm]
          have hadj2 : Hid (Adj l (k + 1 + 1)) := fun i a b hi ha hb => by
            by_cases hik : i = k
            · subst hik
              rw [HX.out] at ha; rw [HY.out] at hb
              obtain rfl := Option.some.inj ha
              obtain rfl := Option.some.inj hb
              exact hlxy
            · exact hadj.out i a b (by omega) ha hb
          clear hlxy
          go_wp2_with fail
          go_quiet (fail)
          go_wp2_with fail
          go_roundw
          case rel => exact ⟨k + 1, _, by go_num, by omega, rfl, hadj2⟩
          case measure => simp [intOf] <;> omega
        · have hnr : Hid (decide (Rises l) = false) := decide_eq_false fun h => hlxy (adj_of_rises l h k x y hlt HX.out HY.out)
          have t3 : leB y.k x.k = true := by rw [leB_eq]; simpa using hlxy
          clear hlxy
          have t4 : Op.bytesLess y.k.toList x.k.toList = true ∨ (y.k.toList == x.k.toList) = true := by simpa [leB] using t3
          clear t3
          cases t5 : Op.bytesLess y.k.toList x.k.toList
          · have t6 : (y.k.toList == x.k.toList) = true := t4.resolve_left (by rw [t5]; simp)
            clear t4
            go_wp2_with fail
            go_quiet (fail)
            go_wp2_with fail
            go_ret
            exact ⟨ret_bool (by rw [hnr.out, Bool.and_false]), n + nq, by simp [World.drewN_drewN]⟩
          · clear t4
            go_wp2_with fail
            go_quiet (fail)
            go_wp2_with fail
            go_ret
            exact ⟨ret_bool (by rw [hnr.out, Bool.and_false]), n + nq, by simp [World.drewN_drewN]⟩
      · have hr : Hid (decide (Rises l) = true) := decide_eq_true (rises_of_adj l fun i x y hi hx hy => hadj.out i x y (by omega) hx hy)
        go_wp2_with fail
        go_ret
        exact ⟨ret_bool (by rw [hr.out, hli]; rfl), _, rfl⟩
  · have hli' : lightE 20 l = false := by simpa using hli
    clear hli
    go_enter Try.func14, Try.ntmps14
    go_wp2_with (go_at_call 22; refine HL.out.mono ?_; rintro e w1 ⟨rfl, rfl⟩)
    go_ret
    exact ⟨ret_bool (by rw [hli']; rfl), 0, rfl⟩
end Go.Proofs.Ytaepdbkfaoiimab
