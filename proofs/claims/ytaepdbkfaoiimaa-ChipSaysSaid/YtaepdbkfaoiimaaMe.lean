/- Several texts of this proof, one behind the other: walks and plain laws that the statements rest on. Conditions: none but those that each lemma names. -/
import Derived.Test.YtaepdbkfaoiimaaMd
import Derived.SliceStrings
import Derived.OpenShut
import Derived.Deep.Slices
import Derived.Lib.SmallJoins
import Derived.Deep.LoopGhost
import Derived.RegionTactic
import Derived.BigRegion
import Derived.Deep.RegionHeld3
import Derived.Deep.DeepCutAuto
import Derived.RangeFuncCalls
import Derived.OrdersIn
import Derived.OrdersHeld
import Derived.Deep.RegionHeld
/- The arguments of a law, opened: each reads as a list of what its cells hold. Conditions: none. -/
set_option linter.unusedVariables false
namespace Go.Proofs.Ytaepdbkfaoiimaa
open Go.ChangeShapes Go.WideShapes Go.ChangeAt Go.RowKit Go.WideMaps Go.WideElems
open Go.ChangeMaps (open_string shut_string)

set_option maxRecDepth 100000 in
theorem strs_of {H : Type} {enc : TypeId × Value → H} {W : World} {base : Nat} {v : Value} {d : DataW H} {p : List MemPlace}
    (hval : Value.okWide Try.prog W .any base 22 v) (h : DataW.Trod enc Try.prog W 0 (fun _ => true) true 22 v d p) : ∃ l, Strs W.heap.size W v l := by
  obtain ⟨a0, len, cap, rfl⟩ := okWide_slice Try.underlying22 hval
  obtain ⟨fuel, hf⟩ := h
  rcases open_strings Try.underlying22 Try.underlying9 (by kernel_rfl) hf with ⟨hcs, hx⟩ | ⟨a, len', cap', ss, hcs, _, hl, hm, hz, hx, hcell, hws⟩
  · simp [Value.cells] at hcs
    obtain ⟨rfl, rfl, rfl⟩ := hcs
    exact ⟨[], Rd.nil _ _ _ _, by simp⟩
  · simp [Value.cells] at hcs
    obtain ⟨rfl, rfl, rfl⟩ := hcs
    simp at hz
    have e : (ss.take len).length = len := by simp; omega
    refine ⟨ss.take len, ⟨by simp, some a, cap, by rw [e], by omega, by unfold maxLen at hm; omega, fun hn => ?_⟩, fun s hs => by have := hws s (List.mem_of_mem_take hs); unfold maxLen at this; omega⟩
    rw [e] at hn
    obtain ⟨b, o, spot⟩ := a
    have h0 := hcell 0 (by omega)
    have hspot : spot = none := by simpa [Addr.add] using World.cell?_spot h0
    subst hspot
    refine ⟨b, o, rfl, .inl ?_, ?_, fun j u hu => ?_⟩
    · have := cell_lt h0; simpa [Addr.add] using this
    · have := cell_lt h0; simpa [Addr.add] using this
    · rw [List.getElem?_map, List.getElem?_take] at hu
      by_cases hj : j < len
      · rw [if_pos hj] at hu
        have hj2 : j < ss.length := by omega
        rw [List.getElem?_eq_getElem hj2] at hu
        simp at hu
        have := hcell j hj2
        rw [List.getD_eq_getElem?_getD, List.getElem?_eq_getElem hj2, Option.getD_some] at this
        rw [← hu, ← this]
        unfold Addr.add
        by_cases hj0 : j = 0
        · subst hj0; simp
        · simp [hj0]
      · rw [if_neg hj] at hu; simp at hu

/-! ### slices of whatever elements -/
theorem list_of {α : Type} {P : Nat → α → Prop} : ∀ n : Nat, (∀ i, i < n → ∃ a, P i a) → ∃ l : List α, l.length = n ∧ ∀ i a, l[i]? = some a → P i a
  | 0, _ => ⟨[], rfl, fun i a h => by simp at h⟩
  | n + 1, h => by
    obtain ⟨l, h1, h2⟩ := list_of n fun i hi => h i (by omega)
    obtain ⟨a, ha⟩ := h n (by omega)
    refine ⟨l ++ [a], by simp [h1], fun i b hb => ?_⟩
    rw [List.getElem?_append] at hb
    split at hb
    · exact h2 i b hb
    · rename_i hge
      have : i = n := by
        rcases Nat.lt_or_ge (i - l.length) 1 with h | h
        · omega
        · rw [List.getElem?_eq_none (by simpa using h)] at hb; cases hb
      subst this
      rw [h1, Nat.sub_self] at hb
      simp at hb
      subst hb
      exact ha
theorem flat_get {α : Type} (c : α → List Value) (sz : Nat) (hc : ∀ a, (c a).length = sz) : ∀ (l : List α) (i j : Nat) (a : α), l[i]? = some a → j < sz → (l.flatMap c)[i * sz + j]? = (c a)[j]?
  | [], i, j, a, h, _ => by simp at h
  | x :: l, 0, j, a, h, hj => by
    simp at h; subst h
    rw [Nat.zero_mul, Nat.zero_add, List.flatMap_cons, List.getElem?_append_left (by rw [hc]; exact hj)]
  | x :: l, i + 1, j, a, h, hj => by
    simp only [List.getElem?_cons_succ] at h
    have ih := flat_get c sz hc l i j a h hj
    rw [List.flatMap_cons, List.getElem?_append_right (by rw [hc, Nat.succ_mul]; omega), hc, ← ih]
    congr 1
    rw [Nat.succ_mul]; omega
theorem flat_len {α : Type} (c : α → List Value) (sz : Nat) (hc : ∀ a, (c a).length = sz) : ∀ l : List α, (l.flatMap c).length = l.length * sz
  | [] => by simp
  | x :: l => by rw [List.flatMap_cons, List.length_append, hc, flat_len c sz hc l, List.length_cons, Nat.succ_mul]; omega

theorem flat_one {α : Type} (f : α → Value) : ∀ l : List α, l.flatMap (fun z => [f z]) = l.map f
  | [] => rfl
  | a :: l => by rw [List.flatMap_cons, flat_one f l]; rfl

theorem slice_trod {H : Type} {enc : TypeId × Value → H} {W : World} {T e sz fuel : Nat} {v : Value} {x : DataW H × List MemPlace} (ht : Try.prog.underlying T = some (.slice e)) (hsz : Try.prog.cellsOf e = sz) (hpos : 0 < sz)
    {α : Type} (c : α → List Value) (hc : ∀ a, (c a).length = sz) (Ok : α → Prop)
    (hel : ∀ n cs y, DataW.trod enc Try.prog W 0 (fun _ => true) true n e cs = some y → ∃ a, cs = c a ∧ Ok a)
    (h : DataW.trod enc Try.prog W 0 (fun _ => true) true fuel T [v] = some x) : ∃ l : List α, Rd W.heap.size e sz W v l.length (l.flatMap c) ∧ ∀ a ∈ l, Ok a := by
  rcases Go.Deep.open_slice ht h with ⟨hcs, _⟩ | ⟨a, len, cap, m, n, D, Pl, hcs, hb, hl, hm, hmm, hx, hi⟩
  · simp at hcs
    subst hcs
    exact ⟨[], Rd.nil _ _ _ _, by simp⟩
  · simp at hcs hmm
    subst hcs
    have hall : ∀ i, i < len → ∃ z : α, Ok z ∧ ∀ j, j < sz → W.cell? ((a.add (i * sz)).add j) = (c z)[j]? := by
      intro i hilt
      obtain ⟨cs', h1, h2⟩ := hi i (by omega)
      obtain ⟨z, rfl, hz⟩ := hel _ _ _ h2
      rw [hsz] at h1
      obtain ⟨_, _, h3⟩ := World.cells?_some h1
      exact ⟨z, hz, h3⟩
    obtain ⟨l, hll, hlp⟩ := list_of len hall
    refine ⟨l, ⟨flat_len c sz hc l, some a, cap, by rw [hll], by omega, by unfold maxLen at hm; omega, fun hn => ?_⟩, fun z hz => ?_⟩
    · obtain ⟨b, o, spot⟩ := a
      have h0 := (hlp 0 _ (List.getElem?_eq_getElem hn)).2 0 hpos
      have hv0 : ∃ u, (c l[0])[0]? = some u := ⟨_, List.getElem?_eq_getElem (by rw [hc]; exact hpos)⟩
      obtain ⟨u0, hu0⟩ := hv0
      rw [hu0] at h0
      have hspot : spot = none := by simpa [Addr.add] using World.cell?_spot h0
      subst hspot
      have hlt := cell_lt h0
      rw [addr_add, addr_add] at hlt
      refine ⟨b, o, rfl, .inl hlt, hlt, fun j u hu => ?_⟩
      have hj : j < l.length * sz := by
        rw [← flat_len c sz hc l]
        rcases Nat.lt_or_ge j (l.flatMap c).length with h | h
        · exact h
        · rw [List.getElem?_eq_none h] at hu; cases hu
      have hq : j / sz < l.length := Nat.div_lt_of_lt_mul (by rw [Nat.mul_comm]; exact hj)
      have hr : j % sz < sz := Nat.mod_lt _ hpos
      have hdm : j / sz * sz + j % sz = j := by rw [Nat.mul_comm]; exact Nat.div_add_mod j sz
      have hq2 : l[j / sz]? = some l[j / sz] := List.getElem?_eq_getElem hq
      have h1 := flat_get c sz hc l (j / sz) (j % sz) _ hq2 hr
      have h2 := (hlp _ _ hq2).2 (j % sz) hr
      rw [hdm] at h1
      rw [← h1, hu, addr_add, addr_add, Nat.add_assoc, hdm] at h2
      exact h2
    · obtain ⟨i, hi⟩ := List.getElem?_of_mem hz
      exact (hlp i z hi).1

set_option maxRecDepth 100000 in
theorem ints_of {H : Type} {enc : TypeId × Value → H} {W : World} {base : Nat} {v : Value} {d : DataW H} {p : List MemPlace}
    (hval : Value.okWide Try.prog W .any base 41 v) (h : DataW.Trod enc Try.prog W 0 (fun _ => true) true 41 v d p) : ∃ l, Ints W.heap.size W v l ∧ ∀ n ∈ l, -9223372036854775808 ≤ n ∧ n ≤ 9223372036854775807 := by
  obtain ⟨a0, len, cap, rfl⟩ := okWide_slice Try.underlying41 hval
  obtain ⟨fuel, hf⟩ := h
  obtain ⟨l, h1, h2⟩ := slice_trod Try.underlying41 (by kernel_rfl) (show 0 < 1 by omega) (fun n : Int => [.int .i64 n]) (fun _ => rfl) (fun n => -9223372036854775808 ≤ n ∧ n ≤ 9223372036854775807)
    (fun n cs y hy => by
      obtain ⟨n', h, _, hw⟩ := DataW.trod_int Try.underlying3 hy
      refine ⟨n', h, ?_⟩
      simp [Lit.wf, IntKind.min, IntKind.max, IntKind.signed, IntKind.bits] at hw
      omega) hf
  exact ⟨l, by rw [flat_one] at h1; exact h1, h2⟩
set_option maxRecDepth 100000 in
theorem ent_trod {H : Type} {enc : TypeId × Value → H} {W : World} {n : Nat} {cs : List Value} {y : DataW H × List MemPlace} (h : DataW.trod enc Try.prog W 0 (fun _ => true) true n 35 cs = some y) : ∃ e : Ent, cs = e.cells ∧ EntOk e := by
  have hs := Try.underlying35
  obtain ⟨ys, n', _, _, hlen, hyl, hf⟩ := DataW.trod_struct hs h
  have c9 : Try.prog.cellsOf 9 = 1 := by kernel_rfl
  have c4 : Try.prog.cellsOf 4 = 1 := by kernel_rfl
  have c35 : Try.prog.cellsOf 35 = 3 := by kernel_rfl
  have h0 : DataW.trod enc Try.prog W 0 _ true n' 9 ((cs.drop 0).take (Try.prog.cellsOf 9)) = ys[0]? := hf 0 _ rfl
  have h1 : DataW.trod enc Try.prog W 0 _ true n' 9 ((cs.drop 1).take (Try.prog.cellsOf 9)) = ys[1]? := hf 1 _ rfl
  have h2 : DataW.trod enc Try.prog W 0 _ true n' 4 ((cs.drop 2).take (Try.prog.cellsOf 4)) = ys[2]? := hf 2 _ rfl
  rw [c35] at hlen
  rw [c9] at h0 h1
  rw [c4] at h2
  match cs, hlen with
  | [v0, v1, v2], _ =>
    have hl3 : ys.length = 3 := hyl
    match ys, hl3 with
    | [y0, y1, y2], _ =>
      obtain ⟨s0, e0, _, b0⟩ := DataW.trod_string Try.underlying9 (show DataW.trod enc Try.prog W 0 _ true n' _ [v0] = some y0 from h0)
      obtain ⟨s1, e1, _, b1⟩ := DataW.trod_string Try.underlying9 (show DataW.trod enc Try.prog W 0 _ true n' _ [v1] = some y1 from h1)
      obtain ⟨g, e2, _⟩ := DataW.trod_bool Try.underlying4 (show DataW.trod enc Try.prog W 0 _ true n' _ [v2] = some y2 from h2)
      simp at e0 e1 e2
      subst e0; subst e1; subst e2
      unfold maxLen at b0 b1
      exact ⟨⟨s0, s1, g⟩, rfl, by omega, by omega⟩
theorem ents_trod {H : Type} {enc : TypeId × Value → H} {W : World} {fuel : Nat} {v : Value} {x : DataW H × List MemPlace} (h : DataW.trod enc Try.prog W 0 (fun _ => true) true fuel 32 [v] = some x) : ∃ l, Ents W.heap.size W v l := by
  obtain ⟨l, h1, h2⟩ := slice_trod Try.underlying32 (by kernel_rfl) (show 0 < 3 by omega) Ent.cells (fun _ => rfl) EntOk (fun n cs y => ent_trod) h
  exact ⟨l, h1, h2⟩
set_option maxRecDepth 100000 in
theorem ents_of {H : Type} {enc : TypeId × Value → H} {W : World} {base : Nat} {v : Value} {d : DataW H} {p : List MemPlace}
    (hval : Value.okWide Try.prog W .any base 32 v) (h : DataW.Trod enc Try.prog W 0 (fun _ => true) true 32 v d p) : ∃ l, Ents W.heap.size W v l := by
  obtain ⟨a0, len, cap, rfl⟩ := okWide_slice Try.underlying32 hval
  obtain ⟨fuel, hf⟩ := h
  exact ents_trod hf
set_option maxRecDepth 100000 in
theorem lss_of {H : Type} {enc : TypeId × Value → H} {W : World} {base : Nat} {v : Value} {d : DataW H} {p : List MemPlace}
    (hval : Value.okWide Try.prog W .any base 31 v) (h : DataW.Trod enc Try.prog W 0 (fun _ => true) true 31 v d p) : ∃ ls, Lss W.heap.size W v ls := by
  obtain ⟨a0, len, cap, rfl⟩ := okWide_slice Try.underlying31 hval
  obtain ⟨fuel, hf⟩ := h
  obtain ⟨l, h1, h2⟩ := slice_trod Try.underlying31 (by kernel_rfl) (show 0 < 1 by omega) (fun z : Value × List Ent => [z.1]) (fun _ => rfl) (fun z => Ents W.heap.size W z.1 z.2)
    (fun n cs y hy => by
      have hl := Go.Deep.open_slice Try.underlying32 hy
      have hc : ∃ u, cs = [u] := by
        rcases hl with ⟨hcs, _⟩ | ⟨a, len, cap, m, n, D, Pl, hcs, _⟩ <;> exact ⟨_, hcs⟩
      obtain ⟨u, rfl⟩ := hc
      obtain ⟨l, hl⟩ := ents_trod hy
      exact ⟨(u, l), rfl, hl⟩) hf
  refine ⟨l.map (·.2), l.map (·.1), by simp, ?_, fun i u m hu hm => ?_⟩
  · rw [flat_one] at h1
    simpa using h1
  · rw [List.getElem?_map] at hu hm
    cases hz : l[i]? with
    | none => rw [hz] at hu; cases hu
    | some z =>
      rw [hz] at hu hm
      simp at hu hm
      subst hu; subst hm
      exact h2 z (List.mem_of_getElem? hz)
end Go.Proofs.Ytaepdbkfaoiimaa
/- The contracts of store.free, blank and Format. Conditions: none but those that each names. -/
set_option linter.unusedVariables false
set_option linter.unusedSimpArgs false
namespace Go.Proofs.Ytaepdbkfaoiimaa
open Go.RowKit
attribute [local go_sem ↓] eql_err eql_nilerr neq_err neq_nilerr guard_err guard_nilerr guardn_err guardn_nilerr
theorem inL_eq (l : List Int) (x : Int) : inL l x = l.contains x := rfl
theorem freeTo_rng (c : Chip) (used : List Int) (k : Nat) : freeTo c used k = -1 ∨ ∃ b : Nat, freeTo c used k = b ∧ b < k + 2 := by
  rcases freeTo_spec c used k with ⟨h, _⟩ | ⟨b, h, _, h2, _⟩
  · exact .inl h
  · exact .inr ⟨b, h, h2⟩
set_option maxRecDepth 20000 in
set_option maxHeartbeats 2000000 in
theorem free_any (B p : Nat) (c : Chip) (v : Value) (used : List Int) (w : World) (h : ChipR B w p c) (hu : Ints B w v used) :
    Calls Try.prog 128 #[.pointer (some ⟨p, 0, none⟩), v] w fun e w' => e = .returned (.int .i64 (freeM c used)) ∧ w = w' := by
  have HB : Hid (∀ k : Nat, k < 22 → Calls Try.prog 81 #[.pointer (some ⟨p, 0, none⟩), .int .i64 ((k : Int) + 2)] w fun e w' => e = .returned (.bool (c.b (k + 2)).bad) ∧ w = w') := fun k hk => by
    have := bad_any B p c ((k : Int) + 2) w h (by omega) (by omega)
    rw [show ((k : Int) + 2).toNat = k + 2 from by omega] at this
    exact this
  have HW : Hid (∀ k : Nat, k < 22 → Calls Try.prog 82 #[.pointer (some ⟨p, 0, none⟩), .int .i64 ((k : Int) + 2)] w fun e w' => e = .returned (.int .i64 (c.b (k + 2)).wear) ∧ w = w') := fun k hk => by
    have := wear_any B p c ((k : Int) + 2) w h (by omega) (by omega)
    rw [show ((k : Int) + 2).toNat = k + 2 from by omega] at this
    exact this
  have HW2 : Hid (∀ b : Nat, b < 24 → Calls Try.prog 82 #[.pointer (some ⟨p, 0, none⟩), .int .i64 (b : Int)] w fun e w' => e = .returned (.int .i64 (c.b b).wear) ∧ w = w') := fun b hb => by
    have := wear_any B p c (b : Int) w h (by omega) (by omega)
    rw [Int.toNat_natCast] at this
    exact this
  have HC : Hid (∀ x, Calls Try.prog 99 #[v, .int .i64 x] w fun e w' => e = .returned (.bool (used.contains x)) ∧ w = w') := fun x => by
    have := contains_any B v used x w hu
    rw [inL_eq] at this
    exact this
  clear h hu
  go_enter Try.func128, Try.ntmps128
  go_wp2_with fail
  go_loop [5, 6] (fun best b => ∃ k : Nat, k ≤ 22 ∧ b = .int .i64 ((k : Int) + 2) ∧ best = .int .i64 (freeTo c used k)) (fun _ b => 24 - (intOf b).toNat)
  case atStart => exact ⟨0, by omega, rfl, rfl⟩
  case round =>
    obtain ⟨k, hk, rfl, rfl⟩ := hrel
    by_cases hlt : k < 22
    · have t1 : decide ((k : Int) + 2 < 24) = true := decide_eq_true (by omega)
      have hbad := HB.out k hlt
      have hcon := HC.out ((k : Int) + 2)
      have hwr := HW.out k hlt
      have HN : Hid (freeTo c used (k + 1) = if (c.b (k + 2)).bad = false ∧ used.contains ((k + 2 : Nat) : Int) = false ∧ (freeTo c used k < 0 ∨ (c.b (k + 2)).wear < (c.b (freeTo c used k).toNat).wear) then ((k + 2 : Nat) : Int) else freeTo c used k) := rfl
      have hcast : ((k + 2 : Nat) : Int) = (k : Int) + 2 := by omega
      rw [hcast] at HN
      have hrg := freeTo_rng c used k
      have HW3 : Hid (∀ b : Nat, freeTo c used k = b → Calls Try.prog 82 #[.pointer (some ⟨p, 0, none⟩), .int .i64 (b : Int)] w fun e w' => e = .returned (.int .i64 (c.b b).wear) ∧ w = w') := fun b hb => HW2.out b (by
        rcases hrg with h | ⟨b', h, h'⟩ <;> omega)
      generalize (c.b (k + 2)).bad = z1 at *
      generalize used.contains ((k : Int) + 2) = z2 at *
      generalize (c.b (k + 2)).wear = wk at *
      clear hcast HB HW HW2 HC
      cases z1
      · cases z2
        · rcases hrg with hb | ⟨b, hb, hbl⟩
          · rw [hb] at HN ⊢
            have t2 : decide ((-1 : Int) < 0) = true := by decide
            have HN' : Hid (freeTo c used (k + 1) = (k : Int) + 2) := by rw [Hid, HN.out, if_pos ⟨rfl, rfl, .inl (by omega)⟩]
            have HBD := Lib.hid hbad
            have HCO := Lib.hid hcon
            clear HN hb hwr HW3 hbad hcon
            go_wp2_with (first | (go_at_call 81; refine HBD.out.mono ?_; rintro e w' ⟨rfl, rfl⟩) | (go_at_call 99; refine HCO.out.mono ?_; rintro e w' ⟨rfl, rfl⟩))
            go_round
            case rel => exact ⟨k + 1, by omega, by go_num, by rw [HN'.out]⟩
            case measure => simp [intOf] <;> omega
          · have HW4 := Lib.hid (HW3.out b hb)
            have HWK := Lib.hid hwr
            have HBD := Lib.hid hbad
            have HCO := Lib.hid hcon
            rw [hb] at HN ⊢
            rw [Int.toNat_natCast] at HN
            generalize (c.b b).wear = wb at *
            have t2 : decide ((b : Int) < 0) = false := decide_eq_false (by omega)
            clear hb hwr HW3 hbad hcon
            by_cases hlw : wk < wb
            · have t3 : decide (wk < wb) = true := decide_eq_true hlw
              have HN' : Hid (freeTo c used (k + 1) = (k : Int) + 2) := by rw [Hid, HN.out, if_pos ⟨rfl, rfl, .inr hlw⟩]
              clear HN hlw
              go_wp2_with (first | (go_at_call 81; refine HBD.out.mono ?_; rintro e w' ⟨rfl, rfl⟩) | (go_at_call 99; refine HCO.out.mono ?_; rintro e w' ⟨rfl, rfl⟩))
              refine HWK.out.mono ?_; rintro e w' ⟨rfl, rfl⟩
              go_wp2_with fail
              refine HW4.out.mono ?_; rintro e w' ⟨rfl, rfl⟩
              go_wp2_with fail
              go_round
              case rel => exact ⟨k + 1, by omega, by go_num, by rw [HN'.out]⟩
              case measure => simp [intOf] <;> omega
            · have t3 : decide (wk < wb) = false := decide_eq_false hlw
              have HN' : Hid (freeTo c used (k + 1) = (b : Int)) := by rw [Hid, HN.out, if_neg (by omega)]
              clear HN hlw
              go_wp2_with (first | (go_at_call 81; refine HBD.out.mono ?_; rintro e w' ⟨rfl, rfl⟩) | (go_at_call 99; refine HCO.out.mono ?_; rintro e w' ⟨rfl, rfl⟩))
              refine HWK.out.mono ?_; rintro e w' ⟨rfl, rfl⟩
              go_wp2_with fail
              refine HW4.out.mono ?_; rintro e w' ⟨rfl, rfl⟩
              go_wp2_with fail
              go_round
              case rel => exact ⟨k + 1, by omega, by go_num, by rw [HN'.out]⟩
              case measure => simp [intOf] <;> omega
        · have HN' : Hid (freeTo c used (k + 1) = freeTo c used k) := by rw [Hid, HN.out, if_neg (by simp)]
          generalize freeTo c used k = bb at *
          have HBD := Lib.hid hbad
          have HCO := Lib.hid hcon
          clear HN hwr HW3 hbad hcon hrg
          go_wp2_with (first | (go_at_call 81; refine HBD.out.mono ?_; rintro e w' ⟨rfl, rfl⟩) | (go_at_call 99; refine HCO.out.mono ?_; rintro e w' ⟨rfl, rfl⟩))
          go_round
          case rel => exact ⟨k + 1, by omega, by go_num, by rw [HN'.out]⟩
          case measure => simp [intOf] <;> omega
      · have HN' : Hid (freeTo c used (k + 1) = freeTo c used k) := by rw [Hid, HN.out, if_neg (by simp)]
        generalize freeTo c used k = bb at *
        have HBD := Lib.hid hbad
        clear HN hwr HW3 hbad hcon hrg
        go_wp2_with (first | (go_at_call 81; refine HBD.out.mono ?_; rintro e w' ⟨rfl, rfl⟩))
        go_round
        case rel => exact ⟨k + 1, by omega, by go_num, by rw [HN'.out]⟩
        case measure => simp [intOf] <;> omega
    · have hk22 : k = 22 := by omega
      subst hk22
      have t1 : decide (((22 : Nat) : Int) + 2 < 24) = false := by decide
      have HF : Hid (freeM c used = freeTo c used 22) := rfl
      generalize freeTo c used 22 = ff at *
      go_wp2_with fail
      go_ret
      exact ⟨by rw [HF.out]; rfl, rfl⟩
theorem errV_pos {n : Nat} (h : n ≠ 0) : errV n = .iface 137 (.int .i64 n) := if_neg h
/-- An erasing that tells of a bad block has spoilt it. -/
theorem erase_seven {c : Chip} (hc : CWf c) (hd : c.down = false) {b : Nat} (hb : b < 24) (hbad : (c.b b).bad = false) (h : (c.erase b).2 = 7) : (c.erase (b : Nat)).1 = c.spoil b ∧ (c.b b).weak = true := by
  cases hw : (c.b b).weak
  · obtain ⟨c', n, e, _, _, g⟩ := erase_calm hb hd hbad hw
    rw [e] at h
    rcases g with ⟨g, _⟩ | ⟨g, _⟩ <;> · simp only at h; omega
  · have := lays_erase.weak c b hc hd hb hbad hw
    exact ⟨by show (c.erase b).1 = _; rw [show c.erase b = _ from this], rfl⟩
set_option maxRecDepth 20000 in
set_option maxHeartbeats 2000000 in
theorem blank_any (B p : Nat) (c : Chip) (v : Value) (used : List Int) (w : World) (h : ChipR B w p c) (hu : Ints B w v used) (hd : c.down = false) :
    Calls Try.prog 125 #[.pointer (some ⟨p, 0, none⟩), v] w fun e w' => e = .returned (.tuple #[.int .i64 (blankM used c).2.1, errV (blankM used c).2.2]) ∧ ChipR B w' p (blankM used c).1 ∧ Fr B (· = p) w w' := by
  have fin : ∀ (wr : World) (tmps : Array Value) (b : Int) (f : Nat) (c' : Chip), (c', b, f) = blankM used c → ChipR B wr p c' → Fr B (· = p) w wr → tmps[4]? = some (.int .i64 b) → tmps[5]? = some (errV f) →
      bodyPost Try.prog Try.f125 (fun e w' => e = .returned (.tuple #[.int .i64 (blankM used c).2.1, errV (blankM used c).2.2]) ∧ ChipR B w' p (blankM used c).1 ∧ Fr B (· = p) w w') .ret { tmps := tmps, defers := [] } wr := by
    rintro wr tmps b f c' e hc hf t4 t5
    rw [← e]
    exact bodyPost_ret (v := .tuple #[.int .i64 b, errV f]) (by simp [results, Try.results125, go_sem, t4, t5]) rfl ⟨rfl, hc, hf⟩
  have FIN := Lib.hid fin
  have HU := Lib.hid hu
  have HR := Lib.hid h
  have hg0 : goods c < 25 := by have := goods_le c; omega
  have HS0 : Hid (seek (fun c b => c.erase b) used 25 c = blankM used c) := rfl
  have HD0 := Lib.hid hd
  clear fin hu h hd
  go_enter Try.func125, Try.ntmps125
  go_wp2_with fail
  go_loopg [6] 25 (fun g b wr => ∃ c' : Chip, Hid (ChipR B wr p c') ∧ Hid (Fr B (· = p) w wr) ∧ Hid (seek (fun c b => c.erase b) used g c' = blankM used c) ∧ goods c' < g ∧ Hid (c'.down = false))
  case atStart => exact ⟨c, HR.out, Fr.refl _ _ _, HS0.out, hg0, HD0.out⟩
  case round =>
    obtain ⟨c', hr, hf, hs, hg, hdn⟩ := hrel
    clear HR HS0 HD0 hg0
    obtain ⟨g, rfl⟩ : ∃ g, gk = g + 1 := ⟨gk - 1, by omega⟩
    have hsk := hs.out
    rw [seek] at hsk
    have HFR := Lib.hid (free_any B p c' v used wr hr.out (HU.out.fr hf.out))
    rcases freeM_spec c' used with ⟨hb, _⟩ | ⟨b, hb, b1, b2, b3, _⟩
    · rw [hb] at HFR hsk
      rw [if_pos (by omega)] at hsk
      have HS := Lib.hid hsk
      clear hb hsk hs
      have t1 : decide ((-1 : Int) < 0) = true := by decide
      go_wp2_with (go_at_call 128; refine HFR.out.mono ?_; rintro e w' ⟨rfl, rfl⟩)
      exact FIN.out _ _ 0 8 c' HS.out hr.out hf.out rfl rfl
    · rw [hb] at HFR hsk
      rw [if_neg (by omega)] at hsk
      have hce := cerase_any B p c' (b : Int) wr hr.out
      have h7 := erase_seven hr.out.wf hdn.out b2 b3
      have t1 : decide ((b : Int) < 0) = false := decide_eq_false (by omega)
      obtain ⟨⟨c2, n⟩, he⟩ : ∃ r, c'.erase (b : Int) = r := ⟨_, rfl⟩
      rw [he] at hsk hce h7
      simp only at hsk h7
      by_cases hn7 : n = 7
      · subst hn7
        rw [if_pos rfl] at hsk
        obtain ⟨h71, h72⟩ := h7 rfl
        subst h71
        have hg2 := goods_spoil b2 b3 h72
        rw [show errV ((c'.spoil b, 7) : Chip × Nat).2 = .iface 137 (.int .i64 7) from rfl] at hce
        have HS := Lib.hid hsk
        have HCE := Lib.hid hce
        have HDN : Hid ((c'.spoil b).down = false) := by rw [Hid, (spoil_rest c' b).1]; exact hdn.out
        clear hsk hce h7 he hb hs h72
        go_wp2_with (first | (go_at_call 128; refine HFR.out.mono ?_; rintro e w' ⟨rfl, rfl⟩) | (go_at_call 47; refine HCE.out.mono ?_; rintro e w2 ⟨rfl, hr2, hf2⟩; have HR2 := Lib.hid hr2; have HF2 := Lib.hid (hf.out.trans hf2 (fun _ _ => trivial)); clear hr2 hf2))
        go_roundg g
        case measure => omega
        case rel => exact ⟨_, HR2, HF2, HS, by omega, HDN⟩
      · rw [if_neg hn7] at hsk
        by_cases hn0 : n = 0
        · subst hn0
          rw [if_pos rfl] at hsk
          rw [show errV ((c2, 0) : Chip × Nat).2 = .nilIface from rfl] at hce
          have HS := Lib.hid hsk
          have HCE := Lib.hid hce
          clear hsk hce h7 he hb hs hn7
          go_wp2_with (first | (go_at_call 128; refine HFR.out.mono ?_; rintro e w' ⟨rfl, rfl⟩) | (go_at_call 47; refine HCE.out.mono ?_; rintro e w2 ⟨rfl, hr2, hf2⟩; have HR2 := Lib.hid hr2; have HF2 := Lib.hid (hf.out.trans hf2 (fun _ _ => trivial)); clear hr2 hf2))
          exact FIN.out _ _ b 0 c2 HS.out HR2.out HF2.out rfl rfl
        · rw [if_neg hn0] at hsk
          rw [show errV ((c2, n) : Chip × Nat).2 = _ from errV_pos hn0] at hce
          have HE := Lib.hid (errV_pos hn0)
          have t2 : (((n : Nat) : Int) == 7) = false := beq_eq_false_iff_ne.2 (by omega)
          have HS := Lib.hid hsk
          have HCE := Lib.hid hce
          clear hsk hce h7 he hb hs hn7 hn0
          go_wp2_with (first | (go_at_call 128; refine HFR.out.mono ?_; rintro e w' ⟨rfl, rfl⟩) | (go_at_call 47; refine HCE.out.mono ?_; rintro e w2 ⟨rfl, hr2, hf2⟩; have HR2 := Lib.hid hr2; have HF2 := Lib.hid (hf.out.trans hf2 (fun _ _ => trivial)); clear hr2 hf2))
          exact FIN.out _ _ 0 n c2 HS.out HR2.out HF2.out rfl (by rw [HE.out]; rfl)
end Go.Proofs.Ytaepdbkfaoiimaa
/- Towers as they lie in memory, and the plain laws of putting a node in. Conditions: none but those that each law names. -/
set_option linter.unusedVariables false
set_option linter.unusedSimpArgs false
namespace Go.Proofs.Ytaepdbkfaoiimaa
open Go.RowKit

/-- A node: its block, its entry, how high it is. -/
structure Nd where
  b : Nat
  e : Ent
  h : Nat
/-- The first node that is higher than f. -/
def nxt (f : Nat) : List Nd → Option Addr
  | [] => none
  | nd :: l => if f < nd.h then some ⟨nd.b, 0, none⟩ else nxt f l

/-- The cells: N b f is the pointer of block b on floor f. -/
structure TRep (w : World) (t : Nat) (ns : List Nd) (N : Nat → Nat → Option Addr) (cnt : Int) : Prop where
  head : Blk w t 135 #[.string ByteArray.empty, .string ByteArray.empty, .bool false, .pointer (N t 0), .pointer (N t 1), .pointer (N t 2), .pointer (N t 3), .int .i64 cnt]
  node : ∀ nd ∈ ns, Blk w nd.b 133 #[.string nd.e.k, .string nd.e.v, .bool nd.e.g, .pointer (N nd.b 0), .pointer (N nd.b 1), .pointer (N nd.b 2), .pointer (N nd.b 3)]
/-- The pointers are those of the floors. -/
structure TVal (t : Nat) (ns : List Nd) (N : Nat → Nat → Option Addr) : Prop where
  head : ∀ f, f < 4 → N t f = nxt f ns
  node : ∀ i nd, ns[i]? = some nd → ∀ f, f < nd.h → N nd.b f = nxt f (ns.drop (i + 1))
structure TOk (ns : List Nd) : Prop where
  nodup : (ns.map Nd.b).Nodup
  high : ∀ nd ∈ ns, 1 ≤ nd.h ∧ nd.h ≤ 4 ∧ EntOk nd.e
  rises : Rises (ns.map Nd.e)

/-- A tower at block t that has the entries l, over the blocks F. -/
def Tower (B : Nat) (w : World) (t : Nat) (l : List Ent) (F : List Nat) : Prop :=
  ∃ ns N, TRep w t ns N ns.length ∧ TVal t ns N ∧ TOk ns ∧ l = ns.map Nd.e ∧ F = t :: ns.map Nd.b ∧ ∀ b ∈ F, B ≤ b

section
variable {B : Nat} {M : Nat → Prop} {w w' : World} {t : Nat} {ns : List Nd} {N : Nat → Nat → Option Addr} {cnt : Int} {l : List Ent} {F : List Nat}
theorem TRep.keep (h : TRep w t ns N cnt) (hk : ∀ b, b < w.heap.size → (b = t ∨ b ∈ ns.map Nd.b) → w'.heap[b]? = w.heap[b]?) : TRep w' t ns N cnt :=
  ⟨(hk t h.head.lt (.inl rfl)).trans h.head, fun nd hnd => (hk nd.b (h.node nd hnd).lt (.inr (List.mem_map.2 ⟨nd, hnd, rfl⟩))).trans (h.node nd hnd)⟩
theorem TRep.below (h : TRep w t ns N cnt) (hb : Below w.heap.size w w') : TRep w' t ns N cnt := h.keep fun b hb' _ => hb.block b hb'
theorem Tower.below (h : Tower B w t l F) (hb : Below w.heap.size w w') : Tower B w' t l F := by
  obtain ⟨ns, N, h1, h2⟩ := h
  exact ⟨ns, N, h1.below hb, h2⟩
theorem Tower.fr (h : Tower B w t l F) (hf : Fr B M w w') (hM : ∀ b ∈ F, ¬ M b) : Tower B w' t l F := by
  obtain ⟨ns, N, h1, h2, h3, h4, rfl, h6⟩ := h
  refine ⟨ns, N, h1.keep fun b hb hm => hf.block b hb (.inr (.inl (hM b ?_))), h2, h3, h4, rfl, h6⟩
  rcases hm with rfl | hm
  · simp
  · simp [hm]
theorem Tower.lt (h : Tower B w t l F) : ∀ b ∈ F, b < w.heap.size := by
  obtain ⟨ns, N, h1, h2, h3, h4, rfl, h6⟩ := h
  intro b hb
  rcases List.mem_cons.1 hb with rfl | hb
  · exact h1.head.lt
  · obtain ⟨nd, hnd, rfl⟩ := List.mem_map.1 hb
    exact (h1.node nd hnd).lt
theorem Tower.mut (h : Tower B w t l F) : ∀ b ∈ F, ∃ cs T fz, w.heap[b]? = some (.cells cs T fz) ∧ mutT T = true := by
  obtain ⟨ns, N, h1, h2, h3, h4, rfl, h6⟩ := h
  intro b hb
  rcases List.mem_cons.1 hb with rfl | hb
  · exact ⟨_, _, _, h1.head, by decide⟩
  · obtain ⟨nd, hnd, rfl⟩ := List.mem_map.1 hb
    exact ⟨_, _, _, h1.node nd hnd, by decide⟩
theorem Tower.rises (h : Tower B w t l F) : Rises l := by
  obtain ⟨ns, N, h1, h2, h3, rfl, _⟩ := h; exact h3.rises
theorem Tower.ok (h : Tower B w t l F) : ∀ e ∈ l, EntOk e := by
  obtain ⟨ns, N, h1, h2, h3, rfl, _⟩ := h
  intro e he
  obtain ⟨nd, hnd, rfl⟩ := List.mem_map.1 he
  exact (h3.high nd hnd).2.2
theorem Tower.drewN (h : Tower B w t l F) (n : Nat) : Tower B (w.drewN n) t l F := by
  obtain ⟨ns, N, h1, h2⟩ := h
  exact ⟨ns, N, ⟨h1.head, h1.node⟩, h2⟩
theorem TRep.ne (h : TRep w t ns N cnt) : ∀ nd ∈ ns, nd.b ≠ t := by
  intro nd hnd e
  have h1 := h.node nd hnd
  have h2 := h.head
  unfold Blk at h1 h2
  rw [e, h2] at h1
  injection h1 with h1
  injection h1 with _ h1
  exact absurd h1 (by decide)
end

/-! ### the way to a key -/
/-- The pointer to position i: 0: the head; else the node ahead of it in number. -/
def blkOf (t : Nat) (ns : List Nd) (i : Nat) : Nat := if i = 0 then t else ((ns[i - 1]?).map Nd.b).getD 0
def hOf (ns : List Nd) (i : Nat) : Nat := if i = 0 then 4 else ((ns[i - 1]?).map Nd.h).getD 0
/-- Position i is the last one on floor f among the first m. -/
def IsLast (ns : List Nd) (m f i : Nat) : Prop := i ≤ m ∧ f < hOf ns i ∧ ∀ j, i < j → j ≤ m → hOf ns j ≤ f
theorem hOf_succ {ns : List Nd} {i : Nat} {nd : Nd} (h : ns[i]? = some nd) : hOf ns (i + 1) = nd.h := by simp [hOf, h]
theorem blkOf_succ {t : Nat} {ns : List Nd} {i : Nat} {nd : Nd} (h : ns[i]? = some nd) : blkOf t ns (i + 1) = nd.b := by simp [blkOf, h]
/-- What the pointer on floor f of position i is. -/
theorem TVal.at_ {t : Nat} {ns : List Nd} {N : Nat → Nat → Option Addr} (h : TVal t ns N) {i f : Nat} (hi : i ≤ ns.length) (hf : f < hOf ns i) (h4 : f < 4) : N (blkOf t ns i) f = nxt f (ns.drop i) := by
  cases i with
  | zero => simpa [blkOf] using h.head f h4
  | succ i =>
    obtain ⟨nd, hnd, _⟩ := getElem?_of_lt (show i < ns.length by omega)
    rw [hOf_succ hnd] at hf
    rw [blkOf_succ hnd, h.node i nd hnd f hf]
theorem nxt_none {f : Nat} : ∀ {l : List Nd}, nxt f l = none → ∀ nd ∈ l, nd.h ≤ f
  | [], _, nd, h => by cases h
  | x :: l, h, nd, hm => by
    unfold nxt at h
    split at h
    · cases h
    · rcases List.mem_cons.1 hm with rfl | hm
      · omega
      · exact nxt_none h nd hm
theorem nxt_some {f : Nat} {a : Addr} : ∀ {l : List Nd}, nxt f l = some a → ∃ (j : Nat) (nd : Nd), l[j]? = some nd ∧ f < nd.h ∧ a = ⟨nd.b, 0, none⟩ ∧ ∀ (j' : Nat) (nd' : Nd), j' < j → l[j']? = some nd' → nd'.h ≤ f
  | [], h => by cases h
  | x :: l, h => by
    unfold nxt at h
    split at h
    · rename_i hx
      exact ⟨0, x, rfl, hx, (Option.some.inj h).symm, fun j' nd' hj _ => by omega⟩
    · rename_i hx
      obtain ⟨j, nd, h1, h2, h3, h4⟩ := nxt_some h
      refine ⟨j + 1, nd, h1, h2, h3, fun j' nd' hj hnd => ?_⟩
      cases j' with
      | zero => simp at hnd; subst hnd; omega
      | succ j' => exact h4 j' nd' (by omega) hnd
theorem nxt_at {f : Nat} {l : List Nd} {j : Nat} {nd : Nd} (h1 : l[j]? = some nd) (h2 : f < nd.h) (h3 : ∀ (j' : Nat) (nd' : Nd), j' < j → l[j']? = some nd' → nd'.h ≤ f) : nxt f l = some ⟨nd.b, 0, none⟩ := by
  induction l generalizing j with
  | nil => simp at h1
  | cons x l ih =>
    unfold nxt
    cases j with
    | zero => simp at h1; subst h1; rw [if_pos h2]
    | succ j =>
      have hx := h3 0 x (by omega) rfl
      rw [if_neg (by omega)]
      exact ih (by simpa using h1) (fun j' nd' hj hnd => h3 (j' + 1) nd' (by omega) (by simpa using hnd))
theorem nxt_none_of {f : Nat} {l : List Nd} (h : ∀ nd ∈ l, nd.h ≤ f) : nxt f l = none := by
  induction l with
  | nil => rfl
  | cons x l ih =>
    unfold nxt
    rw [if_neg (by have := h x (by simp); omega)]
    exact ih fun nd hnd => h nd (by simp [hnd])

/-- How many entries are below a key. -/
def below (ns : List Nd) (k : ByteArray) : Nat := (ns.takeWhile fun nd => ltB nd.e.k k).length
theorem below_le (ns : List Nd) (k : ByteArray) : below ns k ≤ ns.length := by
  unfold below; exact (List.takeWhile_sublist _).length_le
theorem below_lt {ns : List Nd} (hr : Rises (ns.map Nd.e)) (k : ByteArray) : ∀ (i : Nat) (nd : Nd), ns[i]? = some nd → (ltB nd.e.k k = true ↔ i < below ns k) := by
  induction ns with
  | nil => intro i nd h; simp at h
  | cons x ns ih =>
    intro i nd h
    rw [List.map_cons, rises_cons] at hr
    unfold below
    cases hx : ltB x.e.k k
    · rw [List.takeWhile_cons, hx]
      simp only [Bool.false_eq_true, if_false, List.length_nil, Nat.not_lt_zero, iff_false]
      intro hlt
      cases i with
      | zero => simp at h; subst h; rw [hx] at hlt; cases hlt
      | succ i =>
        simp at h
        have := hr.1 nd.e (List.mem_map.2 ⟨nd, List.mem_of_getElem? h, rfl⟩)
        rw [ltB_trans this hlt] at hx
        cases hx
    · rw [List.takeWhile_cons, hx]
      simp only [if_true, List.length_cons]
      cases i with
      | zero => simp at h; subst h; simp [hx]
      | succ i =>
        simp at h
        rw [ih hr.2 i nd h]
        unfold below
        omega

/-! ### a node is put in -/
theorem nxt_append (f : Nat) (a b : List Nd) : nxt f (a ++ b) = (nxt f a).or (nxt f b) := by
  induction a with
  | nil => rfl
  | cons x a ih =>
    rw [List.cons_append, nxt, nxt]
    split
    · rfl
    · exact ih
theorem nxt_drop {f m i : Nat} {ns : List Nd} (hi : i ≤ m) (hm : m ≤ ns.length) : nxt f (ns.drop i) = (nxt f ((ns.take m).drop i)).or (nxt f (ns.drop m)) := by
  rw [← nxt_append]
  congr 1
  have h : ns = ns.take m ++ ns.drop m := (List.take_append_drop m ns).symm
  have h2 : (ns.take m ++ ns.drop m).drop i = (ns.take m).drop i ++ ns.drop m := by
    rw [List.drop_append, show i - (ns.take m).length = 0 by rw [List.length_take]; omega, List.drop_zero]
  rw [← h2, ← h]
theorem nxt_last_none {f m i : Nat} {ns : List Nd} (hm : m ≤ ns.length) (h : IsLast ns m f i) : nxt f ((ns.take m).drop i) = none := by
  refine nxt_none_of fun nd hnd => ?_
  obtain ⟨j, hj⟩ := List.getElem?_of_mem hnd
  rw [List.getElem?_drop, List.getElem?_take] at hj
  split at hj
  · rename_i hlt
    have h1 := h.2.2 (i + j + 1) (by omega) (by omega)
    rw [hOf_succ hj] at h1
    exact h1
  · cases hj
theorem nxt_before_some {f m i q : Nat} {ns : List Nd} (hm : m ≤ ns.length) (h : IsLast ns m f q) (hi : i < q) : ∃ a, nxt f ((ns.take m).drop i) = some a := by
  cases hx : nxt f ((ns.take m).drop i) with
  | some a => exact ⟨a, rfl⟩
  | none =>
    have hq := h.1
    obtain ⟨nd, hnd, _⟩ := getElem?_of_lt (show q - 1 < ns.length by omega)
    have h1 := hOf_succ hnd
    rw [show q - 1 + 1 = q by omega] at h1
    have h2 := nxt_none hx nd (by
      rw [List.mem_iff_getElem?]
      exact ⟨q - 1 - i, by rw [List.getElem?_drop, show i + (q - 1 - i) = q - 1 by omega, List.getElem?_take, if_pos (by omega)]; exact hnd⟩)
    have h3 := h.2.1
    omega
theorem last_le {f m i q : Nat} {ns : List Nd} (h : IsLast ns m f q) (hi : i ≤ m) (hf : f < hOf ns i) : i ≤ q := by
  rcases Nat.lt_or_ge q i with hlt | hge
  · have := h.2.2 i hlt hi; omega
  · exact hge
/-- Two positions of one block are one. -/
theorem blkOf_inj {t : Nat} {ns : List Nd} (hn : (t :: ns.map Nd.b).Nodup) {i j : Nat} (hi : i ≤ ns.length) (hj : j ≤ ns.length) (h : blkOf t ns i = blkOf t ns j) : i = j := by
  have e : ∀ k, k ≤ ns.length → (t :: ns.map Nd.b)[k]? = some (blkOf t ns k) := by
    intro k hk
    cases k with
    | zero => rfl
    | succ k =>
      obtain ⟨nd, hnd, _⟩ := getElem?_of_lt (show k < ns.length by omega)
      rw [blkOf_succ hnd, List.getElem?_cons_succ, List.getElem?_map, hnd]; rfl
  have h1 := e i hi
  have h2 := e j hj
  rw [h] at h1
  exact (List.getElem?_inj (show i < (t :: ns.map Nd.b).length by simp; omega) hn).1 (h1.trans h2.symm)
theorem blkOf_mem {t : Nat} {ns : List Nd} {i : Nat} (hi : i ≤ ns.length) : blkOf t ns i = t ∨ blkOf t ns i ∈ ns.map Nd.b := by
  cases i with
  | zero => exact .inl rfl
  | succ i =>
    obtain ⟨nd, hnd, _⟩ := getElem?_of_lt (show i < ns.length by omega)
    rw [blkOf_succ hnd]
    exact .inr (List.mem_map.2 ⟨nd, List.mem_of_getElem? hnd, rfl⟩)

/-- The pointers behind f floors of a node nb that is put in behind the blocks W. -/
def putN (N : Nat → Nat → Option Addr) (nb : Nat) (W : Nat → Nat) (f : Nat) : Nat → Nat → Option Addr :=
  fun b g => if g < f then (if b = nb then N (W g) g else if b = W g then some ⟨nb, 0, none⟩ else N b g) else if b = nb then none else N b g
def upd (N : Nat → Nat → Option Addr) (b f : Nat) (v : Option Addr) : Nat → Nat → Option Addr := fun b' g => if b' = b ∧ g = f then v else N b' g
theorem putN_succ (N : Nat → Nat → Option Addr) (nb : Nat) (W : Nat → Nat) (f : Nat) (hW : W f ≠ nb) : putN N nb W (f + 1) = upd (upd (putN N nb W f) nb f (N (W f) f)) (W f) f (some ⟨nb, 0, none⟩) := by
  funext b g
  unfold putN upd
  by_cases hg : g = f
  · subst hg
    by_cases hb : b = nb
    · subst hb; simp [Ne.symm hW]
    · by_cases hb2 : b = W g
      · subst hb2; simp [hW]
      · simp [hb, hb2]
  · have h1 : (g < f + 1) ↔ (g < f) := by omega
    simp [hg, h1]
theorem TRep.set_ {w : World} {t : Nat} {ns : List Nd} {N : Nat → Nat → Option Addr} {cnt : Int} (h : TRep w t ns N cnt) (hn : (t :: ns.map Nd.b).Nodup) {b f : Nat} (hb : b = t ∨ b ∈ ns.map Nd.b) (hf : f < 4) (v : Option Addr) :
    TRep (w.setCell ⟨b, 3 + f, none⟩ (.pointer v)) t ns (upd N b f v) cnt := by
  have hnd := List.nodup_cons.1 hn
  have hhead : ∀ c, (upd N b f v) c = if c = b then (fun g => if g = f then v else N b g) else N c := by
    intro c; funext g; unfold upd; by_cases hc : c = b
    · subst hc; simp
    · simp [hc]
  refine ⟨?_, fun nd hmem => ?_⟩
  · rw [hhead]
    by_cases hbt : b = t
    · subst hbt
      rw [if_pos rfl]
      have h1 := h.head.set_ (3 + f) (.pointer v)
      match f, hf with
      | 0, _ => exact h1
      | 1, _ => exact h1
      | 2, _ => exact h1
      | 3, _ => exact h1
    · rw [if_neg (Ne.symm hbt)]
      exact h.head.far (Ne.symm hbt) _
  · rw [hhead]
    by_cases hbn : b = nd.b
    · subst hbn
      rw [if_pos rfl]
      have h1 := (h.node nd hmem).set_ (3 + f) (.pointer v)
      match f, hf with
      | 0, _ => exact h1
      | 1, _ => exact h1
      | 2, _ => exact h1
      | 3, _ => exact h1
    · rw [if_neg (Ne.symm hbn)]
      exact (h.node nd hmem).far (Ne.symm hbn) _

theorem TVal.put {t : Nat} {ns : List Nd} {N : Nat → Nat → Option Addr} {m nb h : Nat} {e : Ent} {q : Nat → Nat} (hv : TVal t ns N) (ho : TOk ns) (hm : m ≤ ns.length) (hh : 1 ≤ h ∧ h ≤ 4) (hn : (t :: ns.map Nd.b).Nodup)
    (hnb : nb ≠ t ∧ nb ∉ ns.map Nd.b) (hq : ∀ f, f < 4 → IsLast ns m f (q f)) :
    TVal t (ns.take m ++ ⟨nb, e, h⟩ :: ns.drop m) (putN N nb (fun f => blkOf t ns (q f)) h) := by
  -- a position at or ahead of m
  have low : ∀ i f, i ≤ m → f < 4 → f < hOf ns i → putN N nb (fun f => blkOf t ns (q f)) h (blkOf t ns i) f = nxt f ((ns.take m).drop i ++ ⟨nb, e, h⟩ :: ns.drop m) := by
    intro i f hi hf4 hfi
    have hne : blkOf t ns i ≠ nb := by
      rcases blkOf_mem (t := t) (ns := ns) (i := i) (by omega) with h1 | h1
      · rw [h1]; exact fun e => hnb.1 e.symm
      · intro e; rw [e] at h1; exact hnb.2 h1
    have hat := hv.at_ (i := i) (f := f) (by omega) hfi hf4
    rw [nxt_append, nxt]
    unfold putN
    rw [if_neg hne, if_neg hne]
    by_cases hfh : f < h
    · rw [if_pos hfh, if_pos hfh]
      by_cases hiq : i = q f
      · subst hiq
        rw [if_pos rfl, nxt_last_none hm (hq f hf4)]; rfl
      · rw [if_neg (fun e => hiq (blkOf_inj hn (by omega) (by have := (hq f hf4).1; omega) e)), hat, nxt_drop hi hm]
        have hlt : i < q f := by have := last_le (hq f hf4) hi hfi; omega
        obtain ⟨a, ha⟩ := nxt_before_some hm (hq f hf4) hlt
        rw [ha]; rfl
    · rw [if_neg hfh, if_neg hfh, hat, nxt_drop hi hm]
  have htl : (ns.take m).length = m := by rw [List.length_take]; omega
  refine ⟨fun f hf => ?_, fun i nd hi f hf => ?_⟩
  · have := low 0 f (Nat.zero_le _) hf (by simpa [hOf] using hf)
    simpa [blkOf] using this
  · rcases Nat.lt_or_ge i m with hlt | hge
    · rw [List.getElem?_append_left (by omega), List.getElem?_take, if_pos hlt] at hi
      have h4 := (ho.high nd (List.mem_of_getElem? hi)).2.1
      have := low (i + 1) f (by omega) (by omega) (by rw [hOf_succ hi]; exact hf)
      rw [blkOf_succ hi] at this
      rw [this, List.drop_append, show i + 1 - (ns.take m).length = 0 by omega, List.drop_zero]
    · rw [List.getElem?_append_right (by omega), htl] at hi
      rcases Nat.eq_or_lt_of_le hge with heq | hgt
      · subst heq
        rw [Nat.sub_self, List.getElem?_cons_zero] at hi
        obtain rfl := Option.some.inj hi
        simp only at hf
        have hqm := hq f (by omega)
        unfold putN
        rw [if_pos hf, if_pos rfl, hv.at_ (by have := hqm.1; omega) hqm.2.1 (by omega), nxt_drop hqm.1 hm, nxt_last_none hm hqm]
        have hd : (ns.take m).drop (m + 1) = [] := List.drop_eq_nil_of_le (by omega)
        rw [List.drop_append, hd, htl, show m + 1 - m = 1 by omega]
        rfl
      · rw [show i - m = (i - m - 1) + 1 by omega, List.getElem?_cons_succ, List.getElem?_drop, show m + (i - m - 1) = i - 1 by omega] at hi
        have hne : nd.b ≠ nb := fun e => hnb.2 (List.mem_map.2 ⟨nd, List.mem_of_getElem? hi, e⟩)
        have hil : i - 1 < ns.length := (List.getElem?_eq_some_iff.1 hi).1
        have h4 := (ho.high nd (List.mem_of_getElem? hi)).2.1
        have hbl := blkOf_succ (t := t) hi
        rw [show i - 1 + 1 = i by omega] at hbl
        have hnW : nd.b ≠ blkOf t ns (q f) := by
          rw [← hbl]
          intro e
          have h1 := (hq f (by omega)).1
          have := blkOf_inj hn (by omega) (by omega) e
          omega
        have hval := hv.node (i - 1) nd hi f hf
        rw [show i - 1 + 1 = i by omega] at hval
        have hput : putN N nb (fun f => blkOf t ns (q f)) h nd.b f = N nd.b f := by
          unfold putN
          rw [if_neg hne, if_neg hne, if_neg hnW]
          split <;> rfl
        have hd : (ns.take m).drop (i + 1) = [] := List.drop_eq_nil_of_le (by omega)
        rw [hput, hval, List.drop_append, hd, htl, List.nil_append, show i + 1 - m = (i - m) + 1 by omega, List.drop_succ_cons, List.drop_drop, show m + (i - m) = i by omega]

/-! ### what putting makes of the entries -/
theorem merge2_at (e : Ent) : ∀ (l : List Ent), merge2 [e] l = l.takeWhile (fun x => ltB x.k e.k) ++ e :: (match l.dropWhile (fun x => ltB x.k e.k) with | [] => [] | x :: r => if x.k = e.k then r else x :: r)
  | [] => by simp [merge2]
  | x :: l => by
    rw [merge2]
    cases h1 : ltB e.k x.k
    · cases h2 : ltB x.k e.k
      · have hk := ltB_tri h1 h2
        rw [List.takeWhile_cons, h2, List.dropWhile_cons, h2]
        simp [hk, merge2]
      · rw [List.takeWhile_cons, h2, List.dropWhile_cons, h2]
        simp only [Bool.false_eq_true, if_false, if_true, List.cons_append]
        rw [merge2_at e l]
    · have h2 := ltB_asymm h1
      rw [List.takeWhile_cons, h2, List.dropWhile_cons, h2]
      have hk := (ltB_ne h1).symm
      simp [hk, merge2]
theorem takeWhile_map' (p : Ent → Bool) : ∀ ns : List Nd, (ns.map Nd.e).takeWhile p = (ns.takeWhile fun nd => p nd.e).map Nd.e
  | [] => rfl
  | x :: ns => by
    rw [List.map_cons, List.takeWhile_cons, List.takeWhile_cons]
    split
    · rw [takeWhile_map' p ns]; rfl
    · rfl
theorem dropWhile_map' (p : Ent → Bool) : ∀ ns : List Nd, (ns.map Nd.e).dropWhile p = (ns.dropWhile fun nd => p nd.e).map Nd.e
  | [] => rfl
  | x :: ns => by
    rw [List.map_cons, List.dropWhile_cons, List.dropWhile_cons]
    split
    · rw [dropWhile_map' p ns]
    · rfl
theorem take_while (p : Nd → Bool) : ∀ ns : List Nd, ns.takeWhile p = ns.take (ns.takeWhile p).length ∧ ns.dropWhile p = ns.drop (ns.takeWhile p).length
  | [] => ⟨rfl, rfl⟩
  | x :: ns => by
    rw [List.takeWhile_cons, List.dropWhile_cons]
    split
    · obtain ⟨h1, h2⟩ := take_while p ns
      exact ⟨by rw [List.length_cons, List.take_succ_cons, ← h1], by rw [List.length_cons, List.drop_succ_cons, ← h2]⟩
    · exact ⟨rfl, rfl⟩
theorem put_at {ns : List Nd} (hr : Rises (ns.map Nd.e)) (e : Ent) : putE (ns.map Nd.e) e = (ns.take (below ns e.k)).map Nd.e ++ e :: (match ns.drop (below ns e.k) with | [] => [] | x :: r => if x.e.k = e.k then r.map Nd.e else (x :: r).map Nd.e) := by
  obtain ⟨h1, h2⟩ := take_while (fun nd => ltB nd.e.k e.k) ns
  rw [putE_eq e _ hr, merge2_at, takeWhile_map', dropWhile_map', h1, h2]
  unfold below
  congr 2
  cases ns.drop (ns.takeWhile fun nd => ltB nd.e.k e.k).length with
  | nil => rfl
  | cons x r => simp only [List.map_cons]

/-! ### an entry takes another one's place -/
def sh (l : List Nd) : List (Nat × Nat) := l.map fun nd => (nd.b, nd.h)
theorem nxt_sh (f : Nat) : ∀ {a b : List Nd}, sh a = sh b → nxt f a = nxt f b
  | [], [], _ => rfl
  | [], y :: b, h => by simp [sh] at h
  | x :: a, [], h => by simp [sh] at h
  | x :: a, y :: b, h => by
    simp only [sh, List.map_cons, List.cons.injEq, Prod.mk.injEq] at h
    obtain ⟨⟨h1, h2⟩, h3⟩ := h
    rw [nxt, nxt, h1, h2, nxt_sh f h3]
theorem TVal.same {t : Nat} {ns ns' : List Nd} {N : Nat → Nat → Option Addr} (h : TVal t ns N) (hs : sh ns' = sh ns) : TVal t ns' N := by
  refine ⟨fun f hf => (h.head f hf).trans (nxt_sh f hs.symm), fun i nd hi f hf => ?_⟩
  have h1 : (sh ns')[i]? = some (nd.b, nd.h) := by rw [sh, List.getElem?_map, hi]; rfl
  rw [hs, sh, List.getElem?_map] at h1
  cases hx : ns[i]? with
  | none => rw [hx] at h1; cases h1
  | some nd' =>
    rw [hx] at h1
    simp at h1
    rw [← h1.1, h.node i nd' hx f (by omega)]
    refine nxt_sh f ?_
    have e : ∀ l : List Nd, sh (l.drop (i + 1)) = (sh l).drop (i + 1) := fun l => by rw [sh, sh, List.map_drop]
    rw [e, e, hs]
theorem split_at {ns : List Nd} {m : Nat} {nd : Nd} (h : ns[m]? = some nd) : ns = ns.take m ++ nd :: ns.drop (m + 1) := by
  have hlt : m < ns.length := (List.getElem?_eq_some_iff.1 h).1
  have h1 := List.drop_eq_getElem_cons hlt
  rw [(List.getElem?_eq_some_iff.1 h).2] at h1
  rw [← h1, List.take_append_drop]
theorem sh_put {ns : List Nd} {m : Nat} {nd : Nd} (h : ns[m]? = some nd) (e : Ent) : sh (ns.take m ++ ⟨nd.b, e, nd.h⟩ :: ns.drop (m + 1)) = sh ns := by
  have h1 : sh ns = sh (ns.take m ++ nd :: ns.drop (m + 1)) := by rw [← split_at h]
  rw [h1]; simp [sh]
theorem TRep.put_ {w : World} {t : Nat} {ns : List Nd} {N : Nat → Nat → Option Addr} {cnt : Int} (h : TRep w t ns N cnt) (hn : (t :: ns.map Nd.b).Nodup) {m : Nat} {nd : Nd} (hm : ns[m]? = some nd) (e : Ent) :
    TRep (((w.setCell ⟨nd.b, 0, none⟩ (.string e.k)).setCell ⟨nd.b, 1, none⟩ (.string e.v)).setCell ⟨nd.b, 2, none⟩ (.bool e.g)) t (ns.take m ++ ⟨nd.b, e, nd.h⟩ :: ns.drop (m + 1)) N cnt := by
  have hsp := split_at hm
  have hmem := List.mem_of_getElem? hm
  have hbt : nd.b ≠ t := by
    intro e'
    have := (List.nodup_cons.1 hn).1
    exact this (e' ▸ List.mem_map.2 ⟨nd, hmem, rfl⟩)
  have hfar : ∀ {g T cs}, g ≠ nd.b → Blk w g T cs → Blk (((w.setCell ⟨nd.b, 0, none⟩ (.string e.k)).setCell ⟨nd.b, 1, none⟩ (.string e.v)).setCell ⟨nd.b, 2, none⟩ (.bool e.g)) g T cs :=
    fun hg hb => ((hb.far hg _).far hg _).far hg _
  have hn2 := (List.nodup_cons.1 hn).2
  rw [hsp, List.map_append, List.map_cons, List.nodup_append] at hn2
  refine ⟨hfar (Ne.symm hbt) h.head, fun x hx => ?_⟩
  rcases List.mem_append.1 hx with hx | hx
  · have hne : x.b ≠ nd.b := hn2.2.2 x.b (List.mem_map.2 ⟨x, hx, rfl⟩) nd.b (by simp)
    exact hfar hne (h.node x (List.mem_of_mem_take hx))
  · rcases List.mem_cons.1 hx with rfl | hx
    · have h1 := (((h.node nd hmem).set_ 0 (.string e.k)).set_ 1 (.string e.v)).set_ 2 (.bool e.g)
      exact h1
    · have hne : x.b ≠ nd.b := by
        intro e'
        have := (List.nodup_cons.1 hn2.2.1).1
        exact this (e' ▸ List.mem_map.2 ⟨x, hx, rfl⟩)
      exact hfar hne (h.node x (List.mem_of_mem_drop hx))

theorem TRep.cell_ {w : World} {t : Nat} {ns : List Nd} {N : Nat → Nat → Option Addr} {cnt : Int} (h : TRep w t ns N cnt) {b f : Nat} (hb : b = t ∨ b ∈ ns.map Nd.b) (hf : f < 4) :
    w.cell? ⟨b, 3 + f, none⟩ = some (.pointer (N b f)) ∧ w.frozen? ⟨b, 3 + f, none⟩ = false := by
  rcases hb with rfl | hb
  · refine ⟨?_, h.head.frozen _⟩
    rw [h.head.cell]
    match f, hf with
    | 0, _ => rfl
    | 1, _ => rfl
    | 2, _ => rfl
    | 3, _ => rfl
  · obtain ⟨nd, hnd, rfl⟩ := List.mem_map.1 hb
    refine ⟨?_, (h.node nd hnd).frozen _⟩
    rw [(h.node nd hnd).cell]
    match f, hf with
    | 0, _ => rfl
    | 1, _ => rfl
    | 2, _ => rfl
    | 3, _ => rfl

/-- Four positions as a function of the floor. -/
def at4 (i0 i1 i2 i3 : Nat) : Nat → Nat
  | 0 => i0
  | 1 => i1
  | 2 => i2
  | _ => i3
/-- What holds when f floors of the new node are done. -/
structure TPut (B : Nat) (w wr : World) (t : Nat) (ns : List Nd) (N : Nat → Nat → Option Addr) (a nb : Nat) (T : TypeId) (q : Nat → Nat) (e : Ent) (h f : Nat) : Prop where
  rep : TRep wr t (⟨nb, e, h⟩ :: ns) (putN N nb (fun f => blkOf t ns (q f)) f) ns.length
  arr : Blk wr a T #[.pointer (some ⟨blkOf t ns (q 0), 0, none⟩), .pointer (some ⟨blkOf t ns (q 1), 0, none⟩), .pointer (some ⟨blkOf t ns (q 2), 0, none⟩), .pointer (some ⟨blkOf t ns (q 3), 0, none⟩)]
  fr : Fr B (· ∈ t :: ns.map Nd.b) w wr
  new : w.heap.size ≤ nb
section
variable {B : Nat} {w wr : World} {t : Nat} {ns : List Nd} {N : Nat → Nat → Option Addr} {a nb : Nat} {T : TypeId} {q : Nat → Nat} {e : Ent} {h f : Nat}
theorem TPut.nodup (hp : TPut B w wr t ns N a nb T q e h f) (hold : TRep w t ns N ns.length) (hn : (t :: ns.map Nd.b).Nodup) : (t :: (Nd.mk nb e h :: ns).map Nd.b).Nodup := by
  have h1 : ∀ b ∈ t :: ns.map Nd.b, b < w.heap.size := by
    intro b hb
    rcases List.mem_cons.1 hb with rfl | hb
    · exact hold.head.lt
    · obtain ⟨nd, hnd, rfl⟩ := List.mem_map.1 hb; exact (hold.node nd hnd).lt
  have h2 := hp.new
  have hnd := List.nodup_cons.1 hn
  rw [List.map_cons, List.nodup_cons, List.nodup_cons]
  refine ⟨?_, ?_, hnd.2⟩
  · intro hm
    rcases List.mem_cons.1 hm with e1 | hm
    · have := h1 t (by simp); simp at e1; omega
    · exact hnd.1 hm
  · intro hm
    have := h1 nb (List.mem_cons_of_mem _ hm); omega
theorem TPut.facts (hp : TPut B w wr t ns N a nb T q e h f) (hold : TRep w t ns N ns.length) (hq : q f ≤ ns.length) (hf : f < 4) :
    wr.cell? ⟨a, f, none⟩ = some (.pointer (some ⟨blkOf t ns (q f), 0, none⟩)) ∧ wr.cell? ⟨blkOf t ns (q f), 3 + f, none⟩ = some (.pointer (N (blkOf t ns (q f)) f)) ∧ wr.frozen? ⟨blkOf t ns (q f), 3 + f, none⟩ = false ∧
      (∃ v, wr.cell? ⟨nb, 3 + f, none⟩ = some v) ∧ wr.frozen? ⟨nb, 3 + f, none⟩ = false ∧ blkOf t ns (q f) ≠ nb ∧ blkOf t ns (q f) < w.heap.size := by
  have hlt : blkOf t ns (q f) < w.heap.size := by
    rcases blkOf_mem (t := t) hq with h1 | h1
    · rw [h1]; exact hold.head.lt
    · obtain ⟨nd, hnd, h2⟩ := List.mem_map.1 h1; rw [← h2]; exact (hold.node nd hnd).lt
  have hne : blkOf t ns (q f) ≠ nb := by have := hp.new; omega
  have hm : blkOf t ns (q f) = t ∨ blkOf t ns (q f) ∈ (Nd.mk nb e h :: ns).map Nd.b := by
    rcases blkOf_mem (t := t) hq with h1 | h1
    · exact .inl h1
    · exact .inr (List.mem_cons_of_mem _ h1)
  have h1 := hp.rep.cell_ hm hf
  have h2 := hp.rep.cell_ (b := nb) (.inr (by simp)) hf
  have h3 : putN N nb (fun f => blkOf t ns (q f)) f (blkOf t ns (q f)) f = N (blkOf t ns (q f)) f := by
    unfold putN; rw [if_neg (by omega), if_neg hne]
  rw [h3] at h1
  refine ⟨?_, h1.1, h1.2, ⟨_, h2.1⟩, h2.2, hne, hlt⟩
  rw [hp.arr.cell]
  match f, hf with
  | 0, _ => rfl
  | 1, _ => rfl
  | 2, _ => rfl
  | 3, _ => rfl
theorem TPut.step (hp : TPut B w wr t ns N a nb T q e h f) (hold : TRep w t ns N ns.length) (hn : (t :: ns.map Nd.b).Nodup) (hq : q f ≤ ns.length) (hf : f < 4) (hB : ∀ b ∈ t :: ns.map Nd.b, B ≤ b) (hBw : B ≤ w.heap.size) (ha : a ≠ nb ∧ w.heap.size ≤ a) :
    TPut B w ((wr.setCell ⟨nb, 3 + f, none⟩ (.pointer (N (blkOf t ns (q f)) f))).setCell ⟨blkOf t ns (q f), 3 + f, none⟩ (.pointer (some ⟨nb, 0, none⟩))) t ns N a nb T q e h (f + 1) := by
  obtain ⟨_, _, _, _, _, hne, hlt⟩ := hp.facts hold hq hf
  have hnd := hp.nodup hold hn
  have hmem : blkOf t ns (q f) ∈ t :: ns.map Nd.b := by
    rcases blkOf_mem (t := t) hq with h1 | h1
    · rw [h1]; simp
    · exact List.mem_cons_of_mem _ h1
  have hm : blkOf t ns (q f) = t ∨ blkOf t ns (q f) ∈ (Nd.mk nb e h :: ns).map Nd.b := by
    rcases blkOf_mem (t := t) hq with h1 | h1
    · exact .inl h1
    · exact .inr (List.mem_cons_of_mem _ h1)
  refine ⟨?_, (hp.arr.far (by exact ha.1) _).far (by simp; omega) _, ?_, hp.new⟩
  · rw [putN_succ N nb (fun f => blkOf t ns (q f)) f hne]
    exact (hp.rep.set_ hnd (.inr (by simp)) hf _).set_ hnd hm hf _
  · refine (hp.fr.setCell (p := ⟨nb, 3 + f, none⟩) (Nat.le_trans hBw hp.new) (.inr hp.new) (fun h => by have := hp.new; simp at h; omega) _).setCell (p := ⟨blkOf t ns (q f), 3 + f, none⟩) (hB _ hmem) (.inl hmem) (fun _ => ?_) _
    rcases blkOf_mem (t := t) hq with h1 | h1
    · simp only [h1]; exact ⟨_, _, _, hold.head, by decide⟩
    · obtain ⟨nd, hnd, h2⟩ := List.mem_map.1 h1
      simp only [← h2]; exact ⟨_, _, _, hold.node nd hnd, by decide⟩
theorem TPut.drew (hp : TPut B w wr t ns N a nb T q e h f) : TPut B w wr.drew t ns N a nb T q e h f :=
  ⟨⟨hp.rep.head, hp.rep.node⟩, hp.arr, ⟨hp.fr.os, hp.fr.tape, hp.fr.output, hp.fr.size, hp.fr.block⟩, hp.new⟩
theorem TPut.cnt (hp : TPut B w wr t ns N a nb T q e h f) : wr.cell? ⟨t, 7, none⟩ = some (.int .i64 ns.length) ∧ wr.frozen? ⟨t, 7, none⟩ = false := by
  refine ⟨?_, hp.rep.head.frozen _⟩
  rw [hp.rep.head.cell]; rfl
theorem TPut.done (hp : TPut B w wr t ns N a nb T q e h h) (hold : TRep w t ns N ns.length) (hv : TVal t ns N) (ho : TOk ns) (hn : (t :: ns.map Nd.b).Nodup) (hB : ∀ b ∈ t :: ns.map Nd.b, B ≤ b) (hBw : B ≤ w.heap.size) (hh : 1 ≤ h ∧ h ≤ 4) (he : EntOk e)
    {m : Nat} (hm : m ≤ ns.length) (hq : ∀ f, f < 4 → IsLast ns m f (q f)) (hput : putE (ns.map Nd.e) e = (ns.take m ++ ⟨nb, e, h⟩ :: ns.drop m).map Nd.e) :
    Tower B (wr.setCell ⟨t, 7, none⟩ (.int .i64 ((ns.length : Int) + 1))) t (putE (ns.map Nd.e) e) (t :: (ns.take m).map Nd.b ++ nb :: (ns.drop m).map Nd.b) ∧ Fr B (· ∈ t :: ns.map Nd.b) w (wr.setCell ⟨t, 7, none⟩ (.int .i64 ((ns.length : Int) + 1))) := by
  have hnd := hp.nodup hold hn
  have hlt : ∀ b ∈ t :: ns.map Nd.b, b < w.heap.size := by
    intro b hb
    rcases List.mem_cons.1 hb with rfl | hb
    · exact hold.head.lt
    · obtain ⟨nd, hnd, rfl⟩ := List.mem_map.1 hb; exact (hold.node nd hnd).lt
  have hnb := hp.new
  have hmem : ∀ x, x ∈ ns.take m ++ ⟨nb, e, h⟩ :: ns.drop m ↔ x ∈ Nd.mk nb e h :: ns := by
    intro x
    have h0 : x ∈ ns ↔ x ∈ ns.take m ∨ x ∈ ns.drop m := by rw [← List.mem_append, List.take_append_drop]
    rw [List.mem_append, List.mem_cons, List.mem_cons, h0]
    constructor
    · rintro (h | h | h) <;> simp [h]
    · rintro (h | h | h) <;> simp [h]
  have hbne : nb ≠ t ∧ nb ∉ ns.map Nd.b := ⟨fun e => by have := hlt t (by simp); omega, fun hm => by have := hlt nb (List.mem_cons_of_mem _ hm); omega⟩
  refine ⟨⟨ns.take m ++ ⟨nb, e, h⟩ :: ns.drop m, putN N nb (fun f => blkOf t ns (q f)) h, ?_, hv.put ho hm hh hn hbne hq, ⟨?_, ?_, ?_⟩, hput, ?_, ?_⟩, ?_⟩
  · have hlen : (ns.take m ++ ⟨nb, e, h⟩ :: ns.drop m).length = ns.length + 1 := by simp; omega
    rw [hlen]
    refine ⟨?_, fun nd hnd' => ?_⟩
    · have h1 := hp.rep.head.set_ 7 (.int .i64 ((ns.length : Int) + 1))
      simpa using h1
    · have h1 := (hmem nd).1 hnd'
      refine (hp.rep.node nd h1).far ?_ _
      intro e'
      have h2 := (List.nodup_cons.1 hnd).1
      exact h2 (List.mem_map.2 ⟨nd, h1, e'⟩)
  · have h1 : (ns.map Nd.b).Nodup := ho.nodup
    rw [List.map_append, List.map_cons]
    rw [← List.take_append_drop m ns, List.map_append, List.nodup_append] at h1
    rw [List.nodup_append, List.nodup_cons]
    have h2 : ∀ x, x ∈ ns.take m ∨ x ∈ ns.drop m → x.b ≠ nb := by
      intro x hx e'
      refine hbne.2 (e' ▸ List.mem_map.2 ⟨x, ?_, rfl⟩)
      rcases hx with hx | hx
      · exact List.mem_of_mem_take hx
      · exact List.mem_of_mem_drop hx
    refine ⟨h1.1, ⟨fun hx => ?_, h1.2.1⟩, fun x hx y hy => ?_⟩
    · obtain ⟨x, hx, e'⟩ := List.mem_map.1 hx; exact h2 x (.inr hx) e'
    · rcases List.mem_cons.1 hy with rfl | hy
      · intro e'; obtain ⟨x', hx', e2⟩ := List.mem_map.1 hx; exact h2 x' (.inl hx') (e2.trans e')
      · exact h1.2.2 x hx y hy
  · intro nd hnd'
    rcases List.mem_cons.1 ((hmem nd).1 hnd') with rfl | h1
    · exact ⟨hh.1, hh.2, he⟩
    · exact ho.high nd h1
  · rw [← hput]; exact rises_put ho.rises e
  · simp
  · intro b hb
    simp only [List.cons_append, List.mem_cons, List.mem_append] at hb
    have h2 : ∀ b, b ∈ (ns.take m).map Nd.b ∨ b ∈ (ns.drop m).map Nd.b → B ≤ b := by
      intro b hb
      refine hB b (List.mem_cons_of_mem _ ?_)
      rcases hb with hb | hb
      · obtain ⟨x, hx, rfl⟩ := List.mem_map.1 hb; exact List.mem_map.2 ⟨x, List.mem_of_mem_take hx, rfl⟩
      · obtain ⟨x, hx, rfl⟩ := List.mem_map.1 hb; exact List.mem_map.2 ⟨x, List.mem_of_mem_drop hx, rfl⟩
    rcases hb with rfl | hb | rfl | hb
    · exact hB _ (by simp)
    · exact h2 b (.inl hb)
    · omega
    · exact h2 b (.inr hb)
  · exact hp.fr.setCell (p := ⟨t, 7, none⟩) (hB t (by simp)) (.inl (by simp)) (fun _ => ⟨_, _, _, hold.head, by decide⟩) _
end
end Go.Proofs.Ytaepdbkfaoiimaa
/- The contracts of package tower: way, New, Get, Many, All, Put. Conditions: a million entries at most. -/
set_option linter.unusedVariables false
set_option linter.unusedSimpArgs false
namespace Go.Proofs.Ytaepdbkfaoiimaa
open Go.RowKit

/-- The cells of a position: its pointer on floor f. -/
theorem TRep.ptr {w : World} {t : Nat} {ns : List Nd} {N : Nat → Nat → Option Addr} {cnt : Int} (h : TRep w t ns N cnt) {i f : Nat} (hi : i ≤ ns.length) (hf : f < 4) : w.cell? ⟨blkOf t ns i, 3 + f, none⟩ = some (.pointer (N (blkOf t ns i) f)) := by
  cases i with
  | zero =>
    rw [show blkOf t ns 0 = t from rfl, h.head.cell]
    match f, hf with
    | 0, _ => rfl
    | 1, _ => rfl
    | 2, _ => rfl
    | 3, _ => rfl
  | succ i =>
    obtain ⟨nd, hnd, _⟩ := getElem?_of_lt (show i < ns.length by omega)
    rw [blkOf_succ hnd, (h.node nd (List.mem_of_getElem? hnd)).cell]
    match f, hf with
    | 0, _ => rfl
    | 1, _ => rfl
    | 2, _ => rfl
    | 3, _ => rfl

/-- A floor is done: the way's array has its position. -/
theorem way_step {t m f i : Nat} {ns : List Nd} {q : Nat → Nat} {w wo : World} {cs : Array Value} {T : TypeId} (hcs : Blk wo (w.heap.size + 1) T cs) (hsz : cs.size = 4)
    (hcg : ∀ g, f + 1 ≤ g → g < 4 → cs[g]? = some (.pointer (some ⟨blkOf t ns (q g), 0, none⟩))) (hf4 : f < 4) (hq : ∀ g, f + 1 ≤ g → g < 4 → IsLast ns m g (q g)) (hl : IsLast ns m f i)
    (hk0 : Blk wo w.heap.size T #[.pointer none, .pointer none, .pointer none, .pointer none]) (hbl : Below w.heap.size w wo) (hfh : f < hOf ns i) :
    ∃ (f' i' : Nat) (q' : Nat → Nat), Value.int .i64 ((f : Int) - 1) = .int .i64 ((f' : Int) - 1) ∧ f' ≤ 4 ∧ Value.pointer (some ⟨blkOf t ns i, 0, none⟩) = .pointer (some ⟨blkOf t ns i', 0, none⟩) ∧ Hid (i' ≤ m ∧ f' ≤ hOf ns i') ∧ Hid (∀ g, f' ≤ g → g < 4 → IsLast ns m g (q' g)) ∧
      Hid (Blk (wo.setCell ⟨w.heap.size + 1, f, none⟩ (.pointer (some ⟨blkOf t ns i, 0, none⟩))) w.heap.size T #[.pointer none, .pointer none, .pointer none, .pointer none]) ∧
      Hid (∃ cs : Array Value, Blk (wo.setCell ⟨w.heap.size + 1, f, none⟩ (.pointer (some ⟨blkOf t ns i, 0, none⟩))) (w.heap.size + 1) T cs ∧ cs.size = 4 ∧ ∀ g, f' ≤ g → g < 4 → cs[g]? = some (.pointer (some ⟨blkOf t ns (q' g), 0, none⟩))) ∧
      Below w.heap.size w (wo.setCell ⟨w.heap.size + 1, f, none⟩ (.pointer (some ⟨blkOf t ns i, 0, none⟩))) := by
  refine ⟨f, i, fun g => if g = f then i else q g, rfl, by omega, rfl, ⟨hl.1, by omega⟩, fun g h1 h2 => ?_, hk0.far (by simp) _, ⟨_, hcs.set_ f _, by simp [hsz], fun g h1 h2 => ?_⟩, hbl.setCell (by simp) _⟩
  · by_cases hg : g = f
    · subst hg; simpa using hl
    · simp only [if_neg hg]; exact hq g (by omega) h2
  · by_cases hg : g = f
    · subst hg; simp [hsz, hf4]
    · rw [Array.getElem?_setIfInBounds_ne (by omega)]
      simp only [if_neg hg]; exact hcg g (by omega) h2

set_option maxHeartbeats 2000000 in
theorem way_any (t : Nat) (ns : List Nd) (N : Nat → Nat → Option Addr) (cnt : Int) (key : ByteArray) (w : World) (hr : TRep w t ns N cnt) (hv : TVal t ns N) (ho : TOk ns) (hn : ns.length ≤ 1000000) :
    Calls Try.prog 85 #[.pointer (some ⟨t, 0, none⟩), .string key] w fun e w' =>
      (∃ i0 i1 i2 i3, e = .returned (.agg #[.pointer (some ⟨blkOf t ns i0, 0, none⟩), .pointer (some ⟨blkOf t ns i1, 0, none⟩), .pointer (some ⟨blkOf t ns i2, 0, none⟩), .pointer (some ⟨blkOf t ns i3, 0, none⟩)]) ∧
        IsLast ns (below ns key) 0 i0 ∧ IsLast ns (below ns key) 1 i1 ∧ IsLast ns (below ns key) 2 i2 ∧ IsLast ns (below ns key) 3 i3) ∧ Below w.heap.size w w' := by
  have HR := Lib.hid hr
  have HV := Lib.hid hv
  have HO := Lib.hid ho
  clear hr hv ho
  obtain ⟨m, hm⟩ : ∃ m, below ns key = m := ⟨_, rfl⟩
  have hmn := below_le ns key
  have HM := Lib.hid hm
  rw [hm] at hmn
  rw [hm]
  clear hm
  go_enter Try.func85, Try.ntmps85
  go_wp2_with fail
  have hb0 : Below w.heap.size w ((w.alloc (.cells #[.pointer none, .pointer none, .pointer none, .pointer none] 131)).alloc (.cells #[.pointer none, .pointer none, .pointer none, .pointer none] 131)) := ((Below.refl _ _).alloc (Nat.le_refl _) _).alloc (by simp) _
  have k0 : Blk ((w.alloc (.cells #[.pointer none, .pointer none, .pointer none, .pointer none] 131)).alloc (.cells #[.pointer none, .pointer none, .pointer none, .pointer none] 131)) w.heap.size 131 #[.pointer none, .pointer none, .pointer none, .pointer none] := (Blk.new _ _ _).alloc _
  have k1 : Blk ((w.alloc (.cells #[.pointer none, .pointer none, .pointer none, .pointer none] 131)).alloc (.cells #[.pointer none, .pointer none, .pointer none, .pointer none] 131)) (w.heap.size + 1) 131 #[.pointer none, .pointer none, .pointer none, .pointer none] := by
    have := Blk.new (w.alloc (.cells #[.pointer none, .pointer none, .pointer none, .pointer none] 131)) 131 #[.pointer none, .pointer none, .pointer none, .pointer none]
    simpa using this
  have K0 := Lib.hid k0
  have K1 := Lib.hid k1
  have HB0 := Lib.hid hb0
  clear k0 k1 hb0
  go_loopw [6, 7] (fun x s wr => ∃ (f i : Nat) (q : Nat → Nat), s = .int .i64 ((f : Int) - 1) ∧ f ≤ 4 ∧ x = .pointer (some ⟨blkOf t ns i, 0, none⟩) ∧ Hid (i ≤ m ∧ f ≤ hOf ns i) ∧ Hid (∀ g, f ≤ g → g < 4 → IsLast ns m g (q g)) ∧
      Hid (Blk wr w.heap.size 131 #[.pointer none, .pointer none, .pointer none, .pointer none]) ∧ Hid (∃ cs : Array Value, Blk wr (w.heap.size + 1) 131 cs ∧ cs.size = 4 ∧ ∀ g, f ≤ g → g < 4 → cs[g]? = some (.pointer (some ⟨blkOf t ns (q g), 0, none⟩))) ∧
      Below w.heap.size w wr) (fun _ s _ => (intOf s + 1).toNat)
  case atStart => exact ⟨4, 0, fun _ => 0, rfl, Nat.le_refl _, rfl, ⟨Nat.zero_le _, by simp [hOf]⟩, fun g h1 h2 => by omega, K0.out, ⟨_, K1.out, rfl, fun g h1 h2 => by omega⟩, HB0.out⟩
  case round =>
    obtain ⟨f, i, q, rfl, hf, rfl, hi, hq, hk0, hk1, hbl⟩ := hrel
    clear K0 K1 HB0
    cases f with
    | zero =>
      obtain ⟨cs, hcs, hsz, hcg⟩ := hk1.out
      obtain ⟨p0, p1, p2, p3, rfl⟩ : ∃ p0 p1 p2 p3, cs = #[p0, p1, p2, p3] := by
        obtain ⟨l⟩ := cs
        match l, hsz with
        | [p0, p1, p2, p3], _ => exact ⟨p0, p1, p2, p3, rfl⟩
      have e0 := hcg 0 (by omega) (by omega)
      have e1 := hcg 1 (by omega) (by omega)
      have e2 := hcg 2 (by omega) (by omega)
      have e3 := hcg 3 (by omega) (by omega)
      simp at e0 e1 e2 e3
      subst e0; subst e1; subst e2; subst e3
      have c0 := hcs.cell 0
      have c1 := hcs.cell 1
      have c2 := hcs.cell 2
      have c3 := hcs.cell 3
      simp at c0 c1 c2 c3
      have b0 := hk0.out.cell 0
      have b1 := hk0.out.cell 1
      have b2 := hk0.out.cell 2
      have b3 := hk0.out.cell 3
      simp at b0 b1 b2 b3
      have z0 := hk0.out.frozen 0
      have z1 := hk0.out.frozen 1
      have z2 := hk0.out.frozen 2
      have z3 := hk0.out.frozen 3
      clear hcs hcg hsz
      have hq0 := hq.out 0 (by omega) (by omega)
      have hq1 := hq.out 1 (by omega) (by omega)
      have hq2 := hq.out 2 (by omega) (by omega)
      have hq3 := hq.out 3 (by omega) (by omega)
      have HQ := Lib.hid (And.intro hq0 (And.intro hq1 (And.intro hq2 hq3)))
      clear hq0 hq1 hq2 hq3
      go_wp2_with fail
      refine bodyPost_ret (v := .agg #[.pointer (some ⟨blkOf t ns (q 0), 0, none⟩), .pointer (some ⟨blkOf t ns (q 1), 0, none⟩), .pointer (some ⟨blkOf t ns (q 2), 0, none⟩), .pointer (some ⟨blkOf t ns (q 3), 0, none⟩)]) ?_ rfl ?_
      · simp [results, Try.results85, go_sem, b0, b1, b2, b3]
      · refine ⟨⟨q 0, q 1, q 2, q 3, rfl, HQ.out.1, HQ.out.2.1, HQ.out.2.2.1, HQ.out.2.2.2⟩, ?_⟩
        exact (((hbl.setCell (Nat.le_refl _) _).setCell (Nat.le_refl _) _).setCell (Nat.le_refl _) _).setCell (Nat.le_refl _) _
    | succ f =>
      have e1 : (((f + 1 : Nat) : Int) - 1) = (f : Int) := by omega
      rw [e1]
      clear e1
      have g1 : (0 : Int) ≤ (f : Int) := by omega
      have g2 : (f : Int) < 4 := by omega
      have hf4 : f < 4 := by omega
      go_wp2_with fail
      obtain ⟨wo, rfl⟩ : ∃ wo : World, wo = wr := ⟨_, rfl⟩
      have HRW := Lib.hid (HR.out.below hbl)
      obtain ⟨cs, hcs, hsz, hcg⟩ := hk1.out
      have s1 : wo.cell? ⟨w.heap.size + 1, f, none⟩ = some (cs.getD f undef) := by rw [hcs.cell]; simp [hsz, hf4]
      have s2 : wo.frozen? ⟨w.heap.size + 1, f, none⟩ = false := hcs.frozen f
      have HCS := Lib.hid hcs
      have HSZ := Lib.hid hsz
      have HCG := Lib.hid hcg
      clear hcs hsz hcg hk1
      have hi1 := hi.out.1
      have hi2 : f < hOf ns i := by have := hi.out.2; omega
      go_loopg [6] (ns.length - i) (fun g x wr => wo = wr ∧ ∃ i', i' ≤ m ∧ x = .pointer (some ⟨blkOf t ns i', 0, none⟩) ∧ g = ns.length - i' ∧ f < hOf ns i')
      case atStart => exact ⟨rfl, i, hi1, rfl, rfl, hi2⟩
      case round =>
        obtain ⟨rfl, i', hi', rfl, hgk, hfh⟩ := hrel
        have HG := Lib.hid hgk
        clear hgk hi1 hi2
        have hp := HRW.out.ptr (i := i') (f := f) (by omega) hf4
        have hat := HV.out.at_ (i := i') (f := f) (by omega) hfh hf4
        rw [hat] at hp
        clear hat
        cases hnx : nxt f (ns.drop i') with
        | none =>
          rw [hnx] at hp
          have HNX := Lib.hid hnx
          clear hnx
          have hlast : Hid (IsLast ns m f i') := ⟨hi', hfh, fun jj h1 h2 => by
            obtain ⟨nd, hnd, _⟩ := getElem?_of_lt (show jj - 1 < ns.length by omega)
            have h3 := nxt_none HNX.out nd (by
              rw [List.mem_iff_getElem?]
              exact ⟨jj - 1 - i', by rw [List.getElem?_drop, show i' + (jj - 1 - i') = jj - 1 by omega]; exact hnd⟩)
            have h4 := hOf_succ hnd
            rw [show jj - 1 + 1 = jj by omega] at h4
            rw [h4]; exact h3⟩
          go_wp2_with fail
          go_roundw
          case rel => exact way_step HCS.out HSZ.out HCG.out hf4 hq.out hlast.out hk0.out hbl hfh
          case measure => simp [intOf] <;> omega
        | some a =>
          obtain ⟨j, nd, hj, hnf, rfl, hless⟩ := nxt_some hnx
          rw [hnx] at hp
          rw [List.getElem?_drop] at hj
          have hnode := (HRW.out.node nd (List.mem_of_getElem? hj)).cell 0
          simp at hnode
          have hltm := below_lt HO.out.rises key (i' + j) nd hj
          rw [HM.out] at hltm
          have HJ := Lib.hid hj
          have HLESS := Lib.hid hless
          clear hnx hj hless
          by_cases hjm : i' + j < m
          · have tlt : Op.bytesLess nd.e.k.toList key.toList = true := hltm.2 hjm
            clear hltm
            have hb1 := blkOf_succ (t := t) HJ.out
            have hh1 := hOf_succ HJ.out
            have HB1 : Hid (blkOf t ns (i' + j + 1) = nd.b) := hb1
            have HH1 : Hid (f < hOf ns (i' + j + 1)) := by rw [Hid, hh1]; exact hnf
            clear hb1 hh1
            go_wp2_with fail
            go_roundg (ns.length - (i' + j + 1))
            case measure => rw [HG.out]; omega
            case rel => exact ⟨rfl, i' + j + 1, by omega, by rw [HB1.out], rfl, HH1.out⟩
          · have tlt : Op.bytesLess nd.e.k.toList key.toList = false := by
              cases h : Op.bytesLess nd.e.k.toList key.toList
              · rfl
              · exact absurd (hltm.1 h) hjm
            clear hltm
            have hlast : Hid (IsLast ns m f i') := ⟨hi', hfh, fun jj h1 h2 => by
              obtain ⟨nd', hnd, _⟩ := getElem?_of_lt (show jj - 1 < ns.length by omega)
              have h3 := HLESS.out (jj - 1 - i') nd' (by omega) (by rw [List.getElem?_drop, show i' + (jj - 1 - i') = jj - 1 by omega]; exact hnd)
              have h4 := hOf_succ hnd
              rw [show jj - 1 + 1 = jj by omega] at h4
              rw [h4]; exact h3⟩
            go_wp2_with fail
            go_roundw
            case rel => exact way_step HCS.out HSZ.out HCG.out hf4 hq.out hlast.out hk0.out hbl hfh
            case measure => simp [intOf] <;> omega

theorem TOk.nil : TOk [] := ⟨by simp, by simp, by simp [Rises]⟩
theorem tnew_any (B : Nat) (w : World) (hB : B ≤ w.heap.size) :
    Calls Try.prog 26 #[] w fun e w' => (e = .returned (.pointer (some ⟨w.heap.size, 0, none⟩)) ∧ Tower B w' w.heap.size [] [w.heap.size]) ∧ Below w.heap.size w w' := by
  go_enter Try.func26, Try.ntmps26
  go_wp2_with fail
  go_ret
  refine ⟨⟨rfl, [], fun _ _ => none, ⟨Blk.new _ _ _, by simp⟩, ⟨fun f _ => rfl, by simp⟩, TOk.nil, rfl, rfl, by simpa using hB⟩, (Below.refl _ _).alloc (Nat.le_refl _) _⟩

theorem tmany_any (B : Nat) (t : Nat) (l : List Ent) (F : List Nat) (w : World) (h : Tower B w t l F) :
    Calls Try.prog 31 #[.pointer (some ⟨t, 0, none⟩)] w fun e w' => e = .returned (.int .i64 l.length) ∧ w = w' := by
  obtain ⟨ns, N, h1, h2, h3, rfl, rfl, h6⟩ := h
  have c7 := h1.head.cell 7
  simp at c7
  rw [List.length_map]
  clear h1 h2 h3 h6
  go_enter Try.func31, Try.ntmps31
  go_wp2_with fail
  go_ret
  exact ⟨rfl, rfl⟩
/-- What the last position on the ground floor is. -/
theorem last_ground {ns : List Nd} {m i : Nat} (ho : TOk ns) (hm : m ≤ ns.length) (h : IsLast ns m 0 i) : i = m := by
  obtain ⟨h1, h2, h3⟩ := h
  rcases Nat.lt_or_ge i m with hlt | hge
  · have h4 := h3 m hlt (Nat.le_refl _)
    obtain ⟨nd, hnd, _⟩ := getElem?_of_lt (show m - 1 < ns.length by omega)
    have h5 := hOf_succ hnd
    rw [show m - 1 + 1 = m by omega] at h5
    have := (ho.high nd (List.mem_of_getElem? hnd)).1
    omega
  · omega
theorem nxt_zero {ns : List Nd} (ho : ∀ nd ∈ ns, 1 ≤ nd.h) : nxt 0 ns = (ns[0]?).map fun nd => ⟨nd.b, 0, none⟩ := by
  cases ns with
  | nil => rfl
  | cons nd ns => rw [nxt, if_pos (by have := ho nd (by simp); omega)]; rfl
/-- The entry of a key: the one behind those that are below it, if that is of that key. -/
theorem get_at {ns : List Nd} (hr : Rises (ns.map Nd.e)) (key : ByteArray) : getE (ns.map Nd.e) key = (ns[below ns key]?).bind fun nd => if nd.e.k = key then some nd.e else none := by
  have hb := below_lt hr key
  cases hx : ns[below ns key]? with
  | none =>
    rw [Option.bind_none]
    unfold getE
    rw [List.find?_eq_none]
    intro e he
    obtain ⟨nd, hnd, rfl⟩ := List.mem_map.1 he
    obtain ⟨i, hi⟩ := List.getElem?_of_mem hnd
    have hlt : i < below ns key := by
      have h1 := List.getElem?_eq_none_iff.1 hx
      have h2 : i < ns.length := by
        rcases Nat.lt_or_ge i ns.length with h | h
        · exact h
        · rw [List.getElem?_eq_none h] at hi; cases hi
      omega
    have := (hb i nd hi).2 hlt
    simpa using ltB_ne this
  | some nd =>
    rw [Option.bind_some]
    by_cases hk : nd.e.k = key
    · rw [if_pos hk, ← hk]
      exact getE_of_mem hr (List.mem_map.2 ⟨nd, List.mem_of_getElem? hx, rfl⟩)
    · rw [if_neg hk]
      unfold getE
      rw [List.find?_eq_none]
      intro e he
      obtain ⟨nd', hnd, rfl⟩ := List.mem_map.1 he
      obtain ⟨i, hi⟩ := List.getElem?_of_mem hnd
      simp only [decide_eq_true_eq]
      intro e
      have hnl : ¬ i < below ns key := fun h => ltB_ne ((hb i nd' hi).2 h) e
      have hm : ¬ ltB nd.e.k key = true := fun h => by have := (hb _ nd hx).1 h; omega
      rcases Nat.lt_or_ge (below ns key) i with hlt | hge
      · have hp := List.pairwise_iff_getElem.1 hr (below ns key) i (by have := (List.getElem?_eq_some_iff.1 hx).1; simpa using this) (by have := (List.getElem?_eq_some_iff.1 hi).1; simpa using this) hlt
        simp only [List.getElem_map] at hp
        rw [(List.getElem?_eq_some_iff.1 hx).2, (List.getElem?_eq_some_iff.1 hi).2, e] at hp
        exact hm hp
      · have : i = below ns key := by omega
        subst this
        rw [hx] at hi
        obtain rfl := Option.some.inj hi
        exact hk e

set_option maxHeartbeats 2000000 in
theorem tget_any (B : Nat) (t : Nat) (l : List Ent) (F : List Nat) (key : ByteArray) (w : World) (h : Tower B w t l F) (hn : l.length ≤ 1000000) :
    Calls Try.prog 29 #[.pointer (some ⟨t, 0, none⟩), .string key] w fun e w' => e = .returned (.tuple #[((getE l key).getD Ent.zero).val, .bool (getE l key).isSome]) ∧ Below w.heap.size w w' := by
  obtain ⟨ns, N, h1, h2, h3, rfl, rfl, h6⟩ := h
  rw [List.length_map] at hn
  have hg := get_at h3.rises key
  have hbl := below_le ns key
  obtain ⟨m, hm⟩ : ∃ m, below ns key = m := ⟨_, rfl⟩
  have HW := Lib.hid (way_any t ns N _ key (w.alloc (.cells #[.string ⟨#[]⟩, .string ⟨#[]⟩, .bool false] 35)) (h1.below ((Below.refl _ _).alloc (Nat.le_refl _) _)) h2 h3 hn)
  rw [hm] at hg hbl HW
  have HG := Lib.hid hg
  have H1 := Lib.hid h1
  have H2 := Lib.hid h2
  have H3 := Lib.hid h3
  clear hg h1 h2 h3 h6 hm
  go_enter Try.func29, Try.ntmps29
  go_wp2_with fail
  refine HW.out.mono ?_
  rintro e w1 ⟨⟨i0, i1, i2, i3, rfl, q0, q1, q2, q3⟩, hb1⟩
  have hi0 := last_ground H3.out hbl q0
  subst hi0
  have hb0 : Below w.heap.size w w1 := ((Below.refl w.heap.size w).alloc (Nat.le_refl _) _).trans (hb1.mono (by simp))
  have hz : Blk w1 w.heap.size 35 #[.string ⟨#[]⟩, .string ⟨#[]⟩, .bool false] := (Blk.new w _ _).below hb1 (by simp)
  clear q0 q1 q2 q3 hb1
  have hb2 := hb0.alloc hb0.size (.cells #[.pointer (some ⟨blkOf t ns i0, 0, none⟩), .pointer (some ⟨blkOf t ns i1, 0, none⟩), .pointer (some ⟨blkOf t ns i2, 0, none⟩), .pointer (some ⟨blkOf t ns i3, 0, none⟩)] 131)
  have hz2 := hz.alloc (.cells #[.pointer (some ⟨blkOf t ns i0, 0, none⟩), .pointer (some ⟨blkOf t ns i1, 0, none⟩), .pointer (some ⟨blkOf t ns i2, 0, none⟩), .pointer (some ⟨blkOf t ns i3, 0, none⟩)] 131)
  have z0 := hz2.cell 0
  have z1 := hz2.cell 1
  have z2 := hz2.cell 2
  simp at z0 z1 z2
  have y0 := hz2.frozen 0
  have y1 := hz2.frozen 1
  have y2 := hz2.frozen 2
  have hp := (H1.out.below hb2).ptr (i := i0) (f := 0) hbl (by omega)
  rw [H2.out.at_ hbl (by
    have := (show 0 < hOf ns i0 by
      cases i0 with
      | zero => simp [hOf]
      | succ i =>
        obtain ⟨nd, hnd, _⟩ := getElem?_of_lt (show i < ns.length by omega)
        rw [hOf_succ hnd]
        have := (H3.out.high nd (List.mem_of_getElem? hnd)).1
        omega)
    exact this) (by omega), nxt_zero (fun nd hnd => (H3.out.high nd (List.mem_of_mem_drop hnd)).1), List.getElem?_drop] at hp
  simp only [Nat.add_zero] at hp
  clear hz hz2
  cases hx : ns[i0]? with
  | none =>
    rw [hx] at hp
    have HG2 : Hid (getE (List.map Nd.e ns) key = none) := by rw [Hid, HG.out, hx]; rfl
    simp at hp
    clear hx HG HW
    go_wp2_with fail
    refine bodyPost_ret (v := .tuple #[Ent.zero.val, .bool false]) (by simp [results, Try.results29, go_sem, Ent.val, Ent.zero, z0, z1, z2]; rfl) rfl ⟨by rw [HG2.out]; rfl, ?_⟩
    exact ((hb2.setCell (Nat.le_refl _) _).setCell (Nat.le_refl _) _).setCell (Nat.le_refl _) _
  | some nd =>
    rw [hx] at hp
    have hnode := (H1.out.below hb2).node nd (List.mem_of_getElem? hx)
    have n0 := hnode.cell 0
    have n1 := hnode.cell 1
    have n2 := hnode.cell 2
    simp at n0 n1 n2 hp
    clear hnode
    by_cases hk : nd.e.k = key
    · have HG2 : Hid (getE (List.map Nd.e ns) key = some nd.e) := by rw [Hid, HG.out, hx]; simp [hk]
      have t1 : (nd.e.k.toList == key.toList) = true := by rw [hk]; simp
      clear hx HG HW hk
      go_wp2_with fail
      refine bodyPost_ret (v := .tuple #[nd.e.val, .bool true]) (by simp [results, Try.results29, go_sem, Ent.val, z0, z1, z2]) rfl ⟨by rw [HG2.out]; rfl, ?_⟩
      exact ((hb2.setCell (Nat.le_refl _) _).setCell (Nat.le_refl _) _).setCell (Nat.le_refl _) _
    · have HG2 : Hid (getE (List.map Nd.e ns) key = none) := by rw [Hid, HG.out, hx]; simp [hk]
      have t1 : (nd.e.k.toList == key.toList) = false := by rw [ba_beq]; simp [hk]
      clear hx HG HW hk
      go_wp2_with fail
      refine bodyPost_ret (v := .tuple #[Ent.zero.val, .bool false]) (by simp [results, Try.results29, go_sem, Ent.val, Ent.zero, z0, z1, z2]; rfl) rfl ⟨by rw [HG2.out]; rfl, ?_⟩
      exact ((hb2.setCell (Nat.le_refl _) _).setCell (Nat.le_refl _) _).setCell (Nat.le_refl _) _

set_option maxHeartbeats 2000000 in
theorem tall_any (B : Nat) (t : Nat) (l : List Ent) (F : List Nat) (w : World) (h : Tower B w t l F) (hn : l.length ≤ 1000000) :
    Calls Try.prog 32 #[.pointer (some ⟨t, 0, none⟩)] w fun e w' => ∃ v, e = .returned v ∧ Ents B w' v l ∧ Below w.heap.size w w' := by
  obtain ⟨ns, N, h1, h2, h3, rfl, rfl, h6⟩ := h
  rw [List.length_map] at hn
  have hp := h1.head.cell 3
  simp at hp
  rw [h2.head 0 (by omega), nxt_zero (fun nd hnd => (h3.high nd hnd).1)] at hp
  have H1 := Lib.hid h1
  have H2 := Lib.hid h2
  have H3 := Lib.hid h3
  clear h1 h2 h3 h6
  go_enter Try.func32, Try.ntmps32
  go_wp2_with fail
  go_loopg [3, 4] ns.length (fun g u x wr => ∃ k, k ≤ ns.length ∧ g = ns.length - k ∧ x = .pointer ((ns[k]?).map fun nd => ⟨nd.b, 0, none⟩) ∧ wr.ownsRow w.heap.size 35 3 u ((ns.take k).map Nd.e).length (((ns.take k).map Nd.e).flatMap Ent.cells) ∧ Below w.heap.size w wr)
  case atStart => exact ⟨0, Nat.zero_le _, rfl, rfl, World.ownsRow_nil _ _ _ _, Below.refl _ _⟩
  case round =>
    obtain ⟨k, hk, hgk, rfl, hown, hbl⟩ := hrel
    have HGK := Lib.hid hgk
    have HOWN := Lib.hid hown
    clear hgk hown hp
    cases hx : ns[k]? with
    | none =>
      have hkn : ns.length ≤ k := List.getElem?_eq_none_iff.1 hx
      simp only [Option.map_none]
      clear hx
      go_wp2_with fail
      go_ret
      refine ⟨_, rfl, ?_, hbl⟩
      have ho := HOWN.out
      rw [List.take_of_length_le hkn] at ho
      exact ⟨Rd.of_own ho, fun e he => by
        obtain ⟨nd, hnd, rfl⟩ := List.mem_map.1 he
        exact (H3.out.high nd hnd).2.2⟩
    | some nd =>
      have hlt : k < ns.length := (List.getElem?_eq_some_iff.1 hx).1
      simp only [Option.map_some]
      have hnd := List.mem_of_getElem? hx
      have hnode := H1.out.node nd hnd
      have hnb := hnode.lt
      have hnw := hnode.below hbl hnb
      have n0 := hnw.cell 0
      have n1 := hnw.cell 1
      have n2 := hnw.cell 2
      simp at n0 n1 n2
      have HP : Hid (N nd.b 0 = (ns[k + 1]?).map fun nd => ⟨nd.b, 0, none⟩) := by
        rw [Hid, H2.out.node k nd hx 0 (by have := (H3.out.high nd hnd).1; omega), nxt_zero (fun nd hnd => (H3.out.high nd (List.mem_of_mem_drop hnd)).1), List.getElem?_drop, Nat.add_zero]
      have HT : Hid ((ns.take (k + 1)).map Nd.e = (ns.take k).map Nd.e ++ [nd.e]) := by
        rw [Hid, List.take_succ_eq_append_getElem hlt, List.map_append, (List.getElem?_eq_some_iff.1 hx).2]; rfl
      have hlen : ((ns.take k).map Nd.e).length ≤ 1000000 := by rw [List.length_map, List.length_take]; omega
      have HNW := Lib.hid hnode
      have hbs := hbl.size
      clear hx hnode hnw hnd
      obtain ⟨i0, hi, hz0, hz1, hz2⟩ := info_parts info_entry
      have hownA := Lib.hid (own_alloc HOWN.out (.cells #[.string nd.e.k, .string nd.e.v, .bool nd.e.g] 35))
      generalize hL : (ns.take k).map Nd.e = L at *
      go_wp2_with (at_builtin; go_loud (refine wpList_append_rd _ rfl (.tmp 18) (.tmp 23) 32 rfl w.heap.size 35 i0 _ 3 40 Try.underlying32 hi hz0 hz1 hz2 rfl (by decide) u3 _ _ rfl hownA.out B 35 _ 1 _ rfl (rd_lit3 _ _ _ rfl _ _ _) (ent_one3 _ _ _) (by unfold maxLen; omega) (by omega) (by simp; omega) ?_); intro v1 w1 hown1 hg1 hat1; (have hb1 := below_own (hbl.alloc hbs _) (Nat.le_refl _) hownA.out hg1); (have hp := (HNW.out.below hb1 hnb).cell 3); (rw [HP.out] at hp); (simp at hp))
      have hown2 : w1.ownsRow w.heap.size 35 3 v1 ((ns.take (k + 1)).map Nd.e).length (((ns.take (k + 1)).map Nd.e).flatMap Ent.cells) := by
        rw [HT.out]; simpa [Ent.cells] using hown1
      clear hi hz0 hz1 hz2 hg1 hat1 hown1 hp
      go_roundg (ns.length - (k + 1))
      case measure => rw [HGK.out]; omega
      case rel => exact ⟨k + 1, by omega, rfl, rfl, hown2, hb1⟩

theorem Tower.nodup_ {w : World} {t : Nat} {ns : List Nd} {N : Nat → Nat → Option Addr} {cnt : Int} (h : TRep w t ns N cnt) (ho : TOk ns) : (t :: ns.map Nd.b).Nodup :=
  List.nodup_cons.2 ⟨fun hm => by obtain ⟨nd, hnd, e⟩ := List.mem_map.1 hm; exact h.ne nd hnd e, ho.nodup⟩

set_option maxHeartbeats 4000000 in
/-- Put, where the key is there. -/
theorem tput_same (B : Nat) (t : Nat) (ns : List Nd) (N : Nat → Nat → Option Addr) (e : Ent) (high : Int) (w : World) (h1 : TRep w t ns N ns.length) (h2 : TVal t ns N) (h3 : TOk ns) (hB : ∀ b ∈ t :: ns.map Nd.b, B ≤ b) (hn : ns.length ≤ 1000000) (he : EntOk e)
    (nd : Nd) (hx : ns[below ns e.k]? = some nd) (hk : nd.e.k = e.k) :
    Calls Try.prog 27 #[.pointer (some ⟨t, 0, none⟩), .agg #[.string e.k, .string e.v, .bool e.g], .int .i64 high] w fun d w' =>
      d = .returned (.tuple #[]) ∧ Tower B w' t (putE (ns.map Nd.e) e) (t :: ns.map Nd.b) ∧ Fr B (· ∈ t :: ns.map Nd.b) w w' := by
  have hbl := below_le ns e.k
  have hput := put_at h3.rises e
  have hrp := rises_put h3.rises e
  have hnd := Tower.nodup_ h1 h3
  obtain ⟨m, hm⟩ : ∃ m, below ns e.k = m := ⟨_, rfl⟩
  have HW := Lib.hid (way_any t ns N _ e.k (w.alloc (.cells #[.string e.k, .string e.v, .bool e.g] 35)) (h1.below ((Below.refl _ _).alloc (Nat.le_refl _) _)) h2 h3 hn)
  rw [hm] at hbl HW hput hx
  have hdrop := List.drop_eq_getElem_cons (List.getElem?_eq_some_iff.1 hx).1
  rw [(List.getElem?_eq_some_iff.1 hx).2] at hdrop
  rw [hdrop] at hput
  simp only [hk, if_true] at hput
  have HPUT : Hid (putE (ns.map Nd.e) e = (ns.take m ++ ⟨nd.b, e, nd.h⟩ :: ns.drop (m + 1)).map Nd.e) := by rw [Hid, hput, List.map_append, List.map_cons]
  have HRP := Lib.hid hrp
  have HND := Lib.hid hnd
  have HX := Lib.hid hx
  have H1 := Lib.hid h1
  have H2 := Lib.hid h2
  have H3 := Lib.hid h3
  have HB := Lib.hid hB
  have t1 : (nd.e.k.toList == e.k.toList) = true := by rw [hk]; simp
  clear hput hrp hnd hx h1 h2 h3 hB hm hdrop hk
  go_enter Try.func27, Try.ntmps27
  go_wp2_with fail
  refine HW.out.mono ?_
  rintro d w1 ⟨⟨i0, i1, i2, i3, rfl, q0, q1, q2, q3⟩, hb1⟩
  have hi0 := last_ground H3.out hbl q0
  subst hi0
  have hb0 : Below w.heap.size w w1 := ((Below.refl w.heap.size w).alloc (Nat.le_refl _) _).trans (hb1.mono (by simp))
  have hz : Blk w1 w.heap.size 35 #[.string e.k, .string e.v, .bool e.g] := (Blk.new w _ _).below hb1 (by simp)
  clear q0 q1 q2 q3 hb1
  have hb2 := hb0.alloc hb0.size (.cells #[.pointer (some ⟨blkOf t ns i0, 0, none⟩), .pointer (some ⟨blkOf t ns i1, 0, none⟩), .pointer (some ⟨blkOf t ns i2, 0, none⟩), .pointer (some ⟨blkOf t ns i3, 0, none⟩)] 131)
  have hz2 := hz.alloc (.cells #[.pointer (some ⟨blkOf t ns i0, 0, none⟩), .pointer (some ⟨blkOf t ns i1, 0, none⟩), .pointer (some ⟨blkOf t ns i2, 0, none⟩), .pointer (some ⟨blkOf t ns i3, 0, none⟩)] 131)
  have z0 := hz2.cell 0
  have z1 := hz2.cell 1
  have z2 := hz2.cell 2
  simp at z0 z1 z2
  have hp := (H1.out.below hb2).ptr (i := i0) (f := 0) hbl (by omega)
  have hpos : 0 < hOf ns i0 := by
    cases i0 with
    | zero => simp [hOf]
    | succ i =>
      obtain ⟨nd, hnd, _⟩ := getElem?_of_lt (show i < ns.length by omega)
      rw [hOf_succ hnd]
      have := (H3.out.high nd (List.mem_of_getElem? hnd)).1
      omega
  rw [H2.out.at_ hbl hpos (by omega), nxt_zero (fun nd hnd => (H3.out.high nd (List.mem_of_mem_drop hnd)).1), List.getElem?_drop] at hp
  simp only [Nat.add_zero] at hp
  rw [HX.out] at hp
  simp at hp
  have hnode := (H1.out.below hb2).node nd (List.mem_of_getElem? HX.out)
  have n0 := hnode.cell 0
  have n1 := hnode.cell 1
  have n2 := hnode.cell 2
  simp at n0 n1 n2
  have y0 := hnode.frozen 0
  have y1 := hnode.frozen 1
  have y2 := hnode.frozen 2
  clear hz hz2 hnode hpos HW
  go_wp2_with fail
  go_quiet (fail)
  go_wp2_with fail
  refine bodyPost_ret (results_none rfl _ _ _) rfl ?_
  have hr2 : TRep ((w1.alloc (.cells #[.pointer (some ⟨blkOf t ns i0, 0, none⟩), .pointer (some ⟨blkOf t ns i1, 0, none⟩), .pointer (some ⟨blkOf t ns i2, 0, none⟩), .pointer (some ⟨blkOf t ns i3, 0, none⟩)] 131)).drewN nq) t ns N ns.length := ⟨(H1.out.below hb2).head, (H1.out.below hb2).node⟩
  have hb3 := below_drewN' hb2 nq
  have hs := sh_put HX.out e
  have hmap : (ns.take i0 ++ ⟨nd.b, e, nd.h⟩ :: ns.drop (i0 + 1)).map Nd.b = ns.map Nd.b := by
    have h1 : ∀ l : List Nd, l.map Nd.b = (sh l).map Prod.fst := fun l => by simp [sh]
    rw [h1, h1, hs]
  have hlen : (ns.take i0 ++ ⟨nd.b, e, nd.h⟩ :: ns.drop (i0 + 1)).length = ns.length := by
    have := congrArg List.length hs; simpa [sh] using this
  have hmem := List.mem_of_getElem? HX.out
  have hmemF : nd.b ∈ t :: ns.map Nd.b := List.mem_cons_of_mem _ (List.mem_map.2 ⟨nd, hmem, rfl⟩)
  have hBn := HB.out nd.b hmemF
  refine ⟨rfl, ⟨_, N, by rw [hlen]; exact hr2.put_ HND.out HX.out e, H2.out.same hs, ⟨by rw [hmap]; exact H3.out.nodup, fun x hx => ?_, by rw [← HPUT.out]; exact HRP.out⟩, HPUT.out, by rw [hmap], HB.out⟩, ?_⟩
  · rcases List.mem_append.1 hx with hx | hx
    · exact H3.out.high x (List.mem_of_mem_take hx)
    · rcases List.mem_cons.1 hx with rfl | hx
      · exact ⟨(H3.out.high nd hmem).1, (H3.out.high nd hmem).2.1, he⟩
      · exact H3.out.high x (List.mem_of_mem_drop hx)
  · have hfr : Fr B (· ∈ t :: ns.map Nd.b) w ((w1.alloc (.cells #[.pointer (some ⟨blkOf t ns i0, 0, none⟩), .pointer (some ⟨blkOf t ns i1, 0, none⟩), .pointer (some ⟨blkOf t ns i2, 0, none⟩), .pointer (some ⟨blkOf t ns i3, 0, none⟩)] 131)).drewN nq) := Fr.of_below hb3
    have hT : ∀ o, (Addr.mk nd.b o none).block < w.heap.size → ∃ cs T fz, w.heap[(Addr.mk nd.b o none).block]? = some (.cells cs T fz) ∧ mutT T = true := fun o _ => ⟨_, _, _, H1.out.node nd hmem, by decide⟩
    exact ((hfr.setCell hBn (.inl hmemF) (hT 0) _).setCell hBn (.inl hmemF) (hT 1) _).setCell hBn (.inl hmemF) (hT 2) _

set_option maxHeartbeats 4000000 in
/-- Put, where the key is new. -/
theorem tput_new (B : Nat) (t : Nat) (ns : List Nd) (N : Nat → Nat → Option Addr) (e : Ent) (high : Int) (w : World) (h1 : TRep w t ns N ns.length) (h2 : TVal t ns N) (h3 : TOk ns) (hB : ∀ b ∈ t :: ns.map Nd.b, B ≤ b) (hBw : B ≤ w.heap.size) (hn : ns.length ≤ 1000000) (he : EntOk e)
    (hx : ∀ nd, ns[below ns e.k]? = some nd → nd.e.k ≠ e.k) (h : Nat) (hh : min (max high 1) 4 = (h : Int)) :
    Calls Try.prog 27 #[.pointer (some ⟨t, 0, none⟩), .agg #[.string e.k, .string e.v, .bool e.g], .int .i64 high] w fun d w' =>
      ∃ nb, d = .returned (.tuple #[]) ∧ w.heap.size ≤ nb ∧ Tower B w' t (putE (ns.map Nd.e) e) (t :: (ns.take (below ns e.k)).map Nd.b ++ nb :: (ns.drop (below ns e.k)).map Nd.b) ∧ Fr B (· ∈ t :: ns.map Nd.b) w w' := by
  have hh1 : 1 ≤ h ∧ h ≤ 4 := by omega
  have hbl := below_le ns e.k
  have hput := put_at h3.rises e
  have hrp := rises_put h3.rises e
  have hnd := Tower.nodup_ h1 h3
  obtain ⟨m, hm⟩ : ∃ m, below ns e.k = m := ⟨_, rfl⟩
  have HW := Lib.hid (way_any t ns N _ e.k (w.alloc (.cells #[.string e.k, .string e.v, .bool e.g] 35)) (h1.below ((Below.refl _ _).alloc (Nat.le_refl _) _)) h2 h3 hn)
  rw [hm] at hbl HW hput hx
  rw [hm]
  have HPUT : ∀ nb, Hid (putE (ns.map Nd.e) e = (ns.take m ++ ⟨nb, e, h⟩ :: ns.drop m).map Nd.e) := fun nb => by
    rw [Hid, hput, List.map_append, List.map_cons]
    congr 2
    cases hd : ns.drop m with
    | nil => rfl
    | cons x r =>
      have h1 : ns[m]? = some x := by
        have := List.getElem?_drop (xs := ns) (i := m) (j := 0)
        rw [hd] at this; simpa using this.symm
      simp only [if_neg (hx x h1)]
  have HPT : Hid (∀ nb, Hid (putE (ns.map Nd.e) e = (ns.take m ++ ⟨nb, e, h⟩ :: ns.drop m).map Nd.e)) := HPUT
  have HRP := Lib.hid hrp
  have HND := Lib.hid hnd
  have HX := Lib.hid hx
  have H1 := Lib.hid h1
  have H2 := Lib.hid h2
  have H3 := Lib.hid h3
  have HB := Lib.hid hB
  have HH := Lib.hid hh
  clear hput hrp hnd hx h1 h2 h3 hB hm HPUT hh
  go_enter Try.func27, Try.ntmps27
  go_wp2_with fail
  refine HW.out.mono ?_
  rintro d w1 ⟨⟨i0, i1, i2, i3, rfl, q0, q1, q2, q3⟩, hb1⟩
  have hi0 := last_ground H3.out hbl q0
  subst hi0
  have HQ : Hid (IsLast ns i0 0 i0 ∧ IsLast ns i0 1 i1 ∧ IsLast ns i0 2 i2 ∧ IsLast ns i0 3 i3) := ⟨q0, q1, q2, q3⟩
  have hb0 : Below w.heap.size w w1 := ((Below.refl w.heap.size w).alloc (Nat.le_refl _) _).trans (hb1.mono (by simp))
  have hz : Blk w1 w.heap.size 35 #[.string e.k, .string e.v, .bool e.g] := (Blk.new w _ _).below hb1 (by simp)
  clear q0 q1 q2 q3 hb1
  have hb2 := hb0.alloc hb0.size (.cells #[.pointer (some ⟨blkOf t ns i0, 0, none⟩), .pointer (some ⟨blkOf t ns i1, 0, none⟩), .pointer (some ⟨blkOf t ns i2, 0, none⟩), .pointer (some ⟨blkOf t ns i3, 0, none⟩)] 131)
  have hz2 := hz.alloc (.cells #[.pointer (some ⟨blkOf t ns i0, 0, none⟩), .pointer (some ⟨blkOf t ns i1, 0, none⟩), .pointer (some ⟨blkOf t ns i2, 0, none⟩), .pointer (some ⟨blkOf t ns i3, 0, none⟩)] 131)
  have z0 := hz2.cell 0
  have z1 := hz2.cell 1
  have z2 := hz2.cell 2
  simp at z0 z1 z2
  have hp := (H1.out.below hb2).ptr (i := i0) (f := 0) hbl (by omega)
  have hpos : 0 < hOf ns i0 := HQ.out.1.2.1
  rw [H2.out.at_ hbl hpos (by omega), nxt_zero (fun nd hnd => (H3.out.high nd (List.mem_of_mem_drop hnd)).1), List.getElem?_drop] at hp
  simp only [Nat.add_zero] at hp
  clear hz hz2 hpos HW
  have HB2 := Lib.hid hb2
  have hbase : ∀ (nq : Nat) , Hid (TPut B w (((w1.alloc (.cells #[.pointer (some ⟨blkOf t ns i0, 0, none⟩), .pointer (some ⟨blkOf t ns i1, 0, none⟩), .pointer (some ⟨blkOf t ns i2, 0, none⟩), .pointer (some ⟨blkOf t ns i3, 0, none⟩)] 131)).drewN nq).alloc (.cells #[.string e.k, .string e.v, .bool e.g, .pointer none, .pointer none, .pointer none, .pointer none] 133)) t ns N w1.heap.size (w1.heap.size + 1) 131 (at4 i0 i1 i2 i3) e h 0) := by
    intro nq
    have hb3 := below_drewN' HB2.out nq
    have hb4 := hb3.alloc hb3.size (.cells #[.string e.k, .string e.v, .bool e.g, .pointer none, .pointer none, .pointer none, .pointer none] 133)
    have hr4 := H1.out.below hb4
    have hnew := Blk.new ((w1.alloc (.cells #[.pointer (some ⟨blkOf t ns i0, 0, none⟩), .pointer (some ⟨blkOf t ns i1, 0, none⟩), .pointer (some ⟨blkOf t ns i2, 0, none⟩), .pointer (some ⟨blkOf t ns i3, 0, none⟩)] 131)).drewN nq) 133 #[.string e.k, .string e.v, .bool e.g, .pointer none, .pointer none, .pointer none, .pointer none]
    have harr : Blk ((w1.alloc (.cells #[.pointer (some ⟨blkOf t ns i0, 0, none⟩), .pointer (some ⟨blkOf t ns i1, 0, none⟩), .pointer (some ⟨blkOf t ns i2, 0, none⟩), .pointer (some ⟨blkOf t ns i3, 0, none⟩)] 131)).drewN nq) w1.heap.size 131 #[.pointer (some ⟨blkOf t ns i0, 0, none⟩), .pointer (some ⟨blkOf t ns i1, 0, none⟩), .pointer (some ⟨blkOf t ns i2, 0, none⟩), .pointer (some ⟨blkOf t ns i3, 0, none⟩)] := Blk.new w1 _ _
    have hlt : ∀ b ∈ t :: ns.map Nd.b, b < w.heap.size := by
      intro b hb
      rcases List.mem_cons.1 hb with rfl | hb
      · exact H1.out.head.lt
      · obtain ⟨nd, hnd, rfl⟩ := List.mem_map.1 hb; exact (H1.out.node nd hnd).lt
    have hs0 := HB2.out.size
    simp at hs0
    have hn1 : ∀ b ∈ t :: ns.map Nd.b, putN N (w1.heap.size + 1) (fun f => blkOf t ns (at4 i0 i1 i2 i3 f)) 0 b = N b := by
      intro b hb; funext g; unfold putN
      have := hlt b hb
      have := hb0.size
      rw [if_neg (by omega), if_neg (by omega)]
    have hn2 : putN N (w1.heap.size + 1) (fun f => blkOf t ns (at4 i0 i1 i2 i3 f)) 0 (w1.heap.size + 1) = fun _ => none := by
      funext g; unfold putN
      rw [if_neg (by omega), if_pos rfl]
    refine ⟨⟨?_, fun nd hnd => ?_⟩, harr.alloc _, Fr.of_below hb4, by have := hb0.size; omega⟩
    · rw [hn1 t (by simp)]; exact hr4.head
    · rcases List.mem_cons.1 hnd with rfl | hnd
      · simp only [hn2]; simpa using hnew
      · rw [hn1 nd.b (List.mem_cons_of_mem _ (List.mem_map.2 ⟨nd, hnd, rfl⟩))]; exact hr4.node nd hnd
  have HBASE := Lib.hid hbase
  clear hbase
  have hc3 : (high < 1 ∧ h = 1) ∨ high = (h : Int) ∨ (4 < high ∧ h = 4) := by have := HH.out; omega
  have hhi : (1 : Int) ≤ (h : Int) := by omega
  have hlo : (h : Int) ≤ 4 := by omega
  have HQ4 : Hid (∀ f, f < 4 → IsLast ns i0 f (at4 i0 i1 i2 i3 f)) := by
    intro f hf
    obtain ⟨q0, q1, q2, q3⟩ := HQ.out
    match f, hf with
    | 0, _ => exact q0
    | 1, _ => exact q1
    | 2, _ => exact q2
    | 3, _ => exact q3
  cases hy : ns[i0]? with
  | none =>
    rw [hy] at hp
    simp at hp
    clear hy
    rcases hc3 with ⟨hc, hc1⟩ | rfl | ⟨hc, hc1⟩
    all_goals
      go_wp2_with fail
      go_quiet (fail)
      go_wp2_with fail
      have hst := Lib.hid (HBASE.out nq).out
      clear z0 z1 z2 hp
      (try clear n0)
      go_loopw [9, 42] (fun x s wr => ∃ f : Nat, s = .int .i64 f ∧ f ≤ h ∧ Hid (TPut B w wr t ns N w1.heap.size (w1.heap.size + 1) 131 (at4 i0 i1 i2 i3) e h f)) (fun _ s _ => ((h : Int) - intOf s).toNat)
      case atStart => exact ⟨0, rfl, Nat.zero_le _, hst⟩
      case round =>
        obtain ⟨f, rfl, hf, hT⟩ := hrel
        by_cases hfh : f < h
        · have hq := HQ4.out f (by omega)
          have hql := hq.1
          obtain ⟨c1, c2, c3, ⟨v4, c4⟩, c5, c6, c7⟩ := hT.out.facts H1.out (by omega) (by omega)
          have g1 : (0 : Int) ≤ (f : Int) := by omega
          have g2 : (f : Int) < 4 := by omega
          have g3 : f < 4 := by omega
          clear hst
          go_wp2_with fail
          go_region
          go_wp2_with fail
          go_roundw
          case rel => exact ⟨f + 1, by simp, by omega, (hT.out.step H1.out HND.out (by omega) g3 HB.out hBw ⟨by omega, hb0.size⟩).drew⟩
          case measure => simp [intOf] <;> omega
        · obtain rfl : f = h := by omega
          obtain ⟨c1, c2⟩ := hT.out.cnt
          clear hst
          go_wp2_with fail
          go_end0
          obtain ⟨r1, r2⟩ := hT.out.done H1.out H2.out H3.out HND.out HB.out hBw hh1 he hbl HQ4.out ((HPT.out _).out)
          exact ⟨_, rfl, hT.out.new, r1, r2⟩
  | some nd =>
    rw [hy] at hp
    simp at hp
    have hnode := (H1.out.below hb2).node nd (List.mem_of_getElem? hy)
    have n0 := hnode.cell 0
    simp at n0
    have t1 : (nd.e.k.toList == e.k.toList) = false := by rw [ba_beq]; simp [HX.out nd hy]
    clear hnode hy
    rcases hc3 with ⟨hc, hc1⟩ | rfl | ⟨hc, hc1⟩
    all_goals
      go_wp2_with fail
      go_quiet (fail)
      go_wp2_with fail
      have hst := Lib.hid (HBASE.out nq).out
      clear z0 z1 z2 hp
      (try clear n0)
      go_loopw [9, 42] (fun x s wr => ∃ f : Nat, s = .int .i64 f ∧ f ≤ h ∧ Hid (TPut B w wr t ns N w1.heap.size (w1.heap.size + 1) 131 (at4 i0 i1 i2 i3) e h f)) (fun _ s _ => ((h : Int) - intOf s).toNat)
      case atStart => exact ⟨0, rfl, Nat.zero_le _, hst⟩
      case round =>
        obtain ⟨f, rfl, hf, hT⟩ := hrel
        by_cases hfh : f < h
        · have hq := HQ4.out f (by omega)
          have hql := hq.1
          obtain ⟨c1, c2, c3, ⟨v4, c4⟩, c5, c6, c7⟩ := hT.out.facts H1.out (by omega) (by omega)
          have g1 : (0 : Int) ≤ (f : Int) := by omega
          have g2 : (f : Int) < 4 := by omega
          have g3 : f < 4 := by omega
          clear hst
          go_wp2_with fail
          go_region
          go_wp2_with fail
          go_roundw
          case rel => exact ⟨f + 1, by simp, by omega, (hT.out.step H1.out HND.out (by omega) g3 HB.out hBw ⟨by omega, hb0.size⟩).drew⟩
          case measure => simp [intOf] <;> omega
        · obtain rfl : f = h := by omega
          obtain ⟨c1, c2⟩ := hT.out.cnt
          clear hst
          go_wp2_with fail
          go_end0
          obtain ⟨r1, r2⟩ := hT.out.done H1.out H2.out H3.out HND.out HB.out hBw hh1 he hbl HQ4.out ((HPT.out _).out)
          exact ⟨_, rfl, hT.out.new, r1, r2⟩

/-- Put, whatever the key. -/
theorem tput_any (B : Nat) (t : Nat) (l : List Ent) (F : List Nat) (e : Ent) (high : Int) (w : World) (h : Tower B w t l F) (hBw : B ≤ w.heap.size) (hn : l.length ≤ 1000000) (he : EntOk e) :
    Calls Try.prog 27 #[.pointer (some ⟨t, 0, none⟩), .agg #[.string e.k, .string e.v, .bool e.g], .int .i64 high] w fun d w' =>
      ∃ F', d = .returned (.tuple #[]) ∧ Tower B w' t (putE l e) F' ∧ Fr B (· ∈ F) w w' ∧ ∀ b ∈ F', b ∈ F ∨ w.heap.size ≤ b := by
  obtain ⟨ns, N, h1, h2, h3, rfl, rfl, h6⟩ := h
  rw [List.length_map] at hn
  have new : (∀ nd, ns[below ns e.k]? = some nd → nd.e.k ≠ e.k) → Calls Try.prog 27 #[.pointer (some ⟨t, 0, none⟩), .agg #[.string e.k, .string e.v, .bool e.g], .int .i64 high] w fun d w' =>
      ∃ F', d = .returned (.tuple #[]) ∧ Tower B w' t (putE (ns.map Nd.e) e) F' ∧ Fr B (· ∈ t :: ns.map Nd.b) w w' ∧ ∀ b ∈ F', b ∈ t :: ns.map Nd.b ∨ w.heap.size ≤ b := by
    intro hx
    obtain ⟨h, hh⟩ : ∃ h : Nat, min (max high 1) 4 = (h : Int) := ⟨(min (max high 1) 4).toNat, by omega⟩
    refine (tput_new B t ns N e high w h1 h2 h3 h6 hBw hn he hx h hh).mono ?_
    rintro d w' ⟨nb, rfl, hnb, hT, hF⟩
    refine ⟨_, rfl, hT, hF, fun b hb => ?_⟩
    simp only [List.cons_append, List.mem_cons, List.mem_append, List.mem_map] at hb
    rcases hb with rfl | ⟨x, hx, rfl⟩ | rfl | ⟨x, hx, rfl⟩
    · exact .inl (by simp)
    · exact .inl (List.mem_cons_of_mem _ (List.mem_map.2 ⟨x, List.mem_of_mem_take hx, rfl⟩))
    · exact .inr hnb
    · exact .inl (List.mem_cons_of_mem _ (List.mem_map.2 ⟨x, List.mem_of_mem_drop hx, rfl⟩))
  cases hx : ns[below ns e.k]? with
  | none => exact new fun nd h => by rw [hx] at h; cases h
  | some nd =>
    by_cases hk : nd.e.k = e.k
    · refine (tput_same B t ns N e high w h1 h2 h3 h6 hn he nd hx hk).mono ?_
      rintro d w' ⟨rfl, hT, hF⟩
      exact ⟨_, rfl, hT, hF, fun b hb => .inl hb⟩
    · exact new fun nd' h => by rw [hx] at h; injection h with h; rw [← h]; exact hk
/-- Get, its result written out. -/
theorem tget_two (B : Nat) (t : Nat) (l : List Ent) (F : List Nat) (key : ByteArray) (w : World) (h : Tower B w t l F) (hn : l.length ≤ 1000000) :
    Calls Try.prog 29 #[.pointer (some ⟨t, 0, none⟩), .string key] w fun e w' => (∃ x : Ent, x = (getE l key).getD Ent.zero ∧ e = .returned (.tuple #[.agg #[.string x.k, .string x.v, .bool x.g], .bool (getE l key).isSome])) ∧ Below w.heap.size w w' := by
  refine (tget_any B t l F key w h hn).mono ?_
  rintro e w' ⟨rfl, hb⟩
  exact ⟨⟨_, rfl, rfl⟩, hb⟩
end Go.Proofs.Ytaepdbkfaoiimaa
/- How a store lies in memory; take, used. Conditions: none but those that each names. -/
set_option linter.unusedVariables false
set_option linter.unusedSimpArgs false
namespace Go.Proofs.Ytaepdbkfaoiimaa
open Go.RowKit

/-- The store of block q, on the chip of block p; what is at hand lies in the blocks F. -/
def StoreR (B : Nat) (w : World) (q p : Nat) (s : SM) (F : List Nat) : Prop :=
  ∃ A1 c1 A2 c2 t n, Blk w q 160 #[.pointer (some ⟨p, 0, none⟩), .int .i64 s.m.ep, .int .i64 s.m.log, .slice A1 s.m.nw.length c1, .slice A2 s.m.od.length c2, .int .i64 s.at_, .pointer (some ⟨t, 0, none⟩), .int .i64 n] ∧
    Ints B w (.slice A1 s.m.nw.length c1) s.m.nw ∧ Ints B w (.slice A2 s.m.od.length c2) s.m.od ∧ Tower B w t s.mem F ∧ B ≤ q ∧ q ∉ F
section
variable {B : Nat} {M : Nat → Prop} {w w' : World} {q p : Nat} {s : SM} {F : List Nat} {c : Chip}
theorem StoreR.fr (h : StoreR B w q p s F) (hf : Fr B M w w') (hM : ∀ b ∈ q :: F, ¬ M b) : StoreR B w' q p s F := by
  obtain ⟨A1, c1, A2, c2, t, n, h1, h2, h3, h4, h5, h6⟩ := h
  exact ⟨A1, c1, A2, c2, t, n, h1.fr hf (.inr (.inl (hM q (by simp)))), h2.fr hf, h3.fr hf, h4.fr hf fun b hb => hM b (by simp [hb]), h5, h6⟩
theorem StoreR.below (h : StoreR B w q p s F) (hb : Below w.heap.size w w') : StoreR B w' q p s F := h.fr (M := fun _ => False) (.of_below hb) fun _ _ => id
theorem StoreR.drewN (h : StoreR B w q p s F) (n : Nat) : StoreR B (w.drewN n) q p s F := h.fr (M := fun _ => False) ((Fr.refl _ _ _).drewN n) fun _ _ => id
theorem StoreR.lt (h : StoreR B w q p s F) : q < w.heap.size := by obtain ⟨A1, c1, A2, c2, t, n, h1, _⟩ := h; exact h1.lt
theorem StoreR.base (h : StoreR B w q p s F) : B ≤ q := by obtain ⟨A1, c1, A2, c2, t, n, _, _, _, _, h5, _⟩ := h; exact h5
/-- A block of another type is none of the tower's. -/
theorem Tower.type {t : Nat} {l : List Ent} (h : Tower B w t l F) {g : Nat} {cs : Array Value} {T : TypeId} {fz : Nat × Nat} (hg : w.heap[g]? = some (.cells cs T fz)) (h1 : T ≠ 135) (h2 : T ≠ 133) : g ∉ F := by
  obtain ⟨ns, N, k1, k2, k3, rfl, rfl, k6⟩ := h
  intro hm
  rcases List.mem_cons.1 hm with rfl | hm
  · have := k1.head
    unfold Blk at this
    rw [hg] at this
    injection this with this
    injection this with _ e
    exact h1 e
  · obtain ⟨nd, hnd, rfl⟩ := List.mem_map.1 hm
    have := k1.node nd hnd
    unfold Blk at this
    rw [hg] at this
    injection this with this
    injection this with _ e
    exact h2 e
theorem StoreR.apart (h : StoreR B w q p s F) (hc : ChipR B w p c) : ∀ b ∈ q :: F, b ≠ p := by
  obtain ⟨A1, c1, A2, c2, t, n, h1, _, _, h4, _, _⟩ := h
  obtain ⟨V, u, hv, _⟩ := hc
  have hp : w.heap[p]? = some (.cells (chipL V c u).toArray 145 (0, 0)) := hv.blk
  intro b hb
  rcases List.mem_cons.1 hb with rfl | hb
  · rintro rfl
    unfold Blk at h1
    rw [hp] at h1
    injection h1 with h1
    injection h1 with _ e
    exact absurd e (by decide)
  · rintro rfl
    exact h4.type hp (by decide) (by decide) hb
/-- Steps on the chip alone. -/
theorem StoreR.chip (h : StoreR B w q p s F) (hc : ChipR B w p c) (hf : Fr B (· = p) w w') : StoreR B w' q p s F := h.fr hf (h.apart hc)
end
set_option maxRecDepth 20000 in
set_option maxHeartbeats 4000000 in
theorem used_any (B : Nat) (q p : Nat) (s : SM) (F : List Nat) (w : World) (h : StoreR B w q p s F) (h1 : s.m.nw.length ≤ 1000) (h2 : s.m.od.length ≤ 1000) :
    Calls Try.prog 113 #[.pointer (some ⟨q, 0, none⟩)] w fun e w' => ∃ v, e = .returned v ∧ Ints B w' v s.m.all ∧ Below w.heap.size w w' := by
  have hlt := h.lt
  obtain ⟨A1, c1, A2, c2, t, n, hk, hn, ho, _, _, _⟩ := h
  obtain ⟨_, _, e1, k1, k2, _⟩ := hn.form
  obtain ⟨_, _, e2, k3, k4, _⟩ := ho.form
  cases e1; cases e2
  have HN := Lib.hid hn
  have HO := Lib.hid ho
  have x2 := hk.cell 2
  have x3 := hk.cell 3
  have x4 := hk.cell 4
  simp at x2 x3 x4
  have HC : Hid (∀ w' : World, Below w.heap.size w w' → (w'.cell? ⟨q, 2, none⟩ = some (.int .i64 s.m.log) ∧ w'.cell? ⟨q, 3, none⟩ = some (.slice A1 s.m.nw.length c1) ∧ w'.cell? ⟨q, 4, none⟩ = some (.slice A2 s.m.od.length c2)) ∧ Below w.heap.size w w') := fun w' hb =>
    ⟨⟨(hb.cell (p := ⟨q, 2, none⟩) hlt).trans x2, (hb.cell (p := ⟨q, 3, none⟩) hlt).trans x3, (hb.cell (p := ⟨q, 4, none⟩) hlt).trans x4⟩, hb⟩
  have hBa : Below w.heap.size w ((w.alloc (.cells #[.int .i64 s.m.log] 3)).alloc (.cells #[.slice A1 s.m.nw.length c1, .slice A2 s.m.od.length c2] 41)).drew := (((Below.refl _ _).alloc (Nat.le_refl _) _).alloc (by simp) _).drew
  have hBb : Below w.heap.size w ((w.alloc (.cells #[.slice A1 s.m.nw.length c1, .slice A2 s.m.od.length c2] 41)).alloc (.cells #[.int .i64 s.m.log] 3)).drew := (((Below.refl _ _).alloc (Nat.le_refl _) _).alloc (by simp) _).drew
  have hBc : Below w.heap.size w (w.alloc (.cells #[.slice A1 s.m.nw.length c1, .slice A2 s.m.od.length c2] 41)).drew := ((Below.refl _ _).alloc (Nat.le_refl _) _).drew
  have ga : Blk ((w.alloc (.cells #[.int .i64 s.m.log] 3)).alloc (.cells #[.slice A1 s.m.nw.length c1, .slice A2 s.m.od.length c2] 41)).drew (w.heap.size + 1) 41 #[.slice A1 s.m.nw.length c1, .slice A2 s.m.od.length c2] := by
    have := Blk.drewN (Blk.new (w.alloc (.cells #[.int .i64 s.m.log] 3)) 41 #[.slice A1 s.m.nw.length c1, .slice A2 s.m.od.length c2]) 1
    simp only [World.size_alloc] at this
    exact this
  have gb : Blk ((w.alloc (.cells #[.slice A1 s.m.nw.length c1, .slice A2 s.m.od.length c2] 41)).alloc (.cells #[.int .i64 s.m.log] 3)).drew w.heap.size 41 #[.slice A1 s.m.nw.length c1, .slice A2 s.m.od.length c2] := Blk.drewN ((Blk.new w 41 #[.slice A1 s.m.nw.length c1, .slice A2 s.m.od.length c2]).alloc (.cells #[.int .i64 s.m.log] 3)) 1
  have gc : Blk (w.alloc (.cells #[.slice A1 s.m.nw.length c1, .slice A2 s.m.od.length c2] 41)).drew w.heap.size 41 #[.slice A1 s.m.nw.length c1, .slice A2 s.m.od.length c2] := Blk.drewN (Blk.new w 41 #[.slice A1 s.m.nw.length c1, .slice A2 s.m.od.length c2]) 1
  have la : Blk ((w.alloc (.cells #[.int .i64 s.m.log] 3)).alloc (.cells #[.slice A1 s.m.nw.length c1, .slice A2 s.m.od.length c2] 41)).drew w.heap.size 3 #[.int .i64 s.m.log] := Blk.drewN ((Blk.new w 3 #[.int .i64 s.m.log]).alloc (.cells #[.slice A1 s.m.nw.length c1, .slice A2 s.m.od.length c2] 41)) 1
  have lb : Blk ((w.alloc (.cells #[.slice A1 s.m.nw.length c1, .slice A2 s.m.od.length c2] 41)).alloc (.cells #[.int .i64 s.m.log] 3)).drew (w.heap.size + 1) 3 #[.int .i64 s.m.log] := by
    have := Blk.drewN (Blk.new (w.alloc (.cells #[.slice A1 s.m.nw.length c1, .slice A2 s.m.od.length c2] 41)) 3 #[.int .i64 s.m.log]) 1
    simp only [World.size_alloc] at this
    exact this
  have CA : Hid (Calls Try.prog 98 #[.slice (some ⟨w.heap.size + 1, 0, none⟩) 2 2] ((w.alloc (.cells #[.int .i64 s.m.log] 3)).alloc (.cells #[.slice A1 s.m.nw.length c1, .slice A2 s.m.od.length c2] 41)).drew fun e w3 => ∃ v3, e = .returned v3 ∧ Ints B w3 v3 (s.m.nw ++ s.m.od) ∧ Below w.heap.size w w3 ∧ Blk w3 w.heap.size 3 #[.int .i64 s.m.log]) :=
    (concat_rd B _ _ _ s.m.nw s.m.od _ ga (HN.out.below hBa) (HO.out.below hBa) (by omega) (by omega)).mono fun e w3 ⟨v3, h3, h4, h5⟩ => ⟨v3, h3, h4, hBa.trans (h5.mono (by simp <;> omega)), la.below h5 la.lt⟩
  have CB : Hid (Calls Try.prog 98 #[.slice (some ⟨w.heap.size, 0, none⟩) 2 2] ((w.alloc (.cells #[.slice A1 s.m.nw.length c1, .slice A2 s.m.od.length c2] 41)).alloc (.cells #[.int .i64 s.m.log] 3)).drew fun e w3 => ∃ v3, e = .returned v3 ∧ Ints B w3 v3 (s.m.nw ++ s.m.od) ∧ Below w.heap.size w w3 ∧ Blk w3 (w.heap.size + 1) 3 #[.int .i64 s.m.log]) :=
    (concat_rd B _ _ _ s.m.nw s.m.od _ gb (HN.out.below hBb) (HO.out.below hBb) (by omega) (by omega)).mono fun e w3 ⟨v3, h3, h4, h5⟩ => ⟨v3, h3, h4, hBb.trans (h5.mono (by simp <;> omega)), lb.below h5 lb.lt⟩
  have CC : Hid (Calls Try.prog 98 #[.slice (some ⟨w.heap.size, 0, none⟩) 2 2] (w.alloc (.cells #[.slice A1 s.m.nw.length c1, .slice A2 s.m.od.length c2] 41)).drew fun e w3 => ∃ v3, e = .returned v3 ∧ Ints B w3 v3 (s.m.nw ++ s.m.od) ∧ Below w.heap.size w w3) :=
    (concat_rd B _ _ _ s.m.nw s.m.od _ gc (HN.out.below hBc) (HO.out.below hBc) (by omega) (by omega)).mono fun e w3 ⟨v3, h3, h4, h5⟩ => ⟨v3, h3, h4, hBc.trans (h5.mono (by simp))⟩
  have HBA : Hid (Below w.heap.size w ((w.alloc (.cells #[.int .i64 s.m.log] 3)).alloc (.cells #[.slice A1 s.m.nw.length c1, .slice A2 s.m.od.length c2] 41)).drew ∧ Below w.heap.size w ((w.alloc (.cells #[.slice A1 s.m.nw.length c1, .slice A2 s.m.od.length c2] 41)).alloc (.cells #[.int .i64 s.m.log] 3)).drew ∧ Below w.heap.size w (w.alloc (.cells #[.slice A1 s.m.nw.length c1, .slice A2 s.m.od.length c2] 41)).drew) := ⟨hBa, hBb, hBc⟩
  have HB0 : Hid (Below w.heap.size w w.drew) := (Below.refl _ _).drew
  obtain ⟨i0, hi, hz0, hz1, hz2⟩ := info_parts info_int
  clear hBa hBb hBc ga gb gc la lb hk hn ho
  go_enter Try.func113, Try.ntmps113
  go_wp2_with fail
  go_region_held3 (fun w' => (w'.cell? ⟨q, 2, none⟩ = some (.int .i64 s.m.log) ∧ w'.cell? ⟨q, 3, none⟩ = some (.slice A1 s.m.nw.length c1) ∧ w'.cell? ⟨q, 4, none⟩ = some (.slice A2 s.m.od.length c2)) ∧ Below w.heap.size w w')
    ((first
      | exact HC.out _ hB5
      | exact HC.out _ hB6
      | exact HC.out _ hB4
      | exact HC.out _ HB0.out
      | exact HC.out _ HBA.out.2.2
      | exact HC.out _ HBA.out.1
      | exact HC.out _ HBA.out.2.1
      | exact HC.out _ ((Below.refl _ _).alloc (by simp) _).drew))
    ((first
      | (go_at_call 98; ((with_reducible refine CA.out.mono ?_); rintro e w3 ⟨v3, rfl, hi3, hB4, q17⟩))
      | (go_at_call 98; ((with_reducible refine CB.out.mono ?_); rintro e w3 ⟨v3, rfl, hi3, hB4, q17⟩))
      | (go_at_call 98; ((with_reducible refine CC.out.mono ?_); rintro e w3 ⟨v3, rfl, hi3, hB4⟩; have q18 := Blk.new w3 3 #[.int .i64 s.m.log]; have hi4 : Ints B (w3.alloc (.cells #[.int .i64 s.m.log] 3)) v3 (s.m.nw ++ s.m.od) := hi3.below ((Below.refl _ _).alloc (Nat.le_refl _) _); have s18 : w.heap.size ≤ w3.heap.size := (by have := hB4.size; omega); have hB6 := hB4.alloc s18 (.cells #[.int .i64 s.m.log] 3)))
      | (refine step_append_rd rfl (.tmp 8) (.tmp 20) 41 rfl w.heap.size 3 i0 _ 1 8 Try.underlying41 hi hz0 hz1 hz2 rfl (by decide) _ 1 [.int .i64 s.m.log] rfl (own_one (base := w.heap.size) q17 (by omega)) B 3 v3 _ _ rfl hi3 ints_one (by unfold maxLen; simp <;> omega) (by simp <;> omega) (by have := hB4.size; omega) ?_; intro v4 w4 hown4 hg4 hat4; have hB5 : Below w.heap.size w w4 := hB4.grown hg4 hB4.size (own_ge (own_one (base := w.heap.size) q17 (by omega))))
      | (refine step_append_rd rfl (.tmp 8) (.tmp 20) 41 rfl w.heap.size 3 i0 (.int .i64 0) 1 8 Try.underlying41 hi hz0 hz1 hz2 rfl (by decide) (.slice (some ⟨w3.heap.size, 0, none⟩) 1 1) 1 [.int .i64 s.m.log] rfl (own_one (base := w.heap.size) q18 s18) B 3 v3 (s.m.nw ++ s.m.od).length ((s.m.nw ++ s.m.od).map (.int .i64)) rfl hi4 ints_one (by unfold maxLen; simp <;> omega) (by simp <;> omega) (by have := hB6.size; simp at this ⊢; omega) ?_; intro v4 w4 hown4 hg4 hat4; have hB5 : Below w.heap.size w w4 := hB6.grown hg4 hB6.size (own_ge (own_one q18 s18)))))
  all_goals
    have HI4 : Hid (Ints B w4 v4 s.m.all) := by
      have := Rd.of_own (B := B) hown4
      have e : (1 + (s.m.nw ++ s.m.od).length) = s.m.all.length := by simp [Man.all]; omega
      rw [e] at this
      exact this
    have HB5 := Lib.hid hB5
    clear hown4 hg4 hat4 hi3 hB4 hB5
    go_wp2_with fail
    go_ret
    exact ⟨v4, rfl, HI4.out, HB5.out⟩
end Go.Proofs.Ytaepdbkfaoiimaa
/- The contracts of store.take, Manifest, note. Conditions: none but those that each names. -/
set_option linter.unusedVariables false
set_option linter.unusedSimpArgs false
namespace Go.Proofs.Ytaepdbkfaoiimaa
open Go.RowKit
attribute [local go_sem ↓] eql_err eql_nilerr neq_err neq_nilerr guard_err guard_nilerr guardn_err guardn_nilerr
set_option maxRecDepth 20000 in
set_option maxHeartbeats 4000000 in
theorem take_any (B : Nat) (q p : Nat) (s : SM) (F : List Nat) (v : Value) (l : List Ent) (w : World) (h : StoreR B w q p s F) (hl : Ents B w v l) (hlen : s.mem.length + l.length ≤ 1000000) (hB : B ≤ w.heap.size) :
    Calls Try.prog 105 #[.pointer (some ⟨q, 0, none⟩), v] w fun e w' => ∃ F', e = .returned (.tuple #[]) ∧ StoreR B w' q p { s with mem := l.foldl putE s.mem } F' ∧ Fr B (· ∈ q :: F) w w' ∧ ∀ b ∈ F', b ∈ F ∨ w.heap.size ≤ b := by
  obtain ⟨A, cp, rfl, hc1, hc2, _⟩ := hl.form
  have HL := Lib.hid hl
  have HR := Lib.hid h
  have hq0 := h.lt
  have hqB := h.base
  clear hl h
  go_enter Try.func105, Try.ntmps105
  go_wp2_with fail
  go_loopw [8] (fun i wr => ∃ (k : Nat) (F' : List Nat), i = .int .i64 (k : Int) ∧ k ≤ l.length ∧ Hid (StoreR B wr q p { s with mem := (l.take k).foldl putE s.mem } F') ∧ Hid (Fr B (· ∈ q :: F) w wr) ∧ Hid (∀ b ∈ F', b ∈ F ∨ w.heap.size ≤ b)) (fun i _ => l.length - (intOf i).toNat)
  case atStart => exact ⟨0, F, rfl, Nat.zero_le _, HR.out, Fr.refl _ _ _, fun b hb => .inl hb⟩
  case round =>
    obtain ⟨k, F', rfl, hk, hS, hfr, hnew⟩ := hrel
    by_cases hlt : k < l.length
    · obtain ⟨y, hy, hty, _⟩ := getElem?_of_lt hlt
      obtain ⟨A', cp', e, _, _, hcell⟩ := (HL.out.fr hfr.out).form
      obtain ⟨bb, oo, rfl, hbb, y1, y2, y3⟩ := hcell k y hy
      cases e
      have hyok := HL.out.2 y (List.mem_of_getElem? hy)
      have HYO := Lib.hid hyok
      have hnext : (l.take (k + 1)).foldl putE s.mem = putE ((l.take k).foldl putE s.mem) y := by rw [hty, List.foldl_append]; rfl
      have HNX := Lib.hid hnext
      have hml : ((l.take k).foldl putE s.mem).length ≤ 1000000 := by
        have h1 := puts_len (l.take k) s.mem
        have h2 : (l.take k).length ≤ l.length := List.length_take_le' _ _
        omega
      obtain ⟨A1, c1, A2, c2, t, n, hk', hn, ho, ht, hBq, hqF⟩ := hS.out
      generalize hM0 : (l.take k).foldl putE s.mem = M0 at *
      simp only at hk' hn ho ht
      have x6 := hk'.cell 6
      have x7 := hk'.cell 7
      have f7 := hk'.frozen 7
      simp at x6 x7
      have hqw := hk'.lt
      have hk2 : Blk ((wr.setCell ⟨q, 7, none⟩ (.int .i64 (wrap64 (n + 1)))).alloc (.cells #[.string y.k, .string y.v, .bool y.g] 35)).drew q 160 #[.pointer (some ⟨p, 0, none⟩), .int .i64 s.m.ep, .int .i64 s.m.log, .slice A1 s.m.nw.length c1, .slice A2 s.m.od.length c2, .int .i64 s.at_, .pointer (some ⟨t, 0, none⟩), .int .i64 (wrap64 (n + 1))] := ((hk'.set_ 7 _).alloc _).drewN 1
      have hmut : ∃ cs T fz, wr.heap[q]? = some (.cells cs T fz) ∧ mutT T = true := ⟨_, _, _, hk', by decide⟩
      have hfq : Fr B (· = q) wr ((wr.setCell ⟨q, 7, none⟩ (.int .i64 (wrap64 (n + 1)))).alloc (.cells #[.string y.k, .string y.v, .bool y.g] 35)).drew := (((Fr.refl B (· = q) wr).setCell (p := ⟨q, 7, none⟩) hqB (.inl rfl) (fun _ => hmut) _).alloc (.cells #[.string y.k, .string y.v, .bool y.g] 35)).drewN 1
      have hey : Blk ((wr.setCell ⟨q, 7, none⟩ (.int .i64 (wrap64 (n + 1)))).alloc (.cells #[.string y.k, .string y.v, .bool y.g] 35)).drew wr.heap.size 35 #[.string y.k, .string y.v, .bool y.g] := by
        have := (Blk.new (wr.setCell ⟨q, 7, none⟩ (.int .i64 (wrap64 (n + 1)))) 35 #[.string y.k, .string y.v, .bool y.g]).drewN 1
        rw [show (wr.setCell ⟨q, 7, none⟩ (.int .i64 (wrap64 (n + 1)))).heap.size = wr.heap.size from by simp [World.setCell]] at this
        exact this
      have HT2 : Hid (Tower B ((wr.setCell ⟨q, 7, none⟩ (.int .i64 (wrap64 (n + 1)))).alloc (.cells #[.string y.k, .string y.v, .bool y.g] 35)).drew t M0 F') := ht.fr hfq (fun b hb e => hqF (e ▸ hb))
      have HF2 : Hid (Fr B (· ∈ q :: F) w ((wr.setCell ⟨q, 7, none⟩ (.int .i64 (wrap64 (n + 1)))).alloc (.cells #[.string y.k, .string y.v, .bool y.g] 35)).drew) := hfr.out.trans' hfq (fun b _ e => by subst e; simp)
      have HK2 := Lib.hid hk2
      have HN2 : Hid (Ints B ((wr.setCell ⟨q, 7, none⟩ (.int .i64 (wrap64 (n + 1)))).alloc (.cells #[.string y.k, .string y.v, .bool y.g] 35)).drew (.slice A1 s.m.nw.length c1) s.m.nw) := hn.fr hfq
      have HO2 : Hid (Ints B ((wr.setCell ⟨q, 7, none⟩ (.int .i64 (wrap64 (n + 1)))).alloc (.cells #[.string y.k, .string y.v, .bool y.g] 35)).drew (.slice A2 s.m.od.length c2) s.m.od) := ho.fr hfq
      have z6 := hk2.cell 6
      have z7 := hk2.cell 7
      have z0 := hey.cell 0
      have z1 := hey.cell 1
      have z2 := hey.cell 2
      simp at z6 z7 z0 z1 z2
      have HZ : Hid ((((wr.setCell ⟨q, 7, none⟩ (.int .i64 (wrap64 (n + 1)))).alloc (.cells #[.string y.k, .string y.v, .bool y.g] 35)).drew.cell? ⟨q, 6, none⟩ = some (.pointer (some ⟨t, 0, none⟩)) ∧ ((wr.setCell ⟨q, 7, none⟩ (.int .i64 (wrap64 (n + 1)))).alloc (.cells #[.string y.k, .string y.v, .bool y.g] 35)).drew.cell? ⟨q, 7, none⟩ = some (.int .i64 (wrap64 (n + 1)))) ∧ ((wr.setCell ⟨q, 7, none⟩ (.int .i64 (wrap64 (n + 1)))).alloc (.cells #[.string y.k, .string y.v, .bool y.g] 35)).drew.cell? ⟨wr.heap.size, 0, none⟩ = some (.string y.k) ∧ ((wr.setCell ⟨q, 7, none⟩ (.int .i64 (wrap64 (n + 1)))).alloc (.cells #[.string y.k, .string y.v, .bool y.g] 35)).drew.cell? ⟨wr.heap.size, 1, none⟩ = some (.string y.v) ∧ ((wr.setCell ⟨q, 7, none⟩ (.int .i64 (wrap64 (n + 1)))).alloc (.cells #[.string y.k, .string y.v, .bool y.g] 35)).drew.cell? ⟨wr.heap.size, 2, none⟩ = some (.bool y.g)) := ⟨⟨z6, z7⟩, z0, z1, z2⟩
      have HZ3 : Hid (∀ w', Fr B (· ∈ F') ((wr.setCell ⟨q, 7, none⟩ (.int .i64 (wrap64 (n + 1)))).alloc (.cells #[.string y.k, .string y.v, .bool y.g] 35)).drew w' → ((w'.cell? ⟨q, 6, none⟩ = some (.pointer (some ⟨t, 0, none⟩)) ∧ w'.cell? ⟨q, 7, none⟩ = some (.int .i64 (wrap64 (n + 1)))) ∧ w'.cell? ⟨wr.heap.size, 0, none⟩ = some (.string y.k) ∧ w'.cell? ⟨wr.heap.size, 1, none⟩ = some (.string y.v) ∧ w'.cell? ⟨wr.heap.size, 2, none⟩ = some (.bool y.g))) := by
        intro w' hf
        have a := hk2.fr hf (.inr (.inl hqF))
        have b := hey.fr hf (.inr (.inr (by decide)))
        have a6 := a.cell 6
        have a7 := a.cell 7
        have b0 := b.cell 0
        have b1 := b.cell 1
        have b2 := b.cell 2
        simp at a6 a7 b0 b1 b2
        exact ⟨⟨a6, a7⟩, b0, b1, b2⟩
      have hBs : B ≤ ((wr.setCell ⟨q, 7, none⟩ (.int .i64 (wrap64 (n + 1)))).alloc (.cells #[.string y.k, .string y.v, .bool y.g] 35)).drew.heap.size := Nat.le_trans hB HF2.out.size
      have g1 : (0 : Int) ≤ (k : Int) := by omega
      have g2 : (k : Int) < (l.length : Int) := by omega
      clear hmut hk' hn ho ht hk2 hfq hey z6 z7 z0 z1 z2 hy hty hnext hyok hM0
      go_wp2_with fail
      go_region_held3 (fun w' => ((w'.cell? ⟨q, 6, none⟩ = some (.pointer (some ⟨t, 0, none⟩)) ∧ w'.cell? ⟨q, 7, none⟩ = some (.int .i64 (wrap64 (n + 1)))) ∧ w'.cell? ⟨wr.heap.size, 0, none⟩ = some (.string y.k) ∧ w'.cell? ⟨wr.heap.size, 1, none⟩ = some (.string y.v) ∧ w'.cell? ⟨wr.heap.size, 2, none⟩ = some (.bool y.g)))
        ((first | exact HZ.out | exact HZ3.out _ hF3))
        ((first | (go_at_call 27; refine (tput_any B t M0 F' y _ _ HT2.out hBs hml HYO.out).mono ?_; rintro d w3 ⟨F2, rfl, hT3, hF3, hnew3⟩)))
      have HS3 : Hid (StoreR B w3 q p { s with mem := putE M0 y } F2) := ⟨A1, c1, A2, c2, t, _, HK2.out.fr hF3 (.inr (.inl hqF)), HN2.out.fr hF3, HO2.out.fr hF3, hT3, hBq, fun hm => (hnew3 q hm).elim hqF (fun h => by have := HK2.out.lt; omega)⟩
      have HF3 : Hid (Fr B (· ∈ q :: F) w w3) := HF2.out.trans' hF3 (fun b hb hm => (hnew.out b hm).elim (fun h => by simp [h]) (fun h => by omega))
      have HW3 : Hid (∀ b ∈ F2, b ∈ F ∨ w.heap.size ≤ b) := fun b hb => (hnew3 b hb).elim (hnew.out b) (fun h => .inr (Nat.le_trans HF2.out.size h))
      clear hT3 hF3 hnew3
      go_wp2_with fail
      go_roundw
      case rel => exact ⟨k + 1, F2, by go_num, by omega, by rw [Hid, HNX.out]; exact HS3.out, HF3.out, HW3.out⟩
      case measure => simp [intOf] <;> omega
    · obtain rfl : k = l.length := by omega
      have g2 : decide ((l.length : Int) < (l.length : Int)) = false := by simp
      rw [List.take_length] at hS
      go_wp2_with fail
      go_end0
      exact ⟨F', rfl, hS.out, hfr.out, hnew.out⟩
theorem store_noted {B q p t : Nat} {c : Chip} {m : Man} {a : Int} {mem : List Ent} {tabs : List (List Ent)} {F : List Nat} {w3 : World} {x1 x2 x3 x4 x5 : Value} {n : Int} {A1 A2 : Option Addr} {c1 c2 : Nat}
    (hk : Blk w3 q 160 #[.pointer (some ⟨p, 0, none⟩), x1, x2, x3, x4, x5, .pointer (some ⟨t, 0, none⟩), .int .i64 n])
    (hn : Ints B w3 (.slice A1 m.nw.length c1) m.nw) (ho : Ints B w3 (.slice A2 m.od.length c2) m.od) (ht : Tower B w3 t mem F) (hq : q ∉ F) (hB : B ≤ q) (hc : ChipR B w3 p c) (hqp : q ≠ p) :
    StoreR B (((((w3.setCell ⟨q, 1, none⟩ (.int .i64 m.ep)).setCell ⟨q, 2, none⟩ (.int .i64 m.log)).setCell ⟨q, 3, none⟩ (.slice A1 m.nw.length c1)).setCell ⟨q, 4, none⟩ (.slice A2 m.od.length c2)).setCell ⟨q, 5, none⟩ (.int .i64 a)) q p ⟨m, a, mem, tabs⟩ F ∧ ChipR B (((((w3.setCell ⟨q, 1, none⟩ (.int .i64 m.ep)).setCell ⟨q, 2, none⟩ (.int .i64 m.log)).setCell ⟨q, 3, none⟩ (.slice A1 m.nw.length c1)).setCell ⟨q, 4, none⟩ (.slice A2 m.od.length c2)).setCell ⟨q, 5, none⟩ (.int .i64 a)) p c ∧ Fr B (· = q) w3 (((((w3.setCell ⟨q, 1, none⟩ (.int .i64 m.ep)).setCell ⟨q, 2, none⟩ (.int .i64 m.log)).setCell ⟨q, 3, none⟩ (.slice A1 m.nw.length c1)).setCell ⟨q, 4, none⟩ (.slice A2 m.od.length c2)).setCell ⟨q, 5, none⟩ (.int .i64 a)) := by
  have hmut : ∃ cs T fz, w3.heap[q]? = some (.cells cs T fz) ∧ mutT T = true := ⟨_, _, _, hk, by decide⟩
  have hf : Fr B (· = q) w3 (((((w3.setCell ⟨q, 1, none⟩ (.int .i64 m.ep)).setCell ⟨q, 2, none⟩ (.int .i64 m.log)).setCell ⟨q, 3, none⟩ (.slice A1 m.nw.length c1)).setCell ⟨q, 4, none⟩ (.slice A2 m.od.length c2)).setCell ⟨q, 5, none⟩ (.int .i64 a)) := (((((Fr.refl B (· = q) w3).setCell (p := ⟨q, 1, none⟩) hB (.inl rfl) (fun _ => hmut) _).setCell (p := ⟨q, 2, none⟩) hB (.inl rfl) (fun _ => hmut) _).setCell (p := ⟨q, 3, none⟩) hB (.inl rfl) (fun _ => hmut) _).setCell (p := ⟨q, 4, none⟩) hB (.inl rfl) (fun _ => hmut) _).setCell (p := ⟨q, 5, none⟩) hB (.inl rfl) (fun _ => hmut) _
  exact ⟨⟨A1, c1, A2, c2, t, n, ((((hk.set_ 1 _).set_ 2 _).set_ 3 _).set_ 4 _).set_ 5 _, hn.fr hf, ho.fr hf, ht.fr hf (fun b hb e => hq (e ▸ hb)), hB, hq⟩, hc.keep hf (fun e => hqp e.symm), hf⟩
theorem noteM_ok {c : Chip} {s : SM} {m0 : Man} (h : (noteR c s.at_ { m0 with ep := s.m.ep + 1 }).2.2 = 0) : noteM c s m0 = ((noteR c s.at_ { m0 with ep := s.m.ep + 1 }).1, { s with m := { m0 with ep := s.m.ep + 1 }, at_ := (noteR c s.at_ { m0 with ep := s.m.ep + 1 }).2.1 }, 0) := if_pos h
theorem noteM_bad {c : Chip} {s : SM} {m0 : Man} (h : (noteR c s.at_ { m0 with ep := s.m.ep + 1 }).2.2 ≠ 0) : noteM c s m0 = ((noteR c s.at_ { m0 with ep := s.m.ep + 1 }).1, s, (noteR c s.at_ { m0 with ep := s.m.ep + 1 }).2.2) := if_neg h
set_option maxRecDepth 20000 in
set_option maxHeartbeats 4000000 in
theorem snote_any (B : Nat) (q p : Nat) (c : Chip) (s : SM) (F : List Nat) (v : Value) (m0 : Man) (w : World) (h : StoreR B w q p s F) (hc : ChipR B w p c) (hm : ManV B w v m0) (h1 : m0.nw.length ≤ 1000) (h2 : m0.od.length ≤ 1000) (ha : s.at_ = 0 ∨ s.at_ = 1) (hep : 0 ≤ s.m.ep) (hep2 : s.m.ep ≤ 1000000) :
    Calls Try.prog 114 #[.pointer (some ⟨q, 0, none⟩), v] w fun e w' => e = .returned (errV (noteM c s m0).2.2) ∧ ChipR B w' p (noteM c s m0).1 ∧ StoreR B w' q p (noteM c s m0).2.1 F ∧ Fr B (fun b => b = q ∨ b = p) w w' := by
  obtain ⟨vn, vo, rfl, hn0, ho0⟩ := hm
  obtain ⟨B1, d1, rfl, _, _, _⟩ := hn0.form
  obtain ⟨B2, d2, rfl, _, _, _⟩ := ho0.form
  have hap := h.apart hc
  have hqp : q ≠ p := hap q (by simp)
  have hq0 := h.lt
  have hqB := h.base
  have hb0 : Below w.heap.size w (w.alloc (.cells #[.int .i64 (s.m.ep + 1), .int .i64 m0.log, .slice B1 m0.nw.length d1, .slice B2 m0.od.length d2] 91)) := (Below.refl _ _).alloc (Nat.le_refl _) _
  have HS1 := Lib.hid (h.below hb0)
  have HC1 := Lib.hid (hc.below hb0)
  have HN1 := Lib.hid (hn0.below hb0)
  have HO1 := Lib.hid (ho0.below hb0)
  have HM1 : Hid (Blk (w.alloc (.cells #[.int .i64 (s.m.ep + 1), .int .i64 m0.log, .slice B1 m0.nw.length d1, .slice B2 m0.od.length d2] 91)) w.heap.size 91 #[.int .i64 (s.m.ep + 1), .int .i64 m0.log, .slice B1 m0.nw.length d1, .slice B2 m0.od.length d2]) := Blk.new w _ _
  have HF1 : Hid (Fr B (fun b => b = q ∨ b = p) w (w.alloc (.cells #[.int .i64 (s.m.ep + 1), .int .i64 m0.log, .slice B1 m0.nw.length d1, .slice B2 m0.od.length d2] 91)).drew) := ((Fr.refl _ _ _).alloc _).drewN 1
  have hnt := note_any B p c s.at_ (.agg #[.int .i64 (s.m.ep + 1), .int .i64 m0.log, .slice B1 m0.nw.length d1, .slice B2 m0.od.length d2]) { m0 with ep := s.m.ep + 1 } (w.alloc (.cells #[.int .i64 (s.m.ep + 1), .int .i64 m0.log, .slice B1 m0.nw.length d1, .slice B2 m0.od.length d2] 91)).drew (HC1.out.drewN 1) ha ⟨_, _, rfl, HN1.out, HO1.out⟩ h1 h2
  obtain ⟨A1, c1, A2, c2, t, n, hk, hn, ho, ht, hBq, hqF⟩ := h
  have HKQ : Hid (Blk (w.alloc (.cells #[.int .i64 (s.m.ep + 1), .int .i64 m0.log, .slice B1 m0.nw.length d1, .slice B2 m0.od.length d2] 91)).drew q 160 #[.pointer (some ⟨p, 0, none⟩), .int .i64 s.m.ep, .int .i64 s.m.log, .slice A1 s.m.nw.length c1, .slice A2 s.m.od.length c2, .int .i64 s.at_, .pointer (some ⟨t, 0, none⟩), .int .i64 n]) := (hk.alloc _).drewN 1
  have HMD : Hid (Blk (w.alloc (.cells #[.int .i64 (s.m.ep + 1), .int .i64 m0.log, .slice B1 m0.nw.length d1, .slice B2 m0.od.length d2] 91)).drew w.heap.size 91 #[.int .i64 (s.m.ep + 1), .int .i64 m0.log, .slice B1 m0.nw.length d1, .slice B2 m0.od.length d2]) := HM1.out.drewN 1
  have HZ : Hid (∀ {w'}, Fr B (· = p) (w.alloc (.cells #[.int .i64 (s.m.ep + 1), .int .i64 m0.log, .slice B1 m0.nw.length d1, .slice B2 m0.od.length d2] 91)).drew w' → (w'.cell? ⟨q, 0, none⟩ = some (.pointer (some ⟨p, 0, none⟩)) ∧ w'.cell? ⟨q, 5, none⟩ = some (.int .i64 s.at_)) ∧ w'.cell? ⟨w.heap.size, 0, none⟩ = some (.int .i64 (s.m.ep + 1)) ∧ w'.cell? ⟨w.heap.size, 1, none⟩ = some (.int .i64 m0.log) ∧ w'.cell? ⟨w.heap.size, 2, none⟩ = some (.slice B1 m0.nw.length d1) ∧ w'.cell? ⟨w.heap.size, 3, none⟩ = some (.slice B2 m0.od.length d2)) := by
    intro w' hf
    have a := HKQ.out.fr hf (.inr (.inl hqp))
    have b := HMD.out.fr hf (.inr (.inr (by decide)))
    have a0 := a.cell 0
    have a5 := a.cell 5
    have b0 := b.cell 0
    have b1 := b.cell 1
    have b2 := b.cell 2
    have b3 := b.cell 3
    simp at a0 a5 b0 b1 b2 b3
    exact ⟨⟨a0, a5⟩, b0, b1, b2, b3⟩
  have HSD : Hid (StoreR B (w.alloc (.cells #[.int .i64 (s.m.ep + 1), .int .i64 m0.log, .slice B1 m0.nw.length d1, .slice B2 m0.od.length d2] 91)).drew q p s F) := HS1.out.drewN 1
  have HND : Hid (Ints B (w.alloc (.cells #[.int .i64 (s.m.ep + 1), .int .i64 m0.log, .slice B1 m0.nw.length d1, .slice B2 m0.od.length d2] 91)).drew (.slice B1 m0.nw.length d1) m0.nw) := HN1.out.drewN 1
  have HOD : Hid (Ints B (w.alloc (.cells #[.int .i64 (s.m.ep + 1), .int .i64 m0.log, .slice B1 m0.nw.length d1, .slice B2 m0.od.length d2] 91)).drew (.slice B2 m0.od.length d2) m0.od) := HO1.out.drewN 1
  have HTD : Hid (Tower B (w.alloc (.cells #[.int .i64 (s.m.ep + 1), .int .i64 m0.log, .slice B1 m0.nw.length d1, .slice B2 m0.od.length d2] 91)).drew t s.mem F) := (ht.below hb0).drewN 1
  have HAP := Lib.hid hap
  have x1 := hk.cell 1
  simp at x1
  clear hk hn ho ht hn0 ho0 hb0 hc hap HS1 HC1 HN1 HO1 HM1
  by_cases hr : (noteR c s.at_ { m0 with ep := s.m.ep + 1 }).2.2 = 0
  · have HE := Lib.hid (noteM_ok hr)
    rw [hr] at hnt
    generalize noteR c s.at_ { m0 with ep := s.m.ep + 1 } = r at *
    obtain ⟨c', a', n'⟩ := r
    simp only at hr hnt HE
    rw [show errV 0 = Value.nilIface from rfl] at hnt
    have HNT := Lib.hid hnt
    clear hr hnt
    go_enter Try.func114, Try.ntmps114
    go_wp2_with fail
    go_region_held3 (fun w' => (w'.cell? ⟨q, 0, none⟩ = some (.pointer (some ⟨p, 0, none⟩)) ∧ w'.cell? ⟨q, 5, none⟩ = some (.int .i64 s.at_)) ∧ w'.cell? ⟨w.heap.size, 0, none⟩ = some (.int .i64 (s.m.ep + 1)) ∧ w'.cell? ⟨w.heap.size, 1, none⟩ = some (.int .i64 m0.log) ∧ w'.cell? ⟨w.heap.size, 2, none⟩ = some (.slice B1 m0.nw.length d1) ∧ w'.cell? ⟨w.heap.size, 3, none⟩ = some (.slice B2 m0.od.length d2))
      ((first | exact HZ.out (Fr.refl _ _ _) | exact HZ.out hf3))
      ((first | (go_at_call 67; refine HNT.out.mono ?_; rintro d w3 ⟨rfl, hc3, hf3⟩)))
    have hkq := HKQ.out.fr hf3 (.inr (.inl hqp))
    have hmd := HMD.out.fr hf3 (.inr (.inr (by decide)))
    have b0 := hmd.cell 0
    have b1 := hmd.cell 1
    have b2 := hmd.cell 2
    have b3 := hmd.cell 3
    have r1 := hkq.cell 1
    have r2 := hkq.cell 2
    have r3 := hkq.cell 3
    have r4 := hkq.cell 4
    have r5 := hkq.cell 5
    have f1 := hkq.frozen 1
    have f2 := hkq.frozen 2
    have f3 := hkq.frozen 3
    have f4 := hkq.frozen 4
    have f5 := hkq.frozen 5
    simp at b0 b1 b2 b3 r1 r2 r3 r4 r5
    have HFIN := Lib.hid (store_noted (c := c') (p := p) (m := { m0 with ep := s.m.ep + 1 }) (tabs := s.tabs) (a := a') hkq (HND.out.fr hf3) (HOD.out.fr hf3) (HTD.out.fr hf3 (fun b hb => HAP.out b (by simp [hb]))) hqF hqB hc3 hqp)
    have HF3 : Hid (Fr B (fun b => b = q ∨ b = p) w w3) := HF1.out.trans' hf3 (fun b _ e => .inr e)
    clear hkq hmd hc3 hf3
    go_wp2_with fail
    go_ret
    rw [HE.out]
    exact ⟨rfl, HFIN.out.2.1, HFIN.out.1, HF3.out.trans' HFIN.out.2.2 (fun b _ e => .inl e)⟩
  · have HE := Lib.hid (noteM_bad hr)
    have he := errV_pos hr
    rw [he] at hnt
    have HEV := Lib.hid he
    generalize noteR c s.at_ { m0 with ep := s.m.ep + 1 } = r at *
    obtain ⟨c', a', n'⟩ := r
    simp only at hr hnt HE HEV
    have HNT := Lib.hid hnt
    clear hr hnt he
    go_enter Try.func114, Try.ntmps114
    go_wp2_with fail
    go_region_held3 (fun w' => (w'.cell? ⟨q, 0, none⟩ = some (.pointer (some ⟨p, 0, none⟩)) ∧ w'.cell? ⟨q, 5, none⟩ = some (.int .i64 s.at_)) ∧ w'.cell? ⟨w.heap.size, 0, none⟩ = some (.int .i64 (s.m.ep + 1)) ∧ w'.cell? ⟨w.heap.size, 1, none⟩ = some (.int .i64 m0.log) ∧ w'.cell? ⟨w.heap.size, 2, none⟩ = some (.slice B1 m0.nw.length d1) ∧ w'.cell? ⟨w.heap.size, 3, none⟩ = some (.slice B2 m0.od.length d2))
      ((first | exact HZ.out (Fr.refl _ _ _) | exact HZ.out hf3))
      ((first | (go_at_call 67; refine HNT.out.mono ?_; rintro d w3 ⟨rfl, hc3, hf3⟩)))
    have HC3 := Lib.hid hc3
    have HS3 : Hid (StoreR B w3 q p s F) := HSD.out.fr hf3 HAP.out
    have HF3 : Hid (Fr B (fun b => b = q ∨ b = p) w w3) := HF1.out.trans' hf3 (fun b _ e => .inr e)
    clear hc3 hf3
    go_wp2_with fail
    go_ret
    rw [HE.out]
    exact ⟨by rw [HEV.out]; rfl, HC3.out, HS3.out, HF3.out⟩
end Go.Proofs.Ytaepdbkfaoiimaa
/- The contracts of store.lists, Rows. Conditions: none but those that each names. -/
set_option linter.unusedVariables false
set_option linter.unusedSimpArgs false
namespace Go.Proofs.Ytaepdbkfaoiimaa
open Go.RowKit
attribute [local go_sem ↓] eql_err eql_nilerr neq_err neq_nilerr guard_err guard_nilerr guardn_err guardn_nilerr
theorem info_ents : (Try.prog.info? 32).map (fun i => (i.zero, i.size, i.bytes)) = some (some (.slice none 0 0), 1, 24) := by kernel_rfl
theorem one_slice (A : Option Addr) (n c : Nat) : ∀ u ∈ [Value.slice A n c], u.oneCell' = true := by
  intro u hu
  simp at hu
  subst hu
  rfl
theorem own_ty {w : World} {base : Nat} {e : TypeId} {size : Nat} {v : Value} {n : Nat} {xs : List Value} (h : w.ownsRow base e size v n xs) : ∀ g, v.ownBlock = some g → base ≤ g ∧ ∃ cs fz, w.heap[g]? = some (.cells cs e fz) := by
  intro g hg
  rcases h.2 with ⟨rfl, _⟩ | ⟨g', cap, cur, rfl, h1, h2, _⟩
  · cases hg
  · cases hg
    exact ⟨h1, cur, _, h2⟩
/-- The tables' blocks, put together, where the store lies as it did. -/
theorem concat_store {B q p : Nat} {s : SM} {F : List Nat} {w W : World} {A1 A2 : Option Addr} {c1 c2 : Nat} (hn : Ints B w (.slice A1 s.m.nw.length c1) s.m.nw) (ho : Ints B w (.slice A2 s.m.od.length c2) s.m.od) (hb : Below w.heap.size w W) (h1 : s.m.nw.length ≤ 1000) (h2 : s.m.od.length ≤ 1000) :
    Calls Try.prog 98 #[.slice (some ⟨W.heap.size, 0, none⟩) 2 2] (W.alloc (.cells #[.slice A1 s.m.nw.length c1, .slice A2 s.m.od.length c2] 41)).drew fun e w3 => ∃ v3, e = .returned v3 ∧ Ints B w3 v3 (s.m.nw ++ s.m.od) ∧ Below w.heap.size w w3 ∧ Below W.heap.size W w3 := by
  have hbc : Below W.heap.size W (W.alloc (.cells #[.slice A1 s.m.nw.length c1, .slice A2 s.m.od.length c2] 41)).drew := ((Below.refl _ _).alloc (Nat.le_refl _) _).drew
  have hB : Below w.heap.size w (W.alloc (.cells #[.slice A1 s.m.nw.length c1, .slice A2 s.m.od.length c2] 41)).drew := hb.trans (hbc.mono hb.size)
  have gc : Blk (W.alloc (.cells #[.slice A1 s.m.nw.length c1, .slice A2 s.m.od.length c2] 41)).drew W.heap.size 41 #[.slice A1 s.m.nw.length c1, .slice A2 s.m.od.length c2] := Blk.drewN (Blk.new W 41 #[.slice A1 s.m.nw.length c1, .slice A2 s.m.od.length c2]) 1
  refine (concat_rd B _ _ _ s.m.nw s.m.od _ gc (hn.below hB) (ho.below hB) (by omega) (by omega)).mono ?_
  rintro e w3 ⟨v3, h3, h4, h5⟩
  have h5' : Below W.heap.size W w3 := hbc.trans (h5.mono (by simp))
  exact ⟨v3, h3, h4, hb.trans (h5'.mono hb.size), h5'⟩
set_option maxRecDepth 20000 in
set_option maxHeartbeats 4000000 in
theorem lists_any (B : Nat) (q p : Nat) (c : Chip) (s : SM) (F : List Nat) (w : World) (h : StoreR B w q p s F) (hc : ChipR B w p c) (hi : Inv c s) :
    Calls Try.prog 111 #[.pointer (some ⟨q, 0, none⟩)] w fun e w' => ∃ v, e = .returned (.tuple #[v, .nilIface]) ∧ Lss B w' v (s.mem :: s.tabs) ∧ Below w.heap.size w w' := by
  have fin : ∀ (wr : World) (tmps : Array Value) (v : Value), Lss B wr v (s.mem :: s.tabs) → Below w.heap.size w wr → tmps[2]? = some v → tmps[3]? = some .nilIface →
      bodyPost Try.prog Try.f111 (fun e w' => ∃ v, e = .returned (.tuple #[v, .nilIface]) ∧ Lss B w' v (s.mem :: s.tabs) ∧ Below w.heap.size w w') .ret { tmps := tmps, defers := [] } wr := by
    intro wr tmps v hv hb t2 t3
    exact bodyPost_ret (v := .tuple #[v, .nilIface]) (by simp [results, Try.results111, go_sem, t2, t3]) rfl ⟨v, rfl, hv, hb⟩
  have FIN := Lib.hid fin
  clear fin
  have hlt := h.lt
  have hn5 := hi.body.nwl
  have ho3 := hi.body.odl
  have hml := Fallen.mem_len hi
  have hrng := hi.body.rng
  have HUP := Lib.hid hi.up
  have HTB := Lib.hid hi.body.tabs
  have HCR := Lib.hid hc
  have HRN : Hid (∀ b ∈ s.m.nw ++ s.m.od, 2 ≤ b ∧ b < 24) := fun b hb => hrng b (by simp only [Man.all, List.mem_cons]; exact .inr hb)
  have hbl : (s.m.nw ++ s.m.od).length ≤ 8 := by rw [List.length_append]; omega
  have hBw : B ≤ w.heap.size := Nat.le_of_lt (Nat.lt_of_le_of_lt h.base hlt)
  obtain ⟨bs, hbs⟩ : ∃ bs, bs = s.m.nw ++ s.m.od := ⟨_, rfl⟩
  rw [← hbs] at HTB HRN hbl
  have HBS := Lib.hid hbs
  clear hbs
  obtain ⟨A1, c1, A2, c2, t, n, hk, hn, ho, ht, _, _⟩ := h
  have HN := Lib.hid hn
  have HO := Lib.hid ho
  have x0 := hk.cell 0
  have x3 := hk.cell 3
  have x4 := hk.cell 4
  have x6 := hk.cell 6
  simp at x0 x3 x4 x6
  have HC : Hid (∀ w' : World, Below w.heap.size w w' → (w'.cell? ⟨q, 3, none⟩ = some (.slice A1 s.m.nw.length c1) ∧ w'.cell? ⟨q, 4, none⟩ = some (.slice A2 s.m.od.length c2)) ∧ Below w.heap.size w w') := fun w' hb =>
    ⟨⟨(hb.cell (p := ⟨q, 3, none⟩) hlt).trans x3, (hb.cell (p := ⟨q, 4, none⟩) hlt).trans x4⟩, hb⟩
  have HC0 : Hid (∀ w' : World, Below w.heap.size w w' → w'.cell? ⟨q, 0, none⟩ = some (.pointer (some ⟨p, 0, none⟩))) := fun w' hb => (hb.cell (p := ⟨q, 0, none⟩) hlt).trans x0
  have HALL := Lib.hid (tall_any B t s.mem F w ht (by omega))
  clear hrng hi hc hk hn ho ht x0 x3 x4
  go_enter Try.func111, Try.ntmps111
  go_wp2_with fail
  refine HALL.out.mono ?_
  rintro e w1 ⟨v1, rfl, hv1, hb1⟩
  obtain ⟨A0, c0, rfl, _, _, _⟩ := hv1.form
  have HV1 := Lib.hid hv1
  have HB1 := Lib.hid hb1
  clear hv1 hb1 HALL
  have hs1 := HB1.out.size
  have HB2 : Hid (Below w.heap.size w (w1.alloc (.cells #[.slice A0 s.mem.length c0] 32))) := HB1.out.alloc hs1 _
  have HOW : Hid ((w1.alloc (.cells #[.slice A0 s.mem.length c0] 32)).ownsRow w.heap.size 32 1 (.slice (some ⟨w1.heap.size, 0, none⟩) 1 1) 1 [.slice A0 s.mem.length c0]) := own_one (Blk.new w1 _ _) hs1
  have HV2 : Hid (Ents B (w1.alloc (.cells #[.slice A0 s.mem.length c0] 32)) (.slice A0 s.mem.length c0) s.mem) := HV1.out.below ((Below.refl _ _).alloc (Nat.le_refl _) _)
  have hsz2 : (w1.alloc (.cells #[.slice A0 s.mem.length c0] 32)).heap.size = w1.heap.size + 1 := by simp
  have hCC := concat_store (q := q) (p := p) (F := F) HN.out HO.out HB2.out (by omega) (by omega)
  rw [hsz2, ← HBS.out] at hCC
  have HCC := Lib.hid hCC
  have HB2D : Hid (Below w.heap.size w (w1.alloc (.cells #[.slice A0 s.mem.length c0] 32)).drew) := HB2.out.drew
  clear hCC hsz2 HV1 HB1
  go_wp2_with fail
  go_region_held3 (fun w' => (w'.cell? ⟨q, 3, none⟩ = some (.slice A1 s.m.nw.length c1) ∧ w'.cell? ⟨q, 4, none⟩ = some (.slice A2 s.m.od.length c2)) ∧ Below w.heap.size w w')
    ((first | exact HC.out _ HB2D.out | exact HC.out _ hB3 | exact HC.out _ (HB2.out.alloc HB2.out.size _).drew))
    ((first | (go_at_call 98; refine HCC.out.mono ?_; rintro e w3 ⟨v3, rfl, hi3, hB3, hBW⟩; obtain ⟨A3, c3, rfl, k5, k6, kc⟩ := hi3.form)))
  have HI3 := Lib.hid hi3
  have HB3 := Lib.hid hB3
  have HTL : Hid (bs.length = s.tabs.length) := tabsAt_len HTB.out
  have hBW : Below (w1.alloc (.cells #[.slice A0 s.mem.length c0] 32)).heap.size (w1.alloc (.cells #[.slice A0 s.mem.length c0] 32)) w3 := by rw [World.size_alloc]; exact hBW
  have HO3 : Hid (w3.ownsRow w.heap.size 32 1 (.slice (some ⟨w1.heap.size, 0, none⟩) 1 1) 1 [.slice A0 s.mem.length c0]) := own_below HOW.out hBW
  have HV3 : Hid (Ents B w3 (.slice A0 s.mem.length c0) s.mem) := HV2.out.below hBW
  clear hi3 hB3 hBW kc HC HN HO HB2 HB2D HCC HOW HV2
  go_wp2_with fail
  go_loopw [4, 28] (fun u i wr => ∃ (k : Nat) (vs : List Value), k ≤ bs.length ∧ i = .int .i64 (k : Int) ∧ Hid (wr.ownsRow w.heap.size 32 1 u (k + 1) vs) ∧ Hid (vs.length = k + 1 ∧ ∀ (i : Nat) (x : Value) (l : List Ent), vs[i]? = some x → (s.mem :: s.tabs)[i]? = some l → Ents B wr x l) ∧ Hid (Ints B wr (.slice A3 bs.length c3) bs) ∧ Below w.heap.size w wr) (fun _ i _ => bs.length - (intOf i).toNat)
  case atStart =>
    refine ⟨0, [.slice A0 s.mem.length c0], Nat.zero_le _, rfl, HO3.out, ⟨rfl, fun i x l hx hl => ?_⟩, HI3.out, HB3.out⟩
    cases i with
    | zero => simp at hx hl; subst hx; subst hl; exact HV3.out
    | succ i => simp at hx
  case round =>
    obtain ⟨k, vs, hk, rfl, hown, hvs, hi4, hbl4⟩ := hrel
    clear HI3 HB3 HO3 HV3
    by_cases hlt : k < bs.length
    · obtain ⟨x, hx, _, _⟩ := getElem?_of_lt hlt
      obtain ⟨l, hl, htab⟩ := tabsAt_at HTB.out k x hx
      have hxr := HRN.out x (List.mem_of_getElem? hx)
      obtain ⟨xn, rfl⟩ := Int.eq_ofNat_of_zero_le (show 0 ≤ x by omega)
      rw [Int.toNat_natCast] at htab
      obtain ⟨A4, c4, e4, _, _, hcell⟩ := hi4.out.form
      obtain ⟨bb, oo, rfl, hbb, y1⟩ := hcell k _ hx
      cases e4
      have HT := Lib.hid (taball_any B p xn c l wr (HCR.out.below hbl4) (by omega) HUP.out htab)
      have HL := Lib.hid hl
      have x0 := HC0.out wr hbl4
      have HB4 := Lib.hid hbl4
      have hs4 := hbl4.size
      obtain ⟨i0, hi, hz0, hz1, hz2⟩ := info_parts info_ents
      have g1 : (0 : Int) ≤ (k : Int) := by omega
      have g2 : (k : Int) < (bs.length : Int) := by omega
      clear hx hl htab hcell hxr hbl4
      go_wp2_with (first
        | (go_at_call 126; refine HT.out.mono ?_; rintro e5 w5 ⟨v5, rfl, hv5, hb5⟩; obtain ⟨A5, c5, rfl, _, _, _⟩ := hv5.form; have HV5 := Lib.hid hv5; have HB5 := Lib.hid hb5; have HOW5 := Lib.hid (own_below hown.out hb5); clear hv5 hb5; have hs5 := HB5.out.size)
        | (at_builtin; go_loud (refine wpList_append_rd _ rfl (.tmp 44) (.tmp 46) 31 rfl w.heap.size 32 i0 (.slice none 0 0) 1 24 Try.underlying31 hi hz0 hz1 hz2 rfl (by decide) u4 (k + 1) vs rfl (own_alloc HOW5.out (.cells #[.slice A5 l.length c5] 32)) B 32 (.slice (some ⟨w5.heap.size, 0, none⟩) 1 1) 1 [.slice A5 l.length c5] rfl (Rd.of_own (base := 0) (own_one (Blk.new w5 _ _) (Nat.zero_le _))) (one_slice _ _ _) (by unfold maxLen; omega) (by omega) (by simp; omega) ?_); intro v6 w6 hown6 hg6 hat6))
      have hbA : Below wr.heap.size wr (w5.alloc (.cells #[.slice A5 l.length c5] 32)) := HB5.out.alloc hs5 _
      have hownA := own_alloc HOW5.out (.cells #[.slice A5 l.length c5] 32)
      have hgr : ∀ g, u4.ownBlock = some g → g < (w5.alloc (.cells #[.slice A5 l.length c5] 32)).heap.size → B ≤ g ∧ ∃ cs T' fz, (w5.alloc (.cells #[.slice A5 l.length c5] 32)).heap[g]? = some (.cells cs T' fz) ∧ T' = 32 := fun g hg _ => by
        obtain ⟨h1, cs, fz, h2⟩ := own_ty hownA g hg
        exact ⟨by omega, cs, _, fz, h2, rfl⟩
      have hki : ∀ {y : Value} {m : List Int}, Ints B (w5.alloc (.cells #[.slice A5 l.length c5] 32)) y m → Ints B w6 y m := fun {y m} h => Rd.grown h hg6 (fun g hg hlt => by obtain ⟨h1, cs, T', fz, h2, h3⟩ := hgr g hg hlt; exact ⟨h1, cs, T', fz, h2, by rw [h3]; decide⟩)
      have hke : ∀ {y : Value} {m : List Ent}, Ents B (w5.alloc (.cells #[.slice A5 l.length c5] 32)) y m → Ents B w6 y m := fun {y m} h => ⟨Rd.grown h.1 hg6 (fun g hg hlt => by obtain ⟨h1, cs, T', fz, h2, h3⟩ := hgr g hg hlt; exact ⟨h1, cs, T', fz, h2, by rw [h3]; decide⟩), h.2⟩
      have HI6 : Hid (Ints B w6 (.slice (some ⟨bb, oo, none⟩) bs.length c3) bs) := hki (hi4.out.below hbA)
      have HVS6 : Hid ((vs ++ [Value.slice A5 l.length c5]).length = k + 1 + 1 ∧ ∀ (i : Nat) (x : Value) (l' : List Ent), (vs ++ [Value.slice A5 l.length c5])[i]? = some x → (s.mem :: s.tabs)[i]? = some l' → Ents B w6 x l') := by
        refine ⟨by rw [List.length_append, hvs.out.1]; rfl, fun i x l' hx hl' => ?_⟩
        rcases Nat.lt_or_ge i (k + 1) with hik | hik
        · rw [List.getElem?_append_left (by rw [hvs.out.1]; exact hik)] at hx
          exact hke ((hvs.out.2 i x l' hx hl').below hbA)
        · have : i = k + 1 := by
            rcases Nat.lt_or_ge i (k + 2) with h | h
            · omega
            · rw [List.getElem?_eq_none (by rw [List.length_append, hvs.out.1]; exact h)] at hx; cases hx
          subst this
          rw [List.getElem?_append_right (by rw [hvs.out.1]; omega), hvs.out.1, Nat.sub_self] at hx
          simp at hx
          subst hx
          rw [List.getElem?_cons_succ, HL.out] at hl'
          cases hl'
          exact hke (HV5.out.below ((Below.refl _ _).alloc (Nat.le_refl _) _))
      have HB6 : Hid (Below w.heap.size w w6) := below_own (HB4.out.trans (hbA.mono hs4)) (Nat.le_refl _) hownA hg6
      have HOW6 := Lib.hid hown6
      clear hbA hownA hgr hki hke hi hz0 hz1 hz2 hown6 hg6 hat6
      go_wp2_with fail
      go_roundw
      case rel => exact ⟨k + 1, _, by omega, by go_num, HOW6, HVS6, HI6, HB6.out⟩
      case measure => simp [intOf] <;> omega
    · have g2 : decide ((k : Int) < (bs.length : Int)) = false := decide_eq_false (by omega)
      have hk' : k = bs.length := by omega
      have hvl := hvs.out.1
      have htl := HTL.out
      have HLS : Hid (Lss B wr u4 (s.mem :: s.tabs)) := ⟨vs, by rw [hvl, List.length_cons]; omega, by have := Rd.of_own (B := B) hown.out; rw [show k + 1 = (s.mem :: s.tabs).length from by rw [List.length_cons]; omega] at this; exact this, hvs.out.2⟩
      clear hk' hvl htl
      go_wp2_with fail
      exact FIN.out _ _ _ HLS.out hbl4 rfl rfl
end Go.Proofs.Ytaepdbkfaoiimaa
/- The contract of store.Open. Conditions: the chip has a store. -/
set_option linter.unusedVariables false
set_option linter.unusedSimpArgs false
namespace Go.Proofs.Ytaepdbkfaoiimaa
open Go.RowKit
attribute [local go_sem ↓] eql_err eql_nilerr neq_err neq_nilerr guard_err guard_nilerr guardn_err guardn_nilerr
theorem Fr.off {B n : Nat} {M : Nat → Prop} {w w' : World} (h : Fr B M w w') (hM : ∀ b, M b → n ≤ b) (hn : n ≤ w.heap.size) : Below n w w' :=
  ⟨h.os, h.tape, h.output, h.size, fun k hk => h.block k (Nat.lt_of_lt_of_le hk hn) (.inr (.inl fun hm => by have := hM k hm; omega))⟩
theorem findR_ok {c : Chip} {s : SM} (hi : Inv c s) : findR c = (s.m, s.at_, 0) := by
  unfold findR
  rw [hi.up, if_neg (by simp), hi.head.find, if_neg (by have := hi.head.at_; simp only; omega)]
/-- A page of the log is read. -/
theorem log_read {c : Chip} {b i : Nat} {x : Sheet} (hd : c.down = false) (hb : b < 24) (hi : i < 8) (hx : (c.b b).l[i]? = some x) : c.read b i = if x.t then (ByteArray.empty, 4) else (x.d, 0) := by
  unfold Chip.read
  rw [hd, if_neg (by simp), if_neg (by omega), Int.toNat_natCast, Int.toNat_natCast, hx]
theorem logE_drop {l : List Sheet} {i : Nat} {x : Sheet} {es : List Ent} (hx : l[i]? = some x) (h : logE (l.drop i) = some es) :
    (x.t = true ∧ logE (l.drop (i + 1)) = some es) ∨ (x.t = false ∧ ∃ a b, parseR x.d = some a ∧ logE (l.drop (i + 1)) = some b ∧ es = a ++ b) := by
  have hk : i < l.length := by
    rcases Nat.lt_or_ge i l.length with h' | h'
    · exact h'
    · rw [List.getElem?_eq_none h'] at hx; cases hx
  rw [List.drop_eq_getElem_cons hk] at h
  rw [List.getElem?_eq_getElem hk] at hx
  cases hx
  unfold logE at h
  split at h
  · rename_i ht; exact .inl ⟨ht, h⟩
  · rename_i ht
    right
    refine ⟨by simpa using ht, ?_⟩
    cases hp : parseR l[i].d with
    | none => rw [hp] at h; simp at h
    | some a =>
      cases hl : logE (l.drop (i + 1)) with
      | none => rw [hp, hl] at h; simp at h
      | some b =>
        rw [hp, hl] at h
        exact ⟨a, b, rfl, rfl, (Option.some.inj h).symm⟩
set_option maxRecDepth 20000 in
set_option maxHeartbeats 8000000 in
theorem open_any (B : Nat) (p : Nat) (c : Chip) (s : SM) (w : World) (hc : ChipR B w p c) (hi : Inv c s) :
    Calls Try.prog 102 #[.pointer (some ⟨p, 0, none⟩)] w fun e w' => ∃ q F, e = .returned (.tuple #[.pointer (some ⟨q, 0, none⟩), .nilIface]) ∧ StoreR B w' q p s F ∧ Below w.heap.size w w' ∧ w.heap.size ≤ q ∧ ∀ b ∈ F, w.heap.size ≤ b := by
  have fin : ∀ (wr : World) (tmps : Array Value) (q : Nat) (F : List Nat), StoreR B wr q p s F → Below w.heap.size w wr → w.heap.size ≤ q → (∀ b ∈ F, w.heap.size ≤ b) → tmps[2]? = some (.pointer (some ⟨q, 0, none⟩)) → tmps[3]? = some .nilIface →
      bodyPost Try.prog Try.f102 (fun e w' => ∃ q F, e = .returned (.tuple #[.pointer (some ⟨q, 0, none⟩), .nilIface]) ∧ StoreR B w' q p s F ∧ Below w.heap.size w w' ∧ w.heap.size ≤ q ∧ ∀ b ∈ F, w.heap.size ≤ b) .ret { tmps := tmps, defers := [] } wr := by
    intro wr tmps q F h1 h2 h3 h4 t2 t3
    exact bodyPost_ret (v := .tuple #[.pointer (some ⟨q, 0, none⟩), .nilIface]) (by simp [results, Try.results102, go_sem, t2, t3]) rfl ⟨q, F, rfl, h1, h2, h3, h4⟩
  have FIN := Lib.hid fin
  clear fin
  have hpw := hc.lt
  have hBp : B ≤ p := by obtain ⟨V, u, hv, _⟩ := hc; exact hv.base
  have hn5 := hi.body.nwl
  have ho3 := hi.body.odl
  have hml := Fallen.mem_len hi
  have hrng := hi.body.rng
  have HUP := Lib.hid hi.up
  have HTB := Lib.hid hi.body.tabs
  have HWF := Lib.hid hi.wf
  have HCR := Lib.hid hc
  obtain ⟨es, hlog⟩ := hi.body.log
  have hlr := hrng s.m.log (by simp [Man.all])
  have hlog8 := hi.wf.len s.m.log.toNat (by omega)
  have hesl := hlog.few
  have HLG := Lib.hid hlog
  have HRN : Hid (∀ b ∈ s.m.nw ++ s.m.od, 2 ≤ b ∧ b < 24) := fun b hb => hrng b (by simp only [Man.all, List.mem_cons]; exact .inr hb)
  have hbl : (s.m.nw ++ s.m.od).length ≤ 8 := by rw [List.length_append]; omega
  obtain ⟨bs, hbs⟩ : ∃ bs, bs = s.m.nw ++ s.m.od := ⟨_, rfl⟩
  rw [← hbs] at HTB HRN hbl
  have HBS := Lib.hid hbs
  have hfd := find_any B p c w hc
  rw [findR_ok hi, show errV ((s.m, s.at_, 0) : Man × Int × Nat).2.2 = Value.nilIface from rfl] at hfd
  have HFD := Lib.hid hfd
  clear hrng hi hc hlog hbs hfd
  go_enter Try.func102, Try.ntmps102
  go_wp2_with fail
  refine HFD.out.mono ?_
  rintro e w1 ⟨v1, rfl, ⟨vn, vo, rfl, hn, ho⟩, hb1⟩
  simp only at hn ho ⊢
  obtain ⟨A1, c1, rfl, _, _, _⟩ := hn.form
  obtain ⟨A2, c2, rfl, _, _, _⟩ := ho.form
  have hs1 := hb1.size
  have hbA : Below w1.heap.size w1 (w1.alloc (.cells #[.int .i64 s.m.ep, .int .i64 s.m.log, .slice A1 s.m.nw.length c1, .slice A2 s.m.od.length c2] 91)).drew := ((Below.refl _ _).alloc (Nat.le_refl _) _).drew
  have HB2 : Hid (Below w.heap.size w (w1.alloc (.cells #[.int .i64 s.m.ep, .int .i64 s.m.log, .slice A1 s.m.nw.length c1, .slice A2 s.m.od.length c2] 91)).drew) := hb1.trans (hbA.mono hs1)
  have HM2 : Hid (Blk (w1.alloc (.cells #[.int .i64 s.m.ep, .int .i64 s.m.log, .slice A1 s.m.nw.length c1, .slice A2 s.m.od.length c2] 91)).drew w1.heap.size 91 #[.int .i64 s.m.ep, .int .i64 s.m.log, .slice A1 s.m.nw.length c1, .slice A2 s.m.od.length c2]) := (Blk.new w1 _ _).drewN 1
  have HN2 := Lib.hid (hn.below hbA)
  have HO2 := Lib.hid (ho.below hbA)
  have hsz2 : (w1.alloc (.cells #[.int .i64 s.m.ep, .int .i64 s.m.log, .slice A1 s.m.nw.length c1, .slice A2 s.m.od.length c2] 91)).drew.heap.size = w1.heap.size + 1 := by simp
  have HNEW := Lib.hid (tnew_any B (w1.alloc (.cells #[.int .i64 s.m.ep, .int .i64 s.m.log, .slice A1 s.m.nw.length c1, .slice A2 s.m.od.length c2] 91)).drew (by rw [hsz2]; omega))
  have HZ : Hid (∀ {w'}, Below (w1.heap.size + 1) (w1.alloc (.cells #[.int .i64 s.m.ep, .int .i64 s.m.log, .slice A1 s.m.nw.length c1, .slice A2 s.m.od.length c2] 91)).drew w' → w'.cell? ⟨w1.heap.size, 0, none⟩ = some (.int .i64 s.m.ep) ∧ w'.cell? ⟨w1.heap.size, 1, none⟩ = some (.int .i64 s.m.log) ∧ w'.cell? ⟨w1.heap.size, 2, none⟩ = some (.slice A1 s.m.nw.length c1) ∧ w'.cell? ⟨w1.heap.size, 3, none⟩ = some (.slice A2 s.m.od.length c2)) := by
    intro w' hb
    have a := HM2.out.below hb (by omega)
    have a0 := a.cell 0
    have a1 := a.cell 1
    have a2 := a.cell 2
    have a3 := a.cell 3
    simp at a0 a1 a2 a3
    exact ⟨a0, a1, a2, a3⟩
  rw [hsz2] at HNEW
  clear hn ho hb1 hbA HFD
  go_wp2_with fail
  go_region_held3 (fun w' => w'.cell? ⟨w1.heap.size, 0, none⟩ = some (.int .i64 s.m.ep) ∧ w'.cell? ⟨w1.heap.size, 1, none⟩ = some (.int .i64 s.m.log) ∧ w'.cell? ⟨w1.heap.size, 2, none⟩ = some (.slice A1 s.m.nw.length c1) ∧ w'.cell? ⟨w1.heap.size, 3, none⟩ = some (.slice A2 s.m.od.length c2))
    ((first | exact HZ.out (Below.refl _ _) | exact HZ.out hb3 | exact HZ.out hb4))
    ((first | (go_at_call 26; refine HNEW.out.mono ?_; rintro d w3 ⟨⟨rfl, hT3⟩, hb3⟩; have hb4 := hb3.alloc (Nat.le_of_lt (by have := hT3.lt _ List.mem_cons_self; omega)) (.cells #[.pointer (some ⟨p, 0, none⟩), .int .i64 s.m.ep, .int .i64 s.m.log, .slice A1 s.m.nw.length c1, .slice A2 s.m.od.length c2, .int .i64 s.at_, .pointer (some ⟨w1.heap.size + 1, 0, none⟩), .int .i64 0] 160))))
  have hs3 : w1.heap.size + 1 < w3.heap.size := hT3.lt _ List.mem_cons_self
  have hW : Below w3.heap.size w3 (w3.alloc (.cells #[.pointer (some ⟨p, 0, none⟩), .int .i64 s.m.ep, .int .i64 s.m.log, .slice A1 s.m.nw.length c1, .slice A2 s.m.od.length c2, .int .i64 s.at_, .pointer (some ⟨w1.heap.size + 1, 0, none⟩), .int .i64 0] 160)) := (Below.refl _ _).alloc (Nat.le_refl _) _
  have HS4 : Hid (StoreR B (w3.alloc (.cells #[.pointer (some ⟨p, 0, none⟩), .int .i64 s.m.ep, .int .i64 s.m.log, .slice A1 s.m.nw.length c1, .slice A2 s.m.od.length c2, .int .i64 s.at_, .pointer (some ⟨w1.heap.size + 1, 0, none⟩), .int .i64 0] 160)) w3.heap.size p ⟨s.m, s.at_, [], s.tabs⟩ [w1.heap.size + 1]) := by
    have h3 : Below (w1.heap.size + 1) (w1.alloc (.cells #[.int .i64 s.m.ep, .int .i64 s.m.log, .slice A1 s.m.nw.length c1, .slice A2 s.m.od.length c2] 91)).drew (w3.alloc (.cells #[.pointer (some ⟨p, 0, none⟩), .int .i64 s.m.ep, .int .i64 s.m.log, .slice A1 s.m.nw.length c1, .slice A2 s.m.od.length c2, .int .i64 s.at_, .pointer (some ⟨w1.heap.size + 1, 0, none⟩), .int .i64 0] 160)) := hb4
    have e : (w1.alloc (.cells #[.int .i64 s.m.ep, .int .i64 s.m.log, .slice A1 s.m.nw.length c1, .slice A2 s.m.od.length c2] 91)).drew.heap.size = w1.heap.size + 1 := by simp
    exact ⟨A1, c1, A2, c2, w1.heap.size + 1, 0, Blk.new w3 _ _, HN2.out.below (by rw [e]; exact h3), HO2.out.below (by rw [e]; exact h3), hT3.below hW, by omega, by simp; omega⟩
  have HB4 : Hid (Below w.heap.size w (w3.alloc (.cells #[.pointer (some ⟨p, 0, none⟩), .int .i64 s.m.ep, .int .i64 s.m.log, .slice A1 s.m.nw.length c1, .slice A2 s.m.od.length c2, .int .i64 s.at_, .pointer (some ⟨w1.heap.size + 1, 0, none⟩), .int .i64 0] 160))) := HB2.out.trans (hb4.mono (by omega))
  have HM4 : Hid (Blk (w3.alloc (.cells #[.pointer (some ⟨p, 0, none⟩), .int .i64 s.m.ep, .int .i64 s.m.log, .slice A1 s.m.nw.length c1, .slice A2 s.m.od.length c2, .int .i64 s.at_, .pointer (some ⟨w1.heap.size + 1, 0, none⟩), .int .i64 0] 160)) w1.heap.size 91 #[.int .i64 s.m.ep, .int .i64 s.m.log, .slice A1 s.m.nw.length c1, .slice A2 s.m.od.length c2]) := HM2.out.below hb4 (by omega)
  have HI4 : Hid (Ints B (w3.alloc (.cells #[.pointer (some ⟨p, 0, none⟩), .int .i64 s.m.ep, .int .i64 s.m.log, .slice A1 s.m.nw.length c1, .slice A2 s.m.od.length c2, .int .i64 s.at_, .pointer (some ⟨w1.heap.size + 1, 0, none⟩), .int .i64 0] 160)) (.slice A1 s.m.nw.length c1) s.m.nw ∧ Ints B (w3.alloc (.cells #[.pointer (some ⟨p, 0, none⟩), .int .i64 s.m.ep, .int .i64 s.m.log, .slice A1 s.m.nw.length c1, .slice A2 s.m.od.length c2, .int .i64 s.at_, .pointer (some ⟨w1.heap.size + 1, 0, none⟩), .int .i64 0] 160)) (.slice A2 s.m.od.length c2) s.m.od) := by
    have e : (w1.alloc (.cells #[.int .i64 s.m.ep, .int .i64 s.m.log, .slice A1 s.m.nw.length c1, .slice A2 s.m.od.length c2] 91)).drew.heap.size = w1.heap.size + 1 := by simp
    exact ⟨HN2.out.below (by rw [e]; exact hb4), HO2.out.below (by rw [e]; exact hb4)⟩
  have hq4 : w3.heap.size < (w3.alloc (.cells #[.pointer (some ⟨p, 0, none⟩), .int .i64 s.m.ep, .int .i64 s.m.log, .slice A1 s.m.nw.length c1, .slice A2 s.m.od.length c2, .int .i64 s.at_, .pointer (some ⟨w1.heap.size + 1, 0, none⟩), .int .i64 0] 160)).heap.size := by simp
  have hqw : w.heap.size ≤ w3.heap.size := by omega
  have hgw : w1.heap.size < w3.heap.size := by omega
  have htw : w.heap.size ≤ w1.heap.size + 1 := by omega
  generalize w3.alloc (.cells #[.pointer (some ⟨p, 0, none⟩), .int .i64 s.m.ep, .int .i64 s.m.log, .slice A1 s.m.nw.length c1, .slice A2 s.m.od.length c2, .int .i64 s.at_, .pointer (some ⟨w1.heap.size + 1, 0, none⟩), .int .i64 0] 160) = W4 at *
  generalize w3.heap.size = q at *
  clear hb3 hb4 hT3 hW HZ HNEW HB2 HM2 HN2 HO2
  have z1 := HM4.out.cell 1
  have z2 := HM4.out.cell 2
  have z3 := HM4.out.cell 3
  simp at z1 z2 z3
  have hCC : Calls Try.prog 98 #[.slice (some ⟨W4.heap.size, 0, none⟩) 2 2] (W4.alloc (.cells #[.slice A1 s.m.nw.length c1, .slice A2 s.m.od.length c2] 41)) fun e w5 => ∃ v5, e = .returned v5 ∧ Ints B w5 v5 bs ∧ Below W4.heap.size W4 w5 := by
    have hb : Below W4.heap.size W4 (W4.alloc (.cells #[.slice A1 s.m.nw.length c1, .slice A2 s.m.od.length c2] 41)) := (Below.refl _ _).alloc (Nat.le_refl _) _
    refine (concat_rd B _ _ _ s.m.nw s.m.od _ (Blk.new W4 41 #[.slice A1 s.m.nw.length c1, .slice A2 s.m.od.length c2]) (HI4.out.1.below hb) (HI4.out.2.below hb) (by omega) (by omega)).mono ?_
    rintro e w5 ⟨v5, h1, h2, h3⟩
    rw [HBS.out]
    exact ⟨v5, h1, h2, hb.trans (h3.mono (by simp))⟩
  have HCC := Lib.hid hCC
  clear hCC HI4
  go_wp2_with fail
  refine HCC.out.mono ?_
  rintro e w5 ⟨v5, rfl, hi5, hb5⟩
  obtain ⟨A5, c5, rfl, _, _, _⟩ := hi5.form
  have HS5 := Lib.hid (HS4.out.below hb5)
  have HM5 := Lib.hid (HM4.out.below hb5 HM4.out.lt)
  have HB5 := Lib.hid (HB4.out.trans (hb5.mono HB4.out.size))
  have HI5 := Lib.hid hi5
  clear hi5 hb5 HS4 HM4 HB4 HCC z1 z2 z3 hq4
  go_wp2_with fail
  go_loopw [38] (fun i wr => ∃ k : Nat, k ≤ bs.length ∧ i = .int .i64 (k : Int) ∧ Hid (StoreR B wr q p ⟨s.m, s.at_, [], s.tabs⟩ [w1.heap.size + 1]) ∧ Hid (Blk wr w1.heap.size 91 #[.int .i64 s.m.ep, .int .i64 s.m.log, .slice A1 s.m.nw.length c1, .slice A2 s.m.od.length c2]) ∧ Hid (Ints B wr (.slice A5 bs.length c5) bs) ∧ Below w.heap.size w wr) (fun i _ => bs.length - (intOf i).toNat)
  case atStart => exact ⟨0, Nat.zero_le _, rfl, HS5.out, HM5.out, HI5.out, HB5.out⟩
  case round =>
    obtain ⟨k, hk, rfl, hs, hm, hi, hbl5⟩ := hrel
    clear HS5 HM5 HI5 HB5
    by_cases hlt : k < bs.length
    · obtain ⟨b, hb, _, _⟩ := getElem?_of_lt hlt
      obtain ⟨l, hl, htab⟩ := tabsAt_at HTB.out k b hb
      have hbr := HRN.out b (List.mem_of_getElem? hb)
      obtain ⟨bn, rfl⟩ := Int.eq_ofNat_of_zero_le (show 0 ≤ b by omega)
      rw [Int.toNat_natCast] at htab
      obtain ⟨A4, c4, e4, _, _, hcell⟩ := hi.out.form
      obtain ⟨bb, oo, rfl, hbb, y1⟩ := hcell k _ hb
      cases e4
      have HT := Lib.hid (taball_any B p bn c l wr (HCR.out.below hbl5) (by omega) HUP.out htab)
      have HBL := Lib.hid hbl5
      have g1 : (0 : Int) ≤ (k : Int) := by omega
      have g2 : (k : Int) < (bs.length : Int) := by omega
      clear hb hl htab hcell hbr hbl5
      go_wp2_with fail
      refine HT.out.mono ?_
      rintro e6 w6 ⟨v6, rfl, hv6, hb6⟩
      have HS6 := Lib.hid (hs.out.below hb6)
      have HM6 := Lib.hid (hm.out.below hb6 hm.out.lt)
      have HI6 := Lib.hid (hi.out.below hb6)
      have HB6 := Lib.hid (HBL.out.trans (hb6.mono HBL.out.size))
      clear hv6 hb6 HT
      go_wp2_with fail
      go_roundw
      case rel => exact ⟨k + 1, by omega, by go_num, HS6, HM6, HI6, HB6.out⟩
      case measure => simp [intOf] <;> omega
    · have g2 : decide ((k : Int) < (bs.length : Int)) = false := decide_eq_false (by omega)
      have hnx := next_any B p c s.m.log wr (HCR.out.below hbl5) (by omega) (by omega)
      have HRD : Hid (∀ (i : Nat) (x : Sheet), i < 8 → (c.b s.m.log.toNat).l[i]? = some x → c.read s.m.log i = if x.t then (ByteArray.empty, 4) else (x.d, 0)) := fun i x h1 h2 => by
        have := log_read HUP.out (b := s.m.log.toNat) (by omega) h1 h2
        rw [Int.toNat_of_nonneg (by omega)] at this
        exact this
      have HSZ : Hid (∀ x ∈ (c.b s.m.log.toNat).l, x.t = false → x.d.size = 64) := HWF.out.size s.m.log.toNat (by omega)
      have HL0 : Hid (logE (c.b s.m.log.toNat).l = some es) := HLG.out.read
      have HLM : Hid (s.mem = es.foldl putE []) := HLG.out.mem
      generalize (c.b s.m.log.toNat).l = sh at *
      have HNX := Lib.hid hnx
      have z1 := hm.out.cell 1
      simp at z1
      have HBL := Lib.hid hbl5
      clear hnx hbl5 hi
      go_wp2_with fail
      refine HNX.out.mono ?_
      rintro e6 w6 ⟨rfl, rfl⟩
      go_wp2_with fail
      obtain ⟨wo, rfl⟩ : ∃ wo : World, wo = wr := ⟨_, rfl⟩
      go_loopw [56] (fun i wr => ∃ (k : Nat) (F' : List Nat) (es1 es2 : List Ent), k ≤ sh.length ∧ i = .int .i64 (k : Int) ∧ Hid (StoreR B wr q p ⟨s.m, s.at_, es1.foldl putE [], s.tabs⟩ F') ∧ Hid (es = es1 ++ es2 ∧ logE (sh.drop k) = some es2) ∧ Hid (∀ b ∈ F', w.heap.size ≤ b) ∧ Hid (Blk wr w1.heap.size 91 #[.int .i64 s.m.ep, .int .i64 s.m.log, .slice A1 s.m.nw.length c1, .slice A2 s.m.od.length c2]) ∧ Below w.heap.size w wr) (fun i _ => sh.length - (intOf i).toNat)
      case atStart => exact ⟨0, _, [], es, Nat.zero_le _, rfl, hs.out, ⟨rfl, HL0.out⟩, by intro b hb; simp at hb; omega, hm.out, HBL.out⟩
      case round =>
        obtain ⟨k, F', es1, es2, hk8, rfl, hs2, he, hF, hm2, hbl6⟩ := hrel
        clear hs hm HBL hlt
        by_cases hlt : k < sh.length
        · obtain ⟨x, hx, _, _⟩ := getElem?_of_lt hlt
          have hrd := HRD.out k x (by omega) hx
          have hcr := cread_any B p c s.m.log (k : Int) wr (HCR.out.below hbl6)
          have z1 := hm2.out.cell 1
          simp at z1
          have g2 : decide ((k : Int) < (sh.length : Int)) = true := decide_eq_true (by omega)
          have HB6 := Lib.hid hbl6
          rcases logE_drop hx he.out.2 with ⟨ht, hd⟩ | ⟨ht, a, b, hp, hd, hab⟩
          · rw [hrd, if_pos ht, show errV ((ByteArray.empty, 4) : ByteArray × Nat).2 = .iface 137 (.int .i64 4) from rfl] at hcr
            have HR := Lib.hid hcr
            have HE : Hid (es = es1 ++ es2 ∧ logE (sh.drop (k + 1)) = some es2) := ⟨he.out.1, hd⟩
            clear hx hrd hcr ht hd hbl6
            go_wp2_with fail
            refine HR.out.mono ?_
            rintro e7 w7 ⟨rfl, rfl⟩
            go_wp2_with fail
            go_roundw
            case rel => exact ⟨k + 1, F', es1, es2, by omega, by go_num, hs2, HE, hF, hm2, HB6.out⟩
            case measure => simp [intOf] <;> omega
          · have hxs := HSZ.out x (List.mem_of_getElem? hx) ht
            rw [hrd, if_neg (by rw [ht]; simp), show errV ((x.d, 0) : ByteArray × Nat).2 = .nilIface from rfl] at hcr
            have hpa := parse_any B x.d wr (by omega)
            have hpe : perr x.d = 0 := by unfold perr; rw [hp]; rfl
            rw [hpe, hp, show errV 0 = Value.nilIface from rfl] at hpa
            have HR := Lib.hid hcr
            have HP := Lib.hid hpa
            have hlen : es1.length + a.length ≤ 32 := by
              have := congrArg List.length he.out.1
              rw [hab] at this
              simp at this
              omega
            have HE : Hid (es = (es1 ++ a) ++ b ∧ logE (sh.drop (k + 1)) = some b) := ⟨by rw [he.out.1, hab, List.append_assoc], hd⟩
            have hs6 := hbl6.size
            clear hx hrd hcr ht hd hbl6 hpa hpe hp hab
            go_wp2_with fail
            refine HR.out.mono ?_
            rintro e7 w7 ⟨rfl, rfl⟩
            go_wp2_with fail
            refine HP.out.mono ?_
            rintro e7 w7 ⟨v7, rfl, hv7, hb7⟩
            simp only [Option.getD_some] at hv7
            have HS7 := Lib.hid (hs2.out.below hb7)
            have HM7 := Lib.hid (hm2.out.below hb7 hm2.out.lt)
            have HB7 := Lib.hid (HB6.out.trans (hb7.mono HB6.out.size))
            have hs7 := HB7.out.size
            have HTK := Lib.hid (take_any B q p ⟨s.m, s.at_, es1.foldl putE [], s.tabs⟩ F' v7 a w7 HS7.out hv7 (by have := puts_len es1 []; simp at this; simp only; omega) (by omega))
            clear hv7 hb7 HP HR z1
            go_wp2_with fail
            refine HTK.out.mono ?_
            rintro e8 w8 ⟨F2, rfl, hs8, hf8, hn8⟩
            have HS8 : Hid (StoreR B w8 q p ⟨s.m, s.at_, (es1 ++ a).foldl putE [], s.tabs⟩ F2) := by rw [Hid, List.foldl_append]; exact hs8
            have HM8 := Lib.hid (HM7.out.fr hf8 (.inr (.inr (by decide))))
            have HB8 : Hid (Below w.heap.size w w8) := HB7.out.trans (hf8.off (fun b hb => by
              rcases List.mem_cons.1 hb with rfl | hb
              · exact hqw
              · exact hF.out b hb) hs7)
            have HF8 : Hid (∀ b ∈ F2, w.heap.size ≤ b) := fun b hb => (hn8 b hb).elim (hF.out b) (fun h => by omega)
            clear hs8 hf8 hn8 HTK
            go_wp2_with fail
            go_roundw
            case rel => exact ⟨k + 1, F2, es1 ++ a, b, by omega, by go_num, HS8, HE, HF8, HM8, HB8.out⟩
            case measure => simp [intOf] <;> omega
        · have g2 : decide ((k : Int) < (sh.length : Int)) = false := decide_eq_false (by omega)
          have HSF : Hid (StoreR B wr q p s F') := by
            have h1 := he.out.1
            have h2 := he.out.2
            rw [List.drop_eq_nil_of_le (by omega)] at h2
            have h2 := (Option.some.inj h2).symm
            subst h2
            rw [List.append_nil] at h1
            have h3 := hs2.out
            rw [← h1, ← HLM.out] at h3
            exact h3
          clear hm2
          go_wp2_with fail
          exact FIN.out _ _ q F' HSF.out hbl6 hqw hF.out rfl rfl
end Go.Proofs.Ytaepdbkfaoiimaa
/- A drawn region within a round of a range over a function, by way of the plain walk. Conditions: no operation defers; the post lets nothing out. -/
set_option linter.unusedVariables false
namespace Go.Proofs.Ytaepdbkfaoiimaa
open Go.RowKit
section
variable {P : Program} {ops : Array Oper} {Q : Exit → Act → World → Prop} {md : Region.Mode} {l n : Nat}
theorem upon_in {o : Oper} {a : Act} {next : Act → World → Prop} {r : Result Next} (h : o.upon P a next Q r) : o.uponIn (Fence.wide.inRound l) n P a next Q r := by
  cases r with
  | ok x w' =>
    cases x with
    | enter f args => exact ⟨fun hh => absurd hh (by simp [Fence.wide]), ((callsIn_wide.2 h).inRound l).mono (fun e w'' he => by cases e <;> exact he)⟩
    | row row args => exact ⟨fun hh => absurd hh (by simp [Fence.wide]), fun c cs _ => by obtain ⟨v, w'', h1, h2⟩ := h c cs; exact ⟨v, w'', h1, stepsIn_wide.2 h2⟩⟩
    | round => exact h.elim
    | _ => exact h
  | halt x w' => cases x <;> exact h
theorem oper_in {o : Oper} {a : Act} {w : World} {next : Act → World → Prop} (hd : ∀ c, o.op ≠ .defer c) (h : o.wp P a w next Q) : o.wpIn (Fence.wide.inRound l) n P a w next Q := by
  refine ⟨fun f _ => trivial, ?_⟩
  have e : o.semAt (Fence.wide.inRound l).round a.eval = execOp a.eval o := Oper.semAt_some l a.eval o hd
  rw [e]
  exact upon_in h
theorem wpAny_in (hd : ∀ (i : Nat) (o : Oper), ops[i]? = some o → ∀ c, o.op ≠ .defer c) (hL : ¬ LetsOut Q) : ∀ (fuel : Nat) (listed : Array Bool) (a : Act) (w : World), wpAny P md ops Q fuel listed a w → wpAnyIn (Fence.wide.inRound l) n P md ops Q fuel listed a w
  | 0, _, _, _, h => h
  | fuel + 1, listed, a, w, h => by
    refine ⟨h.1, fun i hi => ?_⟩
    have h2 := h.2 i hi
    unfold wpOp at h2
    unfold wpOpIn
    cases ho : ops[i]? with
    | none => rw [ho] at h2; exact wpAny_in hd hL fuel _ _ _ h2
    | some o =>
      rw [ho] at h2
      simp only at h2 ⊢
      split
      · rename_i hw
        rw [if_pos hw] at h2
        rcases h2 with h2 | ⟨_, h2⟩
        · exact Oper.wpIn_mono (fun a w h => wpAny_in hd hL fuel _ _ _ h) (oper_in (hd i o ho) h2)
        · exact absurd h2 hL
      · rename_i hw
        rw [if_neg hw] at h2
        exact ⟨fun f _ => trivial, wpAny_in hd hL fuel _ _ _ h2⟩
def noDefer (ops : Array Oper) : Bool := ops.all (fun o => match o.op with | .defer _ => false | _ => true)
theorem noDefer_at (h : noDefer ops = true) : ∀ (i : Nat) (o : Oper), ops[i]? = some o → ∀ c, o.op ≠ .defer c := by
  intro i o ho c hc
  unfold noDefer at h
  rw [Array.all_eq_true] at h
  obtain ⟨hi, e⟩ := Array.getElem?_eq_some_iff.1 ho
  have := h i hi
  rw [e, hc] at this
  cases this
/-- The region, its loads taken first where S holds. -/
theorem region_in {id : Nat} {a : Act} {w : World} {S : World → Prop} (hm : P.follows .mixedOrders = true) (hd : noDefer ops = true) (hL : ¬ LetsOut Q) (hS : S w.drew)
    (h : S w.drew → wpAnyH P .any ops Q S ops.size (Array.replicate ops.size false) a w.drew) : (Code.region id ops true).wpIn (Fence.wide.inRound l) n P Q a w :=
  wpIn_region_any hm (wpAny_in (noDefer_at hd) hL _ _ _ _ (wpAny_of_held _ _ _ _ (h hS)))
end
end Go.Proofs.Ytaepdbkfaoiimaa
