/- The arguments of a law, opened: each reads as a list of what its cells hold. Conditions: none. -/
import Derived.Test.YtaepdbkfaoiimabGreatDoorClose
import Derived.Test.YtaepdbkfaoiimabGreatDoorGa
import Derived.SliceStrings
import Derived.OpenShut
import Derived.Deep.Slices
import Derived.Lib.SmallJoins
set_option linter.unusedVariables false
namespace Go.Proofs.YtaepdbkfaoiimabGreatDoor
open Go.ChangeShapes Go.WideShapes Go.ChangeAt Go.RowKit Go.WideMaps Go.WideElems
open Go.ChangeMaps (open_string shut_string)

set_option maxRecDepth 100000 in
theorem strs_of {H : Type} {enc : TypeId × Value → H} {W : World} {base : Nat} {v : Value} {d : DataW H} {p : List MemPlace}
    (hval : Value.okWide Tryz.prog W .any base 22 v) (h : DataW.Trod enc Tryz.prog W 0 (fun _ => true) true 22 v d p) : ∃ l, Strs W.heap.size W v l := by
  obtain ⟨a0, len, cap, rfl⟩ := okWide_slice Tryz.underlying22 hval
  obtain ⟨fuel, hf⟩ := h
  rcases open_strings Tryz.underlying22 Tryz.underlying9 (by kernel_rfl) hf with ⟨hcs, hx⟩ | ⟨a, len', cap', ss, hcs, _, hl, hm, hz, hx, hcell, hws⟩
  · simp [Value.cells] at hcs
    obtain ⟨rfl, rfl, rfl⟩ := hcs
    exact ⟨[], Rd.nil _ _ _ _, by simp⟩
  · simp [Value.cells] at hcs
    obtain ⟨rfl, rfl, rfl⟩ := hcs
    simp at hz
    have e : (ss.take len).length = len := by simp; omega
    refine ⟨ss.take len, ⟨by simp, some a, cap, by rw [e], by omega, by unfold maxLen at hm; omega, fun hn => ?_⟩, fun s hs => by have := hws s (List.mem_of_mem_take hs); unfold maxLen at this; omega⟩
    rw [e] at hn
    obtain ⟨b, o, spot⟩ := a
    have h0 := hcell 0 (by omega)
    have hspot : spot = none := by simpa [Addr.add] using World.cell?_spot h0
    subst hspot
    refine ⟨b, o, rfl, .inl ?_, ?_, fun j u hu => ?_⟩
    · have := cell_lt h0; simpa [Addr.add] using this
    · have := cell_lt h0; simpa [Addr.add] using this
    · rw [List.getElem?_map, List.getElem?_take] at hu
      by_cases hj : j < len
      · rw [if_pos hj] at hu
        have hj2 : j < ss.length := by omega
        rw [List.getElem?_eq_getElem hj2] at hu
        simp at hu
        have := hcell j hj2
        rw [List.getD_eq_getElem?_getD, List.getElem?_eq_getElem hj2, Option.getD_some] at this
        rw [← hu, ← this]
        unfold Addr.add
        by_cases hj0 : j = 0
        · subst hj0; simp
        · simp [hj0]
      · rw [if_neg hj] at hu; simp at hu

/-! ### slices of whatever elements -/
theorem list_of {α : Type} {P : Nat → α → Prop} : ∀ n : Nat, (∀ i, i < n → ∃ a, P i a) → ∃ l : List α, l.length = n ∧ ∀ i a, l[i]? = some a → P i a
  | 0, _ => ⟨[], rfl, fun i a h => by simp at h⟩
  | n + 1, h => by
    obtain ⟨l, h1, h2⟩ := list_of n fun i hi => h i (by omega)
    obtain ⟨a, ha⟩ := h n (by omega)
    refine ⟨l ++ [a], by simp [h1], fun i b hb => ?_⟩
    rw [List.getElem?_append] at hb
    split at hb
    · exact h2 i b hb
    · rename_i hge
      have : i = n := by
        rcases Nat.lt_or_ge (i - l.length) 1 with h | h
        · omega
        · rw [List.getElem?_eq_none (by simpa using h)] at hb; cases hb
      subst this
      rw [h1, Nat.sub_self] at hb
      simp at hb
      subst hb
      exact ha
theorem flat_get {α : Type} (c : α → List Value) (sz : Nat) (hc : ∀ a, (c a).length = sz) : ∀ (l : List α) (i j : Nat) (a : α), l[i]? = some a → j < sz → (l.flatMap c)[i * sz + j]? = (c a)[j]?
  | [], i, j, a, h, _ => by simp at h
  | x :: l, 0, j, a, h, hj => by
    simp at h; subst h
    rw [Nat.zero_mul, Nat.zero_add, List.flatMap_cons, List.getElem?_append_left (by rw [hc]; exact hj)]
  | x :: l, i + 1, j, a, h, hj => by
    simp only [List.getElem?_cons_succ] at h
    have ih := flat_get c sz hc l i j a h hj
    rw [List.flatMap_cons, List.getElem?_append_right (by rw [hc, Nat.succ_mul]; omega), hc, ← ih]
    congr 1
    rw [Nat.succ_mul]; omega
theorem flat_len {α : Type} (c : α → List Value) (sz : Nat) (hc : ∀ a, (c a).length = sz) : ∀ l : List α, (l.flatMap c).length = l.length * sz
  | [] => by simp
  | x :: l => by rw [List.flatMap_cons, List.length_append, hc, flat_len c sz hc l, List.length_cons, Nat.succ_mul]; omega

theorem flat_one {α : Type} (f : α → Value) : ∀ l : List α, l.flatMap (fun z => [f z]) = l.map f
  | [] => rfl
  | a :: l => by rw [List.flatMap_cons, flat_one f l]; rfl

theorem slice_trod {H : Type} {enc : TypeId × Value → H} {W : World} {T e sz fuel : Nat} {v : Value} {x : DataW H × List MemPlace} (ht : Tryz.prog.underlying T = some (.slice e)) (hsz : Tryz.prog.cellsOf e = sz) (hpos : 0 < sz)
    {α : Type} (c : α → List Value) (hc : ∀ a, (c a).length = sz) (Ok : α → Prop)
    (hel : ∀ n cs y, DataW.trod enc Tryz.prog W 0 (fun _ => true) true n e cs = some y → ∃ a, cs = c a ∧ Ok a)
    (h : DataW.trod enc Tryz.prog W 0 (fun _ => true) true fuel T [v] = some x) : ∃ l : List α, Rd W.heap.size e sz W v l.length (l.flatMap c) ∧ ∀ a ∈ l, Ok a := by
  rcases Go.Deep.open_slice ht h with ⟨hcs, _⟩ | ⟨a, len, cap, m, n, D, Pl, hcs, hb, hl, hm, hmm, hx, hi⟩
  · simp at hcs
    subst hcs
    exact ⟨[], Rd.nil _ _ _ _, by simp⟩
  · simp at hcs hmm
    subst hcs
    have hall : ∀ i, i < len → ∃ z : α, Ok z ∧ ∀ j, j < sz → W.cell? ((a.add (i * sz)).add j) = (c z)[j]? := by
      intro i hilt
      obtain ⟨cs', h1, h2⟩ := hi i (by omega)
      obtain ⟨z, rfl, hz⟩ := hel _ _ _ h2
      rw [hsz] at h1
      obtain ⟨_, _, h3⟩ := World.cells?_some h1
      exact ⟨z, hz, h3⟩
    obtain ⟨l, hll, hlp⟩ := list_of len hall
    refine ⟨l, ⟨flat_len c sz hc l, some a, cap, by rw [hll], by omega, by unfold maxLen at hm; omega, fun hn => ?_⟩, fun z hz => ?_⟩
    · obtain ⟨b, o, spot⟩ := a
      have h0 := (hlp 0 _ (List.getElem?_eq_getElem hn)).2 0 hpos
      have hv0 : ∃ u, (c l[0])[0]? = some u := ⟨_, List.getElem?_eq_getElem (by rw [hc]; exact hpos)⟩
      obtain ⟨u0, hu0⟩ := hv0
      rw [hu0] at h0
      have hspot : spot = none := by simpa [Addr.add] using World.cell?_spot h0
      subst hspot
      have hlt := cell_lt h0
      rw [addr_add, addr_add] at hlt
      refine ⟨b, o, rfl, .inl hlt, hlt, fun j u hu => ?_⟩
      have hj : j < l.length * sz := by
        rw [← flat_len c sz hc l]
        rcases Nat.lt_or_ge j (l.flatMap c).length with h | h
        · exact h
        · rw [List.getElem?_eq_none h] at hu; cases hu
      have hq : j / sz < l.length := Nat.div_lt_of_lt_mul (by rw [Nat.mul_comm]; exact hj)
      have hr : j % sz < sz := Nat.mod_lt _ hpos
      have hdm : j / sz * sz + j % sz = j := by rw [Nat.mul_comm]; exact Nat.div_add_mod j sz
      have hq2 : l[j / sz]? = some l[j / sz] := List.getElem?_eq_getElem hq
      have h1 := flat_get c sz hc l (j / sz) (j % sz) _ hq2 hr
      have h2 := (hlp _ _ hq2).2 (j % sz) hr
      rw [hdm] at h1
      rw [← h1, hu, addr_add, addr_add, Nat.add_assoc, hdm] at h2
      exact h2
    · obtain ⟨i, hi⟩ := List.getElem?_of_mem hz
      exact (hlp i z hi).1

set_option maxRecDepth 100000 in
theorem ints_of {H : Type} {enc : TypeId × Value → H} {W : World} {base : Nat} {v : Value} {d : DataW H} {p : List MemPlace}
    (hval : Value.okWide Tryz.prog W .any base 72 v) (h : DataW.Trod enc Tryz.prog W 0 (fun _ => true) true 72 v d p) : ∃ l, Ints W.heap.size W v l ∧ ∀ n ∈ l, -9223372036854775808 ≤ n ∧ n ≤ 9223372036854775807 := by
  obtain ⟨a0, len, cap, rfl⟩ := okWide_slice Tryz.underlying72 hval
  obtain ⟨fuel, hf⟩ := h
  obtain ⟨l, h1, h2⟩ := slice_trod Tryz.underlying72 (by kernel_rfl) (show 0 < 1 by omega) (fun n : Int => [.int .i64 n]) (fun _ => rfl) (fun n => -9223372036854775808 ≤ n ∧ n ≤ 9223372036854775807)
    (fun n cs y hy => by
      obtain ⟨n', h, _, hw⟩ := DataW.trod_int Tryz.underlying3 hy
      refine ⟨n', h, ?_⟩
      simp [Lit.wf, IntKind.min, IntKind.max, IntKind.signed, IntKind.bits] at hw
      omega) hf
  exact ⟨l, by rw [flat_one] at h1; exact h1, h2⟩
set_option maxRecDepth 100000 in
theorem ent_trod {H : Type} {enc : TypeId × Value → H} {W : World} {n : Nat} {cs : List Value} {y : DataW H × List MemPlace} (h : DataW.trod enc Tryz.prog W 0 (fun _ => true) true n 56 cs = some y) : ∃ e : Ent, cs = e.cells ∧ EntOk e := by
  have hs := Tryz.underlying56
  obtain ⟨ys, n', _, _, hlen, hyl, hf⟩ := DataW.trod_struct hs h
  have c9 : Tryz.prog.cellsOf 9 = 1 := by kernel_rfl
  have c4 : Tryz.prog.cellsOf 4 = 1 := by kernel_rfl
  have c35 : Tryz.prog.cellsOf 56 = 3 := by kernel_rfl
  have h0 : DataW.trod enc Tryz.prog W 0 _ true n' 9 ((cs.drop 0).take (Tryz.prog.cellsOf 9)) = ys[0]? := hf 0 _ rfl
  have h1 : DataW.trod enc Tryz.prog W 0 _ true n' 9 ((cs.drop 1).take (Tryz.prog.cellsOf 9)) = ys[1]? := hf 1 _ rfl
  have h2 : DataW.trod enc Tryz.prog W 0 _ true n' 4 ((cs.drop 2).take (Tryz.prog.cellsOf 4)) = ys[2]? := hf 2 _ rfl
  rw [c35] at hlen
  rw [c9] at h0 h1
  rw [c4] at h2
  match cs, hlen with
  | [v0, v1, v2], _ =>
    have hl3 : ys.length = 3 := hyl
    match ys, hl3 with
    | [y0, y1, y2], _ =>
      obtain ⟨s0, e0, _, b0⟩ := DataW.trod_string Tryz.underlying9 (show DataW.trod enc Tryz.prog W 0 _ true n' _ [v0] = some y0 from h0)
      obtain ⟨s1, e1, _, b1⟩ := DataW.trod_string Tryz.underlying9 (show DataW.trod enc Tryz.prog W 0 _ true n' _ [v1] = some y1 from h1)
      obtain ⟨g, e2, _⟩ := DataW.trod_bool Tryz.underlying4 (show DataW.trod enc Tryz.prog W 0 _ true n' _ [v2] = some y2 from h2)
      simp at e0 e1 e2
      subst e0; subst e1; subst e2
      unfold maxLen at b0 b1
      exact ⟨⟨s0, s1, g⟩, rfl, by omega, by omega⟩
theorem ents_trod {H : Type} {enc : TypeId × Value → H} {W : World} {fuel : Nat} {v : Value} {x : DataW H × List MemPlace} (h : DataW.trod enc Tryz.prog W 0 (fun _ => true) true fuel 31 [v] = some x) : ∃ l, Ents W.heap.size W v l := by
  obtain ⟨l, h1, h2⟩ := slice_trod Tryz.underlying31 (by kernel_rfl) (show 0 < 3 by omega) Ent.cells (fun _ => rfl) EntOk (fun n cs y => ent_trod) h
  exact ⟨l, h1, h2⟩
set_option maxRecDepth 100000 in
theorem ents_of {H : Type} {enc : TypeId × Value → H} {W : World} {base : Nat} {v : Value} {d : DataW H} {p : List MemPlace}
    (hval : Value.okWide Tryz.prog W .any base 31 v) (h : DataW.Trod enc Tryz.prog W 0 (fun _ => true) true 31 v d p) : ∃ l, Ents W.heap.size W v l := by
  obtain ⟨a0, len, cap, rfl⟩ := okWide_slice Tryz.underlying31 hval
  obtain ⟨fuel, hf⟩ := h
  exact ents_trod hf
set_option maxRecDepth 100000 in
theorem lss_of {H : Type} {enc : TypeId × Value → H} {W : World} {base : Nat} {v : Value} {d : DataW H} {p : List MemPlace}
    (hval : Value.okWide Tryz.prog W .any base 150 v) (h : DataW.Trod enc Tryz.prog W 0 (fun _ => true) true 150 v d p) : ∃ ls, Lss W.heap.size W v ls := by
  obtain ⟨a0, len, cap, rfl⟩ := okWide_slice Tryz.underlying150 hval
  obtain ⟨fuel, hf⟩ := h
  obtain ⟨l, h1, h2⟩ := slice_trod Tryz.underlying150 (by kernel_rfl) (show 0 < 1 by omega) (fun z : Value × List Ent => [z.1]) (fun _ => rfl) (fun z => Ents W.heap.size W z.1 z.2)
    (fun n cs y hy => by
      have hl := Go.Deep.open_slice Tryz.underlying31 hy
      have hc : ∃ u, cs = [u] := by
        rcases hl with ⟨hcs, _⟩ | ⟨a, len, cap, m, n, D, Pl, hcs, _⟩ <;> exact ⟨_, hcs⟩
      obtain ⟨u, rfl⟩ := hc
      obtain ⟨l, hl⟩ := ents_trod hy
      exact ⟨(u, l), rfl, hl⟩) hf
  refine ⟨l.map (·.2), l.map (·.1), by simp, ?_, fun i u m hu hm => ?_⟩
  · rw [flat_one] at h1
    simpa using h1
  · rw [List.getElem?_map] at hu hm
    cases hz : l[i]? with
    | none => rw [hz] at hu; cases hu
    | some z =>
      rw [hz] at hu hm
      simp at hu hm
      subst hu; subst hm
      exact h2 z (List.mem_of_getElem? hz)
end Go.Proofs.YtaepdbkfaoiimabGreatDoor
