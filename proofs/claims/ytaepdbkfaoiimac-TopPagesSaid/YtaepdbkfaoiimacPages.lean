/- Rows, some at a time: plain laws. Conditions: none but those that each names. -/
import Derived.Test.YtaepdbkfaoiimacMg
set_option linter.unusedVariables false
set_option linter.unusedSimpArgs false
namespace Go.Proofs.Ytaepdbkfaoiimac
open Go.RowKit
/-- The rows behind a key, so many of them. -/
def pageM (r : List Ent) (after : ByteArray) (many : Nat) : List Ent := (r.filter (fun e => ltB after e.k)).take many
theorem filter_behind {r : List Ent} (hr : Rises r) {j : Nat} {x : Ent} (hx : r[j]? = some x) : r.filter (fun e => ltB x.k e.k) = r.drop (j + 1) := by
  induction r generalizing j with
  | nil => simp at hx
  | cons y ys ih =>
    obtain ⟨h1, h2⟩ := rises_cons.1 hr
    cases j with
    | zero =>
      simp at hx
      subst hx
      rw [List.filter_cons_of_neg (by rw [ltB_irrefl]; simp), List.drop_succ_cons, List.drop_zero, List.filter_eq_self]
      exact h1
    | succ j =>
      simp at hx
      have hm := List.mem_of_getElem? hx
      rw [List.filter_cons_of_neg (by rw [ltB_asymm (h1 x hm)]; simp), List.drop_succ_cons]
      exact ih h2 hx
theorem pageM_snoc (l : List Ent) (x : Ent) (a : ByteArray) (m : Nat) : pageM (l ++ [x]) a m = if ltB a x.k = true ∧ (pageM l a m).length < m then pageM l a m ++ [x] else pageM l a m := by
  unfold pageM
  rw [List.filter_append]
  cases hb : ltB a x.k
  · rw [if_neg (by simp), List.filter_cons_of_neg (by simp [hb])]; simp
  · rw [List.filter_cons_of_pos (by simp [hb]), List.filter_nil]
    by_cases hm : (l.filter (fun e => ltB a e.k)).length < m
    · rw [if_pos ⟨rfl, by rw [List.length_take]; omega⟩, List.take_of_length_le (by simp; omega), List.take_of_length_le (by omega)]
    · rw [if_neg (by rw [List.length_take]; omega), List.take_append_of_le_length (by omega)]
theorem own_base {w : World} {b b' : Nat} {e : TypeId} {size n : Nat} {v : Value} {xs : List Value} (h : w.ownsRow b e size v n xs) (hb : b' ≤ b) : w.ownsRow b' e size v n xs := by
  obtain ⟨h1, h2⟩ := h
  refine ⟨h1, h2.imp id ?_⟩
  rintro ⟨g, cap, cur, h3, h4, h5⟩
  exact ⟨g, cap, cur, h3, Nat.le_trans hb h4, h5⟩
set_option maxRecDepth 20000 in
set_option maxHeartbeats 4000000 in
theorem spage_own (B q p k j : Nat) (c : Chip) (s : SM) (F : List Nat) (after : ByteArray) (many : Int) (w : World) (h : StS B w q p k j c s F) :
    Calls Try.prog 22 #[.pointer (some ⟨q, 0, none⟩), .string after, .int .i64 many] w fun e w' => ∃ v, e = .returned (.tuple #[v, .nilIface]) ∧ Ents B w' v (pageM s.rows after many.toNat) ∧ Below w.heap.size w w' ∧ w'.ownsRow w.heap.size 34 3 v (pageM s.rows after many.toNat).length ((pageM s.rows after many.toNat).flatMap Ent.cells) := by
  have HRO := Lib.hid (srows_any B q p c s F w h.st h.ch h.ok.inv)
  have hr40 : s.rows.length ≤ 40 := h.ok.inv.body.rows
  clear h
  generalize s.rows = l at *
  have fin : ∀ (wr : World) (tmps : Array Value) (v : Value), Ents B wr v (pageM l after many.toNat) → Below w.heap.size w wr → wr.ownsRow w.heap.size 34 3 v (pageM l after many.toNat).length ((pageM l after many.toNat).flatMap Ent.cells) → tmps[6]? = some v → tmps[7]? = some .nilIface →
      bodyPost Try.prog Try.f22 (fun e w' => ∃ v, e = .returned (.tuple #[v, .nilIface]) ∧ Ents B w' v (pageM l after many.toNat) ∧ Below w.heap.size w w' ∧ w'.ownsRow w.heap.size 34 3 v (pageM l after many.toNat).length ((pageM l after many.toNat).flatMap Ent.cells)) .ret { tmps := tmps, defers := [] } wr := by
    intro wr tmps v hv hb ho t6 t7
    exact bodyPost_ret (v := .tuple #[v, .nilIface]) (by simp [results, Try.results22, go_sem, t6, t7]) rfl ⟨v, rfl, hv, hb, ho⟩
  have FIN := Lib.hid fin
  clear fin
  go_enter Try.func22, Try.ntmps22
  go_wp2_with fail
  refine HRO.out.mono ?_
  rintro e w1 ⟨v1, rfl, hv1, hb1⟩
  obtain ⟨A, cp, rfl, hc, hc2, hcell⟩ := hv1.form
  have HC := Lib.hid hcell
  have HO := Lib.hid hv1.2
  have HB1 := Lib.hid hb1
  clear hcell hv1 hb1 HRO
  go_wp2_with fail
  go_loopw [10, 23] (fun u i wr => ∃ n : Nat, n ≤ l.length ∧ i = .int .i64 n ∧ ∃ zs : List Ent, Hid (zs = pageM (l.take n) after many.toNat) ∧ zs.length ≤ n ∧ Hid (wr.ownsRow w1.heap.size 34 3 u zs.length (zs.flatMap Ent.cells)) ∧ Below w1.heap.size w1 wr) (fun _ i _ => l.length - (intOf i).toNat)
  case atStart => exact ⟨0, Nat.zero_le _, rfl, [], by simp [Hid, pageM], Nat.le_refl _, World.ownsRow_nil _ _ _ _, Below.refl _ _⟩
  case round =>
    obtain ⟨n, hn, rfl, zs, hz, hzl, hown, hbl⟩ := hrel
    obtain ⟨A', c', rfl⟩ := rd_form' (Rd.of_own (B := 0) hown.out)
    by_cases hlt : n < l.length
    · obtain ⟨x, hx, htk, _⟩ := getElem?_of_lt hlt
      obtain ⟨b, o, rfl, hb, c1, c2, c3⟩ := HC.out n x hx
      have d1 := (hbl.cell (p := ⟨b, o + n * 3, none⟩) hb).trans c1
      have d2 := (hbl.cell (p := ⟨b, o + n * 3 + 1, none⟩) hb).trans c2
      have d3 := (hbl.cell (p := ⟨b, o + n * 3 + 2, none⟩) hb).trans c3
      have hsn := pageM_snoc (l.take n) x after many.toNat
      rw [← htk, ← hz.out] at hsn
      have HSN := Lib.hid hsn
      have g1 : (0 : Int) ≤ (n : Int) := by omega
      have g2 : (n : Int) < (l.length : Int) := by omega
      have hbs := hbl.size
      clear htk hx c1 c2 c3 hsn
      by_cases hbe : ltB after x.k = true
      · have t30 : Op.bytesLess x.k.toList after.toList = false := ltB_asymm hbe
        have t31 : (x.k.toList == after.toList) = false := by rw [ba_beq]; simp [(ltB_ne hbe).symm]
        have t32 : ¬ x.k.toList = after.toList := by simpa using t31
        by_cases hm : zs.length < many.toNat
        · have t35 : decide ((zs.length : Int) < many) = true := decide_eq_true (by omega)
          obtain ⟨i0, hi, hz0, hz1, hz2⟩ := info_parts info_entry
          have HNX : Hid (zs ++ [x] = pageM (l.take (n + 1)) after many.toNat) := by rw [Hid, HSN.out, if_pos ⟨hbe, hm⟩]
          have hown' := Lib.hid (own_alloc (own_alloc hown.out (.cells #[.string x.k, .string x.v, .bool x.g] 34)) (.cells #[.string x.k, .string x.v, .bool x.g] 34))
          have HL := Lib.hid (rd_lit3 B (wr.alloc (.cells #[.string x.k, .string x.v, .bool x.g] 34)) (wr.heap.size + 1) (by simp) x.k x.v x.g)
          have HB0 := Lib.hid ((hbl.alloc hbs (.cells #[.string x.k, .string x.v, .bool x.g] 34)).alloc (by simp; omega) (.cells #[.string x.k, .string x.v, .bool x.g] 34))
          clear hbe
          go_wp2_with (at_builtin; go_loud (refine wpList_append_rd _ rfl (.tmp 37) (.tmp 39) 23 rfl w1.heap.size 34 i0 _ 3 40 Try.underlying23 hi hz0 hz1 hz2 rfl (by decide) _ _ _ rfl hown'.out B 34 _ 1 _ rfl HL.out (ent_one3 _ _ _) (by unfold maxLen; omega) (by omega) (by simp; omega) ?_); intro v5 w5 hown5 hg5 hat5)
          have hb5 := below_own HB0.out (Nat.le_refl _) hown'.out hg5
          have hown2 : Hid (w5.ownsRow w1.heap.size 34 3 v5 (zs ++ [x]).length ((zs ++ [x]).flatMap Ent.cells)) := by
            rw [Hid]; simpa [Ent.cells] using hown5
          clear hi hz0 hz1 hz2 hg5 hat5 hown5
          go_roundw
          case rel => exact ⟨n + 1, by omega, by go_num, zs ++ [x], HNX.out, by simp; omega, hown2, hb5⟩
          case measure => simp [intOf] <;> omega
        · have t35 : decide ((zs.length : Int) < many) = false := decide_eq_false (by omega)
          have HNX : Hid (zs = pageM (l.take (n + 1)) after many.toNat) := by rw [Hid, HSN.out, if_neg (fun h => hm h.2)]
          clear hbe
          go_wp2_with fail
          go_roundw
          case rel => exact ⟨n + 1, by omega, by go_num, zs, HNX.out, by omega, own_alloc hown.out _, hbl.alloc hbs _⟩
          case measure => simp [intOf] <;> omega
      · have t30 : ¬(Op.bytesLess x.k.toList after.toList = false ∧ ¬x.k.toList = after.toList) := fun h => by
          cases hx : ltB x.k after
          · have := ltB_tri (a := after) (b := x.k) (by simpa using hbe) hx
            exact h.2 (by rw [this])
          · rw [show Op.bytesLess x.k.toList after.toList = true from hx] at h; exact absurd h.1 (by simp)
        have HNX : Hid (zs = pageM (l.take (n + 1)) after many.toNat) := by rw [Hid, HSN.out, if_neg (fun h => hbe h.1)]
        clear hbe
        go_wp2_with fail
        go_roundw
        case rel => exact ⟨n + 1, by omega, by go_num, zs, HNX.out, by omega, own_alloc hown.out _, hbl.alloc hbs _⟩
        case measure => simp [intOf] <;> omega
    · have t24 : decide ((n : Int) < (l.length : Int)) = false := decide_eq_false (by omega)
      have e : l.take n = l := List.take_of_length_le (by omega)
      rw [e] at hz
      go_wp2_with fail
      have hob := own_base hown.out HB1.out.size
      rw [hz.out] at hob
      refine FIN.out _ _ _ ?_ (HB1.out.trans (hbl.mono HB1.out.size)) (by rw [← hz.out] at hob ⊢; exact hob) rfl rfl
      rw [← hz.out]
      refine ⟨Rd.of_own hown.out, fun e he => HO.out e ?_⟩
      rw [hz.out] at he
      exact (List.mem_filter.1 (List.mem_of_mem_take he)).1
theorem spage_any (B q p k j : Nat) (c : Chip) (s : SM) (F : List Nat) (after : ByteArray) (many : Int) (w : World) (h : StS B w q p k j c s F) :
    Calls Try.prog 22 #[.pointer (some ⟨q, 0, none⟩), .string after, .int .i64 many] w fun e w' => ∃ v, e = .returned (.tuple #[v, .nilIface]) ∧ Ents B w' v (pageM s.rows after many.toNat) ∧ Below w.heap.size w w' :=
  (spage_own B q p k j c s F after many w h).mono fun e w' ⟨v, h1, h2, h3, _⟩ => ⟨v, h1, h2, h3⟩
end Go.Proofs.Ytaepdbkfaoiimac
