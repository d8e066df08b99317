/- The contracts of scan.Between and of the reference's Paged and Between. Conditions: none but those that each names. -/
import Derived.Test.YtaepdbkfaoiimadPages
set_option linter.unusedVariables false
set_option linter.unusedSimpArgs false
namespace Go.Proofs.Ytaepdbkfaoiimad
open Go.RowKit
/-- Does an entry lie between two keys? -/
def betP (lo hi : ByteArray) (e : Ent) : Bool := (!ltB e.k lo) && ((hi.toList == []) || ltB e.k hi)
/-- The rows between two keys, backwards. -/
def betM (r : List Ent) (lo hi : ByteArray) : List Ent := r.reverse.filter (betP lo hi)
theorem filter_snoc {α : Type} {f : α → Bool} {l : List α} {k : Nat} {x : α} (h : l.take (k + 1) = l.take k ++ [x]) : (l.take (k + 1)).filter f = if f x then (l.take k).filter f ++ [x] else (l.take k).filter f := by
  rw [h, List.filter_append]
  by_cases hf : f x = true
  · rw [if_pos hf, List.filter_cons_of_pos hf, List.filter_nil]
  · rw [if_neg hf, List.filter_cons_of_neg hf, List.filter_nil, List.append_nil]
theorem page_full {l : List Ent} {k m : Nat} {a : ByteArray} (h : m ≤ (pageM (l.take k) a m).length) : pageM l a m = pageM (l.take k) a m := by
  unfold pageM at h ⊢
  rw [List.length_take] at h
  conv => lhs; rw [← List.take_append_drop k l, List.filter_append]
  rw [List.take_append_of_le_length (by omega)]
set_option maxRecDepth 20000 in
set_option maxHeartbeats 4000000 in
theorem sbet_any (B q p k j : Nat) (c : Chip) (s : SM) (F : List Nat) (lo hi : ByteArray) (w : World) (h : StS B w q p k j c s F) :
    Calls Try.prog 14 #[.pointer (some ⟨q, 0, none⟩), .string lo, .string hi] w fun e w' => ∃ v, e = .returned (.tuple #[v, .nilIface]) ∧ Ents B w' v (betM s.rows lo hi) ∧ Below w.heap.size w w' := by
  have HRO := Lib.hid (srows_any B q p c s F w h.st h.ch h.ok.inv)
  have hr40 : s.rows.length ≤ 40 := h.ok.inv.body.rows
  clear h
  generalize s.rows = l at *
  have fin : ∀ (wr : World) (tmps : Array Value) (v : Value), Ents B wr v (betM l lo hi) → Below w.heap.size w wr → tmps[6]? = some v → tmps[7]? = some .nilIface →
      bodyPost Try.prog Try.f14 (fun e w' => ∃ v, e = .returned (.tuple #[v, .nilIface]) ∧ Ents B w' v (betM l lo hi) ∧ Below w.heap.size w w') .ret { tmps := tmps, defers := [] } wr := by
    intro wr tmps v hv hb t6 t7
    exact bodyPost_ret (v := .tuple #[v, .nilIface]) (by simp [results, Try.results14, go_sem, t6, t7]) rfl ⟨v, rfl, hv, hb⟩
  have FIN := Lib.hid fin
  clear fin
  go_enter Try.func14, Try.ntmps14
  go_wp2_with fail
  refine HRO.out.mono ?_
  rintro e w1 ⟨v1, rfl, hv1, hb1⟩
  obtain ⟨A, cp, rfl, hc, hc2, hcell⟩ := hv1.form
  have HC := Lib.hid hcell
  have HO := Lib.hid hv1.2
  have HB1 := Lib.hid hb1
  clear hcell hv1 hb1 HRO
  go_wp2_with fail
  go_loopw [10, 23] (fun u i wr => ∃ n : Nat, n ≤ l.length ∧ i = .int .i64 n ∧ ∃ zs : List Ent, Hid (zs = (l.reverse.take n).filter (betP lo hi)) ∧ zs.length ≤ n ∧ Hid (wr.ownsRow w1.heap.size 34 3 u zs.length (zs.flatMap Ent.cells)) ∧ Below w1.heap.size w1 wr) (fun _ i _ => l.length - (intOf i).toNat)
  case atStart => exact ⟨0, Nat.zero_le _, rfl, [], by simp [Hid], Nat.le_refl _, World.ownsRow_nil _ _ _ _, Below.refl _ _⟩
  case round =>
    obtain ⟨n, hn, rfl, zs, hz, hzl, hown, hbl⟩ := hrel
    obtain ⟨A', c', rfl⟩ := rd_form' (Rd.of_own (B := 0) hown.out)
    by_cases hlt : n < l.length
    · obtain ⟨x, hx, htk, _⟩ := getElem?_of_lt (l := l.reverse) (k := n) (by rw [List.length_reverse]; exact hlt)
      have hx' : l[l.length - 1 - n]? = some x := by
        rw [List.getElem?_reverse hlt] at hx
        exact hx
      obtain ⟨b, o, rfl, hb, c1, c2, c3⟩ := HC.out (l.length - 1 - n) x hx'
      have d1 := (hbl.cell (p := ⟨b, o + (l.length - 1 - n) * 3, none⟩) hb).trans c1
      have d2 := (hbl.cell (p := ⟨b, o + (l.length - 1 - n) * 3 + 1, none⟩) hb).trans c2
      have d3 := (hbl.cell (p := ⟨b, o + (l.length - 1 - n) * 3 + 2, none⟩) hb).trans c3
      have hsn := filter_snoc (f := betP lo hi) htk
      rw [← hz.out] at hsn
      have HSN := Lib.hid hsn
      have g0 : (n : Int) < (l.length : Int) := by omega
      have g1 : (0 : Int) ≤ (l.length : Int) - 1 - (n : Int) := by omega
      have g2 : (l.length : Int) - 1 - (n : Int) < (l.length : Int) := by omega
      have hbs := hbl.size
      clear htk hx hx' c1 c2 c3 hsn
      by_cases hin : betP lo hi x = true
      · have hl1 : ltB x.k lo = false := by simp [betP] at hin; exact hin.1
        have t37 : Op.bytesLess x.k.toList lo.toList = false := hl1
        have hl2 : hi.toList = [] ∨ (¬ hi.toList = [] ∧ Op.bytesLess x.k.toList hi.toList = true) := by
          by_cases he : hi.toList = []
          · exact .inl he
          · refine .inr ⟨he, ?_⟩
            simp [betP, he] at hin
            exact hin.2
        have HNX : Hid (zs ++ [x] = (l.reverse.take (n + 1)).filter (betP lo hi)) := by rw [Hid, HSN.out, if_pos hin]
        have hown' := Lib.hid (own_alloc (own_alloc hown.out (.cells #[.string x.k, .string x.v, .bool x.g] 34)) (.cells #[.string x.k, .string x.v, .bool x.g] 34))
        have HL := Lib.hid (rd_lit3 B (wr.alloc (.cells #[.string x.k, .string x.v, .bool x.g] 34)) (wr.heap.size + 1) (by simp) x.k x.v x.g)
        have HB0 := Lib.hid ((hbl.alloc hbs (.cells #[.string x.k, .string x.v, .bool x.g] 34)).alloc (by simp; omega) (.cells #[.string x.k, .string x.v, .bool x.g] 34))
        clear hin hl1
        obtain ⟨i0, hi0, hz0, hz1, hz2⟩ := info_parts info_entry
        rcases hl2 with t40 | ⟨t40, t45⟩
        all_goals
          go_wp2_with (at_builtin; go_loud (refine wpList_append_rd _ rfl (.tmp 48) (.tmp 50) 28 rfl w1.heap.size 34 i0 _ 3 40 Try.underlying28 hi0 hz0 hz1 hz2 rfl (by decide) _ _ _ rfl hown'.out B 34 _ 1 _ rfl HL.out (ent_one3 _ _ _) (by unfold maxLen; omega) (by omega) (by simp; omega) ?_); intro v5 w5 hown5 hg5 hat5)
          have hb5 := below_own HB0.out (Nat.le_refl _) hown'.out hg5
          have hown2 : Hid (w5.ownsRow w1.heap.size 34 3 v5 (zs ++ [x]).length ((zs ++ [x]).flatMap Ent.cells)) := by
            rw [Hid]; simpa [Ent.cells] using hown5
          clear hi0 hz0 hz1 hz2 hg5 hat5 hown5
          go_roundw
          case rel => exact ⟨n + 1, by omega, by go_num, zs ++ [x], HNX.out, by simp; omega, hown2, hb5⟩
          case measure => simp [intOf] <;> omega
      · have hnl : Op.bytesLess x.k.toList lo.toList = true ∨ (Op.bytesLess x.k.toList lo.toList = false ∧ ¬ hi.toList = [] ∧ Op.bytesLess x.k.toList hi.toList = false) := by
          cases h1 : ltB x.k lo
          · refine .inr ⟨h1, ?_⟩
            by_cases he : hi.toList = []
            · simp [betP, h1, he] at hin
            · simp [betP, h1, he] at hin
              exact ⟨he, hin⟩
          · exact .inl h1
        have HNX : Hid (zs = (l.reverse.take (n + 1)).filter (betP lo hi)) := by rw [Hid, HSN.out, if_neg hin]
        clear hin
        rcases hnl with t37 | ⟨t37, t40, t45⟩
        all_goals
          try have t40b : hi.toList.isEmpty = false := by cases hh : hi.toList with | nil => exact absurd hh t40 | cons a l => rfl
          try have t40c : (hi.toList == []) = false := beq_eq_false_iff_ne.2 t40
          go_wp2_with fail
          go_roundw
          case rel => exact ⟨n + 1, by omega, by go_num, zs, HNX.out, by omega, own_alloc hown.out _, hbl.alloc hbs _⟩
          case measure => simp [intOf] <;> omega
    · have t24 : decide ((n : Int) < (l.length : Int)) = false := decide_eq_false (by omega)
      have e : l.reverse.take n = l.reverse := List.take_of_length_le (by rw [List.length_reverse]; omega)
      rw [e] at hz
      go_wp2_with fail
      refine FIN.out _ _ _ ?_ (HB1.out.trans (hbl.mono HB1.out.size)) rfl rfl
      unfold betM
      rw [← hz.out]
      refine ⟨Rd.of_own hown.out, fun e he => HO.out e ?_⟩
      rw [hz.out] at he
      exact List.mem_reverse.1 (List.mem_filter.1 he).1
end Go.Proofs.Ytaepdbkfaoiimad
