/- Several texts of this proof, one behind the other: walks and plain laws that the statements rest on. Conditions: none but those that each lemma names. -/
import Derived.Test.YtaepdbkfaoiimabGreatMf
/- The arguments of a law, opened: manifests and acts. Conditions: none. -/
set_option linter.unusedVariables false
namespace Go.Proofs.YtaepdbkfaoiimabGreat
open Go.ChangeShapes Go.WideShapes Go.ChangeAt Go.RowKit Go.WideMaps Go.WideElems
open Go.ChangeMaps (open_string shut_string)

theorem lit64 {n : Int} (h : (Lit.int .i64 n).wf = true) : -9223372036854775808 ≤ n ∧ n ≤ 9223372036854775807 := by
  simp [Lit.wf, IntKind.min, IntKind.max, IntKind.signed, IntKind.bits] at h
  omega
set_option maxRecDepth 100000 in
theorem ints_trod {H : Type} {enc : TypeId × Value → H} {W : World} {fuel : Nat} {v : Value} {x : DataW H × List MemPlace} (h : DataW.trod enc Tryz.prog W 0 (fun _ => true) true fuel 57 [v] = some x) : ∃ l, Ints W.heap.size W v l := by
  obtain ⟨l, h1, _⟩ := slice_trod Tryz.underlying57 (by kernel_rfl) (show 0 < 1 by omega) (fun n : Int => [.int .i64 n]) (fun _ => rfl) (fun _ => True)
    (fun n cs y hy => by
      obtain ⟨n', h, _, _⟩ := DataW.trod_int Tryz.underlying3 hy
      exact ⟨n', h, trivial⟩) h
  exact ⟨l, by rw [flat_one] at h1; exact h1⟩
/-- What a manifest's numbers are. -/
def ManOk (m : Man) : Prop := -9223372036854775808 ≤ m.ep ∧ m.ep ≤ 9223372036854775807 ∧ -9223372036854775808 ≤ m.log ∧ m.log ≤ 9223372036854775807
set_option maxRecDepth 100000 in
theorem man_trod {H : Type} {enc : TypeId × Value → H} {W : World} {n : Nat} {cs : List Value} {y : DataW H × List MemPlace} (h : DataW.trod enc Tryz.prog W 0 (fun _ => true) true n 59 cs = some y) :
    ∃ (m : Man) (vn vo : Value), cs = [.int .i64 m.ep, .int .i64 m.log, vn, vo] ∧ Ints W.heap.size W vn m.nw ∧ Ints W.heap.size W vo m.od ∧ ManOk m := by
  have hs := Tryz.underlying59
  obtain ⟨ys, n', _, _, hlen, hyl, hf⟩ := DataW.trod_struct hs h
  have c9 : Tryz.prog.cellsOf 3 = 1 := by kernel_rfl
  have c4 : Tryz.prog.cellsOf 57 = 1 := by kernel_rfl
  have c35 : Tryz.prog.cellsOf 59 = 4 := by kernel_rfl
  have h0 : DataW.trod enc Tryz.prog W 0 _ true n' 3 ((cs.drop 0).take (Tryz.prog.cellsOf 3)) = ys[0]? := hf 0 _ rfl
  have h1 : DataW.trod enc Tryz.prog W 0 _ true n' 3 ((cs.drop 1).take (Tryz.prog.cellsOf 3)) = ys[1]? := hf 1 _ rfl
  have h2 : DataW.trod enc Tryz.prog W 0 _ true n' 57 ((cs.drop 2).take (Tryz.prog.cellsOf 57)) = ys[2]? := hf 2 _ rfl
  have h3 : DataW.trod enc Tryz.prog W 0 _ true n' 57 ((cs.drop 3).take (Tryz.prog.cellsOf 57)) = ys[3]? := hf 3 _ rfl
  rw [c35] at hlen
  rw [c9] at h0 h1
  rw [c4] at h2 h3
  match cs, hlen with
  | [v0, v1, v2, v3], _ =>
    have hl4 : ys.length = 4 := hyl
    match ys, hl4 with
    | [y0, y1, y2, y3], _ =>
      obtain ⟨a, e0, _, b0⟩ := DataW.trod_int Tryz.underlying3 (show DataW.trod enc Tryz.prog W 0 _ true n' _ [v0] = some y0 from h0)
      obtain ⟨b, e1, _, b1⟩ := DataW.trod_int Tryz.underlying3 (show DataW.trod enc Tryz.prog W 0 _ true n' _ [v1] = some y1 from h1)
      obtain ⟨l2, q2⟩ := ints_trod (show DataW.trod enc Tryz.prog W 0 _ true n' _ [v2] = some y2 from h2)
      obtain ⟨l3, q3⟩ := ints_trod (show DataW.trod enc Tryz.prog W 0 _ true n' _ [v3] = some y3 from h3)
      simp at e0 e1
      subst e0; subst e1
      exact ⟨⟨a, b, l2, l3⟩, v2, v3, rfl, q2, q3, (lit64 b0).1, (lit64 b0).2, (lit64 b1).1, (lit64 b1).2⟩
set_option maxRecDepth 100000 in
theorem man_of {H : Type} {enc : TypeId × Value → H} {W : World} {base : Nat} {v : Value} {d : DataW H} {p : List MemPlace}
    (hval : Value.okWide Tryz.prog W .any base 59 v) (h : DataW.Trod enc Tryz.prog W 0 (fun _ => true) true 59 v d p) : ∃ m, ManV W.heap.size W v m ∧ ManOk m := by
  obtain ⟨cs, rfl, _⟩ := okWide_struct Tryz.underlying59 hval
  obtain ⟨fuel, hf⟩ := h
  obtain ⟨m, vn, vo, e, h2, h3, h4⟩ := man_trod hf
  have e' : cs = #[.int .i64 m.ep, .int .i64 m.log, vn, vo] := by
    have : (Value.agg cs).cells.toList = cs.toList := rfl
    rw [this] at e
    exact Array.toList_inj.1 e
  subst e'
  exact ⟨m, ⟨vn, vo, rfl, h2, h3⟩, h4⟩
/-- An act, with its slice as it stands. -/
structure Act where
  kind : ByteArray
  s : ByteArray
  a : Int
  b : Int
  v : Value
  l : List Ent
def Act.cells (x : Act) : List Value := [.string x.kind, .string x.s, .int .i64 x.a, .int .i64 x.b, x.v]
def ActOk (x : Act) : Prop := x.kind.size ≤ 9223372036854775807 ∧ x.s.size ≤ 9223372036854775807 ∧ -9223372036854775808 ≤ x.a ∧ x.a ≤ 9223372036854775807 ∧ -9223372036854775808 ≤ x.b ∧ x.b ≤ 9223372036854775807
def ActsR (B : Nat) (w : World) (v : Value) (l : List Act) : Prop := Rd B 41 5 w v l.length (l.flatMap Act.cells) ∧ ∀ x ∈ l, Ents B w x.v x.l ∧ ActOk x
set_option maxRecDepth 100000 in
theorem act_trod {H : Type} {enc : TypeId × Value → H} {W : World} {n : Nat} {cs : List Value} {y : DataW H × List MemPlace} (h : DataW.trod enc Tryz.prog W 0 (fun _ => true) true n 41 cs = some y) :
    ∃ x : Act, cs = x.cells ∧ Ents W.heap.size W x.v x.l ∧ ActOk x := by
  have hs := Tryz.underlying41
  obtain ⟨ys, n', _, _, hlen, hyl, hf⟩ := DataW.trod_struct hs h
  have c9 : Tryz.prog.cellsOf 3 = 1 := by kernel_rfl
  have c4 : Tryz.prog.cellsOf 37 = 1 := by kernel_rfl
  have cs1 : Tryz.prog.cellsOf 9 = 1 := by kernel_rfl
  have c35 : Tryz.prog.cellsOf 41 = 5 := by kernel_rfl
  have h0 : DataW.trod enc Tryz.prog W 0 _ true n' 9 ((cs.drop 0).take (Tryz.prog.cellsOf 9)) = ys[0]? := hf 0 _ rfl
  have h1 : DataW.trod enc Tryz.prog W 0 _ true n' 9 ((cs.drop 1).take (Tryz.prog.cellsOf 9)) = ys[1]? := hf 1 _ rfl
  have h2 : DataW.trod enc Tryz.prog W 0 _ true n' 3 ((cs.drop 2).take (Tryz.prog.cellsOf 3)) = ys[2]? := hf 2 _ rfl
  have h3 : DataW.trod enc Tryz.prog W 0 _ true n' 3 ((cs.drop 3).take (Tryz.prog.cellsOf 3)) = ys[3]? := hf 3 _ rfl
  have h4 : DataW.trod enc Tryz.prog W 0 _ true n' 37 ((cs.drop 4).take (Tryz.prog.cellsOf 37)) = ys[4]? := hf 4 _ rfl
  rw [c35] at hlen
  rw [cs1] at h0 h1
  rw [c9] at h2 h3
  rw [c4] at h4
  match cs, hlen with
  | [v0, v1, v2, v3, v4], _ =>
    have hl5 : ys.length = 5 := hyl
    match ys, hl5 with
    | [y0, y1, y2, y3, y4], _ =>
      obtain ⟨s0, e0, _, b0⟩ := DataW.trod_string Tryz.underlying9 (show DataW.trod enc Tryz.prog W 0 _ true n' _ [v0] = some y0 from h0)
      obtain ⟨s1, e1, _, b1⟩ := DataW.trod_string Tryz.underlying9 (show DataW.trod enc Tryz.prog W 0 _ true n' _ [v1] = some y1 from h1)
      obtain ⟨a, e2, _, b2⟩ := DataW.trod_int Tryz.underlying3 (show DataW.trod enc Tryz.prog W 0 _ true n' _ [v2] = some y2 from h2)
      obtain ⟨b, e3, _, b3⟩ := DataW.trod_int Tryz.underlying3 (show DataW.trod enc Tryz.prog W 0 _ true n' _ [v3] = some y3 from h3)
      obtain ⟨l4, q4⟩ := ents_trod (show DataW.trod enc Tryz.prog W 0 _ true n' _ [v4] = some y4 from h4)
      simp at e0 e1 e2 e3
      subst e0; subst e1; subst e2; subst e3
      unfold maxLen at b0 b1
      exact ⟨⟨s0, s1, a, b, v4, l4⟩, rfl, q4, by show s0.size ≤ _; omega, by show s1.size ≤ _; omega, (lit64 b2).1, (lit64 b2).2, (lit64 b3).1, (lit64 b3).2⟩
set_option maxRecDepth 100000 in
theorem act_of {H : Type} {enc : TypeId × Value → H} {W : World} {base : Nat} {v : Value} {d : DataW H} {p : List MemPlace}
    (hval : Value.okWide Tryz.prog W .any base 41 v) (h : DataW.Trod enc Tryz.prog W 0 (fun _ => true) true 41 v d p) : ∃ x : Act, v = .agg x.cells.toArray ∧ Ents W.heap.size W x.v x.l ∧ ActOk x := by
  obtain ⟨cs, rfl, _⟩ := okWide_struct Tryz.underlying41 hval
  obtain ⟨fuel, hf⟩ := h
  obtain ⟨x, e, h2, h3⟩ := act_trod hf
  have e' : cs = x.cells.toArray := by
    have : (Value.agg cs).cells.toList = cs.toList := rfl
    rw [this] at e
    exact Array.toList_inj.1 (by rw [e])
  subst e'
  exact ⟨x, rfl, h2, h3⟩
set_option maxRecDepth 100000 in
theorem acts_of {H : Type} {enc : TypeId × Value → H} {W : World} {base : Nat} {v : Value} {d : DataW H} {p : List MemPlace}
    (hval : Value.okWide Tryz.prog W .any base 22 v) (h : DataW.Trod enc Tryz.prog W 0 (fun _ => true) true 22 v d p) : ∃ l, ActsR W.heap.size W v l := by
  obtain ⟨a0, len, cap, rfl⟩ := okWide_slice Tryz.underlying22 hval
  obtain ⟨fuel, hf⟩ := h
  obtain ⟨l, h1, h2⟩ := slice_trod Tryz.underlying22 (by kernel_rfl) (show 0 < 5 by omega) Act.cells (fun _ => rfl) (fun x => Ents W.heap.size W x.v x.l ∧ ActOk x)
    (fun n cs y hy => by
      obtain ⟨x, e, h2, h3⟩ := act_trod hy
      exact ⟨x, e, h2, h3⟩) hf
  exact ⟨l, h1, h2⟩
end Go.Proofs.YtaepdbkfaoiimabGreat
/- A formatted chip, and what acts make of a store: plain laws. Conditions: none but those that each names. -/
set_option linter.unusedVariables false
set_option linter.unusedSimpArgs false
namespace Go.Proofs.YtaepdbkfaoiimabGreat
open Go.RowKit

/-- A manifest is noted on blocks that are blank. -/
theorem note_blank {c : Chip} {n : Man} (hc : CWf c) (hd : c.down = false) (hfu : c.fuse < 0) (h0 : (c.b 0).l = []) (h1 : (c.b 1).l = []) (hf : n.fault = 0) :
    ∃ c1, noteR c 0 n = (c1, 0, 0) ∧ CWf c1 ∧ c1.down = false ∧ c1.fuse < 0 ∧ Head c1 n 0 ∧ SameBut 0 c c1 ∧ ∀ i, (c1.b i).wear = (c.b i).wear := by
  have hwk : (c.b 0).weak = false := by
    cases e : (c.b 0).weak
    · rfl
    · have := hc.weak 0 e; omega
  have hbad : (c.b 0).bad = false := by
    cases e : (c.b 0).bad
    · rfl
    · have := hc.bad 0 e; rw [hwk] at this; cases this
  obtain ⟨c2, n2, e2, s2, f2, g2⟩ := write_calm (c := c) (b := 0) (d := n.bytes) (by decide) hd hbad hwk (mansize hf) (by rw [h0]; simp)
  have w2 : CWf c2 := by have := hc.write_ ((0 : Nat) : Int) n.bytes; rw [e2] at this; exact this
  obtain ⟨hn, hfu'⟩ := f2 hfu
  subst hn
  rcases g2 with ⟨_, d2, p2, l2, x2⟩ | ⟨h, _⟩
  · refine ⟨c2, ?_, w2, d2, hfu', ?_, s2, fun i => ?_⟩
    · unfold noteR
      rw [if_neg (by simpa using hf), if_neg (by rw [show ((0 : Int).toNat) = 0 from rfl, h0]; simp)]
      rw [show ((0 : Nat) : Int) = 0 from rfl] at e2
      rw [e2]
      simp
    · refine ⟨?_, .inl rfl⟩
      unfold findM
      rw [l2, s2.other 1 (by decide), h1, h0]
      show [].foldl (fStep 1) ([⟨pad n.bytes, false⟩].foldl (fStep 0) (Man.zero, -1)) = _
      rw [List.foldl_nil, List.foldl_cons, List.foldl_nil, fStep_eq, man_sheet hf]
      have := (fault_zero.1 hf).1
      show (if (0 : Int) < n.ep then (n, (0 : Int)) else (Man.zero, -1)) = (n, 0)
      rw [if_pos (by omega)]
    · by_cases e : i = 0
      · subst e; exact x2
      · rw [s2.other i e]
  · cases h
theorem wrap64_small {n : Int} (h0 : 0 ≤ n) (h1 : n ≤ 1000000000000) : wrap64 n = n := by unfold wrap64; omega
theorem wrap64_one : 0 ≤ wrap64 (0 + 1) ∧ wrap64 (0 + 1) ≤ 1 := by unfold wrap64; omega
/-- A store that has done so many acts, so many of which weakened a block. -/
structure Good (k j : Nat) (c : Chip) (s : SM) : Prop where
  inv : Inv c s
  calm : c.fuse < 0
  nw : s.m.nw.length ≤ 2
  ep : s.m.ep ≤ 1 + 12 * (k : Int)
  weak : weaks c ≤ j
  wear : ∀ i, 2 ≤ i → 0 ≤ (c.b i).wear ∧ (c.b i).wear ≤ 1 + 12 * (k : Int)
/-- A chip is formatted. -/
theorem format_calm : ∃ c1 c2 c3 c4 b, Chip.new.erase 0 = (c1, 0) ∧ c1.erase 1 = (c2, 0) ∧ c2.down = false ∧ blankM [] c2 = (c3, b, 0) ∧ noteR c3 0 (manL 1 b) = (c4, 0, 0) ∧
    Inv c4 ⟨manL 1 b, 0, [], []⟩ ∧ c4.fuse < 0 ∧ weaks c4 = 0 ∧ (∀ i, 0 ≤ (c4.b i).wear ∧ (c4.b i).wear ≤ 1) := by
  obtain ⟨c1, n1, e1, s1, f1, g1⟩ := erase_calm (c := Chip.new) (b := 0) (by decide) rfl rfl rfl
  obtain ⟨hn, hf1⟩ := f1 (by decide)
  subst hn
  have w1 : CWf c1 := by have := CWf.new.erase_ ((0 : Nat) : Int); rw [e1] at this; exact this
  rcases g1 with ⟨_, d1, p1, l1, x1⟩ | ⟨h, _⟩
  case inr => cases h
  have o1 : c1.b 1 = ⟨[], 0, false, false⟩ := s1.other 1 (by decide)
  obtain ⟨c2, n2, e2, s2, f2, g2⟩ := erase_calm (c := c1) (b := 1) (by decide) d1 (by rw [o1]) (by rw [o1])
  obtain ⟨hn, hf2⟩ := f2 hf1
  subst hn
  have w2 : CWf c2 := by have := w1.erase_ ((1 : Nat) : Int); rw [e2] at this; exact this
  rcases g2 with ⟨_, d2, p2, l2, x2⟩ | ⟨h, _⟩
  case inr => cases h
  have hb2 : ∀ i, (c2.b i).l = [] ∧ (c2.b i).weak = false ∧ (c2.b i).bad = false ∧ (2 ≤ i → (c2.b i).wear = 0) ∧ 0 ≤ (c2.b i).wear ∧ (c2.b i).wear ≤ 1 := by
    intro i
    by_cases i1 : i = 1
    · subst i1
      refine ⟨l2, by rw [s2.weak, o1], by rw [s2.bad, o1], fun h => by omega, ?_⟩
      rw [x2, o1]; exact wrap64_one
    · rw [s2.other i i1]
      by_cases i0 : i = 0
      · subst i0
        refine ⟨l1, s1.weak, s1.bad, fun h => by omega, ?_⟩
        rw [x1]; exact wrap64_one
      · rw [s1.other i i0]; exact ⟨rfl, rfl, rfl, fun _ => rfl, Int.le_refl _, show (0 : Int) ≤ 1 by decide⟩
  have hwk0 : weaks c2 = 0 := by
    unfold weaks
    rw [List.countP_eq_zero]
    intro i _
    simp [(hb2 i).2.1]
  obtain ⟨c3, b, n3, e3, w3, x3, f3, g3⟩ := seek_calm lays_erase [] 25 c2 (by have := goods_le c2; omega) w2 d2 ⟨2, by omega, by omega, (hb2 2).2.1, by simp⟩
  obtain ⟨hn, hf3⟩ := f3 hf2
  subst hn
  rcases g3 with ⟨_, d3, p3, q, rfl, q2, q24, _, hq, _, hqw, hwear⟩ | ⟨h, _⟩
  case inr => cases h
  have hfl : (manL 1 (q : Int)).fault = 0 := manL_fault (by decide) (by decide) (by omega) (by omega)
  obtain ⟨c4, e4, w4, d4, f4, h4, s4, x4⟩ := note_blank (n := manL 1 (q : Int)) w3 d3 hf3 (by rw [x3.keep 0 (.inr (by omega))]; exact (hb2 0).1) (by rw [x3.keep 1 (.inr (by omega))]; exact (hb2 1).1) hfl
  have hwk : ∀ i, (c4.b i).weak = false := fun i => by
    by_cases e : i = 0
    · subst e; rw [s4.weak, x3.weak]; exact (hb2 0).2.1
    · rw [s4.other i e, x3.weak]; exact (hb2 i).2.1
  have hw0 : weaks c4 = 0 := by
    unfold weaks
    rw [List.countP_eq_zero]
    intro i _
    simp [hwk i]
  refine ⟨c1, c2, c3, c4, (q : Int), e1, e2, d2, e3, e4, ⟨w4, d4, h4, ⟨hfl, trivial, ⟨[], ?_, rfl, by simp, by simp⟩, by omega, by simp [manL], by simp [manL], ⟨by simp [Rises], by simp⟩, ?_, ?_⟩⟩, f4, hw0, fun i => ?_⟩
  · show logE (c4.b ((q : Int)).toNat).l = some []
    rw [Int.toNat_natCast, s4.other q (by omega), hq]
    rfl
  · show (rowsOf [] []).length ≤ 40
    decide +kernel
  · show (liveE (mergeAll [])).length ≤ 40
    decide +kernel
  · rw [x4 i, hwear i]
    have := (hb2 i).2.2.2
    by_cases e : i = q
    · subst e
      rw [if_pos rfl, this.1 q2]
      exact wrap64_one
    · rw [if_neg e]; exact this.2
theorem format_good : ∃ c1 c2 c3 c4 b, Chip.new.erase 0 = (c1, 0) ∧ c1.erase 1 = (c2, 0) ∧ c2.down = false ∧ blankM [] c2 = (c3, b, 0) ∧ noteR c3 0 (manL 1 b) = (c4, 0, 0) ∧ Good 0 0 c4 ⟨manL 1 b, 0, [], []⟩ := by
  obtain ⟨c1, c2, c3, c4, b, e1, e2, d2, e3, e4, hi, hf, hw, hwe⟩ := format_calm
  exact ⟨c1, c2, c3, c4, b, e1, e2, d2, e3, e4, hi, hf, by simp [manL], by simp [manL], by omega, fun i _ => by have := hwe i; omega⟩
/-- Weakening a block leaves what a store holds. -/
theorem weaken_l (c : Chip) (b : Int) (i : Nat) : ((c.weaken b).1.b i).l = (c.b i).l ∧ ((c.weaken b).1.b i).bad = (c.b i).bad ∧ ((c.weaken b).1.b i).wear = (c.b i).wear := by
  unfold Chip.weaken
  split
  · exact ⟨rfl, rfl, rfl⟩
  · by_cases e : i = b.toNat
    · subst e; simp
    · show ((c.set b.toNat _).b i).l = _ ∧ _
      rw [Chip.set_far c _ e]; exact ⟨rfl, rfl, rfl⟩
theorem countP_one {n j : Nat} {f g : Nat → Bool} (h : ∀ i, i ≠ j → g i = f i) : (List.range n).countP g ≤ (List.range n).countP f + 1 := by
  induction n with
  | zero => simp
  | succ n ih =>
    rw [List.range_succ, List.countP_append, List.countP_append]
    by_cases e : n = j
    · subst e
      have : (List.range n).countP g = (List.range n).countP f := by
        refine List.countP_congr fun i hi => ?_
        rw [h i (by have := List.mem_range.1 hi; omega)]
      rw [this]
      have : [n].countP g ≤ 1 := by rw [List.countP_singleton]; split <;> omega
      omega
    · have : [n].countP g = [n].countP f := by rw [List.countP_singleton, List.countP_singleton, h n e]
      omega
theorem weaks_weaken (c : Chip) (b : Int) : weaks (c.weaken b).1 ≤ weaks c + 1 := by
  unfold Chip.weaken
  split
  · show weaks c ≤ _; omega
  · refine countP_one (j := b.toNat) fun i hi => ?_
    show ((c.set b.toNat _).b i).weak = _
    rw [Chip.set_far c _ hi]
theorem Good.weaken {k j : Nat} {c : Chip} {s : SM} (h : Good k j c s) (hj : j ≤ 5) (b : Int) : Good (k + 1) (j + 1) (c.weaken b).1 s := by
  have hl := weaken_l c b
  have hw := weaks_weaken c b
  have hwk := h.weak
  have hi := h.inv
  have hfd : (c.weaken b).1.fuse = c.fuse ∧ (c.weaken b).1.down = c.down := by unfold Chip.weaken; split <;> exact ⟨rfl, rfl⟩
  obtain ⟨es, hlog⟩ := hi.body.log
  refine ⟨⟨hi.wf.weaken_ b, by rw [hfd.2]; exact hi.up, hi.head.same (hl 0).1 (hl 1).1, ⟨hi.body.fault, tabsAt_keep hi.body.tabs fun x _ => (hl _).1, ⟨es, ?_, hlog.mem, ?_, hlog.ok⟩, by omega, hi.body.nwl, hi.body.odl, hi.body.old, hi.body.rows, hi.body.trows⟩⟩, by rw [hfd.1]; exact h.calm, h.nw, by have := h.ep; omega, by omega, fun i h2 => ?_⟩
  · rw [(hl _).1]; exact hlog.read
  · rw [(hl _).1]; exact hlog.few
  · rw [(hl i).2.2]; have := h.wear i h2; omega
theorem Good.mono {k j k' j' : Nat} {c : Chip} {s : SM} (h : Good k j c s) (hk : k ≤ k') (hj : j ≤ j') : Good k' j' c s :=
  ⟨h.inv, h.calm, h.nw, by have := h.ep; omega, by have := h.weak; omega, fun i hi => by have := h.wear i hi; omega⟩
theorem weaks_grew {c c' : Chip} {K : Int} (h : Grew c c' K) : weaks c' = weaks c := by
  unfold weaks
  congr 1
  funext i
  rw [h.weak]
theorem Good.step {k j : Nat} {c c' : Chip} {s s' : SM} {K : Int} (h : Good k j c s) (hk : k ≤ 1000) (hi : Inv c' s') (hf : c'.fuse < 0) (hn : s'.m.nw.length ≤ 2) (he : s'.m.ep ≤ s.m.ep + 12) (hg : Grew c c' K) (hK : K ≤ 12) : Good (k + 1) j c' s' := by
  refine ⟨hi, hf, hn, by have := h.ep; omega, by rw [weaks_grew hg]; exact h.weak, fun i h2 => ?_⟩
  have := (hg.mono hK).wear (1 + 12 * (k : Int)) (by omega) (by omega) h.wear i h2
  omega
/-- What is wrong with a batch of changes to rows. -/
def checkR (r : List Ent) (l : List Ent) : Nat :=
  if l.length = 0 ∨ 4 < l.length then 2
  else if bytesF l ≠ 0 then bytesF l
  else if 40 < (liveE (l.foldl putE r)).length then 8 else 0
theorem checkM_eq (s : SM) (l : List Ent) : checkM s l = checkR s.rows l := rfl
def rowsW (r : List Ent) (l : List Ent) : List Ent := if checkR r l = 0 then liveE (l.foldl putE r) else r
def kWrite : List UInt8 := [119, 114, 105, 116, 101]
def kFlush : List UInt8 := [102, 108, 117, 115, 104]
def kCompact : List UInt8 := [99, 111, 109, 112, 97, 99, 116]
def kWeaken : List UInt8 := [119, 101, 97, 107, 101, 110]
/-- An act to a store. -/
def doM (c : Chip) (s : SM) (a : Act) : Chip × SM × Nat :=
  if a.kind.toList = kWrite then writeM c s a.l
  else if a.kind.toList = kFlush then flushM c s
  else if a.kind.toList = kCompact then compM c s
  else if a.kind.toList = kWeaken then ((c.weaken a.a).1, s, 0) else (c, s, 0)
def rowsA (r : List Ent) (a : Act) : List Ent := if a.kind.toList = kWrite then rowsW r a.l else r
def weakA (a : Act) : Nat := if a.kind.toList = kWeaken then 1 else 0
theorem write_good {k j : Nat} {c : Chip} {s : SM} (h : Good k j c s) (hk : k ≤ 1000) (l : List Ent) :
    ∃ c' s', writeM c s l = (c', s', checkR s.rows l) ∧ Good (k + 1) j c' s' ∧ s'.rows = rowsW s.rows l := by
  by_cases hc : checkM s l = 0
  · obtain ⟨c', s', n, e, f, g⟩ := write_store h.inv (by have := h.ep; omega) hc
    obtain ⟨hn, hf⟩ := f h.calm
    subst hn
    rcases g with ⟨_, hi, hr, he1, he2, hg, hn⟩ | ⟨h9, _⟩
    · refine ⟨c', s', by rw [e, ← checkM_eq, hc], h.step hk hi hf (hn h.nw) (by omega) hg (by omega), ?_⟩
      rw [hr, rowsW, if_pos (by rw [← checkM_eq]; exact hc)]
    · omega
  · exact ⟨c, s, by rw [writeM, if_pos hc, checkM_eq], h.mono (by omega) (Nat.le_refl _), by rw [rowsW, if_neg (by rw [← checkM_eq]; exact hc)]⟩
theorem flush_good {k j : Nat} {c : Chip} {s : SM} (h : Good k j c s) (hk : k ≤ 1000) :
    ∃ c' s', flushM c s = (c', s', 0) ∧ Good (k + 1) j c' s' ∧ s'.rows = s.rows ∧ s'.mem = [] ∧ (∃ q : Nat, s'.m.log = q ∧ (c'.b q).l = [] ∧ (c'.b q).weak = false ∧ (c.b q).bad = false) ∧ (∀ b ∈ s'.m.nw, b ∈ s.m.nw ∨ (c.b b.toNat).bad = false) := by
  obtain ⟨c', s', n, e, f, g⟩ := flush_calm h.inv (by have := h.ep; omega)
  obtain ⟨hn, hf⟩ := f h.calm
  subst hn
  rcases g with ⟨_, hi, hr, he1, he2, hg, hm, hn, hq, hb⟩ | ⟨h9, _⟩
  · exact ⟨c', s', e, h.step hk hi hf hn (by omega) hg (by omega), hr, hm, hq, hb⟩
  · omega
theorem comp_good {k j : Nat} {c : Chip} {s : SM} (h : Good k j c s) (hk : k ≤ 1000) :
    ∃ c' s', compM c s = (c', s', 0) ∧ Good (k + 1) j c' s' ∧ s'.rows = s.rows ∧ s'.mem = s.mem ∧ s'.m.nw = [] ∧ s'.m.log = s.m.log ∧ s'.tabs = parts 14 (liveE (mergeAll s.tabs)) := by
  obtain ⟨c', s', n, e, f, g⟩ := comp_calm h.inv (by have := h.ep; omega)
  obtain ⟨hn, hf⟩ := f h.calm
  subst hn
  rcases g with ⟨_, hi, hr, he, hg, hm, hn, hlg, _, ht⟩ | ⟨h9, _⟩
  · exact ⟨c', s', e, h.step hk hi hf (by rw [hn]; simp) (by omega) hg (by omega), hr, hm, hn, hlg, ht⟩
  · omega
theorem do_good {k j : Nat} {c : Chip} {s : SM} (h : Good k j c s) (hk : k ≤ 1000) (a : Act) (hj : j + weakA a ≤ 6) :
    ∃ c' s' n, doM c s a = (c', s', n) ∧ Good (k + 1) (j + weakA a) c' s' ∧ s'.rows = rowsA s.rows a ∧ n = (if a.kind.toList = kWrite then checkR s.rows a.l else 0) := by
  unfold doM rowsA
  by_cases h1 : a.kind.toList = kWrite
  · have hw : weakA a = 0 := by unfold weakA; rw [h1]; rfl
    rw [if_pos h1, if_pos h1, if_pos h1, hw]
    obtain ⟨c', s', e, g, r⟩ := write_good h hk a.l
    exact ⟨c', s', _, e, g, r, rfl⟩
  rw [if_neg h1, if_neg h1, if_neg h1]
  by_cases h2 : a.kind.toList = kFlush
  · have hw : weakA a = 0 := by unfold weakA; rw [h2]; rfl
    rw [if_pos h2, hw]
    obtain ⟨c', s', e, g, r, _⟩ := flush_good h hk
    exact ⟨c', s', _, e, g, r, rfl⟩
  rw [if_neg h2]
  by_cases h3 : a.kind.toList = kCompact
  · have hw : weakA a = 0 := by unfold weakA; rw [h3]; rfl
    rw [if_pos h3, hw]
    obtain ⟨c', s', e, g, r, _⟩ := comp_good h hk
    exact ⟨c', s', _, e, g, r, rfl⟩
  rw [if_neg h3]
  by_cases h4 : a.kind.toList = kWeaken
  · have hw : weakA a = 1 := by unfold weakA; rw [if_pos h4]
    rw [if_pos h4, hw]
    exact ⟨_, _, _, rfl, h.weaken (by omega) a.a, rfl, rfl⟩
  · have hw : weakA a = 0 := by unfold weakA; rw [if_neg h4]
    rw [if_neg h4, hw]
    exact ⟨_, _, _, rfl, h.mono (by omega) (Nat.le_refl _), rfl, rfl⟩
def weakN (l : List Act) : Nat := (l.map weakA).sum
def lightA (most : Int) (l : List Act) : Bool := decide ((l.length : Int) ≤ most) && l.all (fun a => decide (a.s.size ≤ 100) && lightE 6 a.l)
end Go.Proofs.YtaepdbkfaoiimabGreat
/- The contracts of store.Format on a new chip, and of the law's Stored. Conditions: none. -/
set_option linter.unusedVariables false
set_option linter.unusedSimpArgs false
namespace Go.Proofs.YtaepdbkfaoiimabGreat
open Go.RowKit
attribute [local go_sem ↓] eql_err eql_nilerr neq_err neq_nilerr guard_err guard_nilerr guardn_err guardn_nilerr
set_option maxRecDepth 20000 in
set_option maxHeartbeats 4000000 in
/-- A new chip is formatted. -/
theorem format_any (B p : Nat) (w : World) (h : ChipR B w p Chip.new) :
    Calls Tryz.prog 31 #[.pointer (some ⟨p, 0, none⟩)] w fun e w' => ∃ c b, e = .returned .nilIface ∧ ChipR B w' p c ∧ Good 0 0 c ⟨manL 1 b, 0, [], []⟩ ∧ Fr B (· = p) w w' := by
  obtain ⟨c1, c2, c3, c4, b, e1, e2, d2, e3, e4, hgood⟩ := format_good
  have HG := Lib.hid hgood
  have H1 : Hid (Calls Tryz.prog 55 #[.pointer (some ⟨p, 0, none⟩), .int .i64 0] w fun e w' => e = .returned .nilIface ∧ ChipR B w' p c1 ∧ Fr B (· = p) w w') := by
    have := cerase_any B p Chip.new 0 w h
    rw [e1] at this
    exact this
  have H2 : Hid (∀ W, ChipR B W p c1 → Calls Tryz.prog 55 #[.pointer (some ⟨p, 0, none⟩), .int .i64 1] W fun e w' => e = .returned .nilIface ∧ ChipR B w' p c2 ∧ Fr B (· = p) W w') := fun W hW => by
    have := cerase_any B p c1 1 W hW
    rw [e2] at this
    exact this
  have H3 : Hid (∀ W, ChipR B W p c2 → Calls Tryz.prog 56 #[.pointer (some ⟨p, 0, none⟩), .slice none 0 0] W fun e w' => e = .returned (.tuple #[.int .i64 b, .nilIface]) ∧ ChipR B w' p c3 ∧ Fr B (· = p) W w') := fun W hW => by
    have := blank_any B p c2 (.slice none 0 0) [] W hW (Rd.nil _ _ _ _) d2
    rw [e3] at this
    exact this
  have H4 : Hid (∀ W, ChipR B W p c3 → Calls Tryz.prog 57 #[.pointer (some ⟨p, 0, none⟩), .int .i64 0, .agg #[.int .i64 1, .int .i64 b, .slice none 0 0, .slice none 0 0]] W fun e w' => e = .returned (.tuple #[.int .i64 0, .nilIface]) ∧ ChipR B w' p c4 ∧ Fr B (· = p) W w') := fun W hW => by
    have := note_any B p c3 0 _ (manL 1 b) W hW (.inl rfl) ⟨_, _, rfl, Rd.nil _ _ _ _, Rd.nil _ _ _ _⟩ (by simp [manL]) (by simp [manL])
    rw [e4] at this
    exact this
  clear e1 e2 d2 e3 e4 hgood h
  go_enter Tryz.func31, Tryz.ntmps31
  go_wp2_with fail
  refine wp_loop_rounds 3 ?_
  rw [rounds_succ]
  go_wp2_with (go_at_call 55; refine H1.out.mono ?_; rintro e w1 ⟨rfl, hc1, hf1⟩)
  have HF1 := Lib.hid hf1
  have H2' := Lib.hid (H2.out w1 hc1)
  clear hf1 hc1 H1 H2
  rw [rounds_succ]
  go_wp2_with (go_at_call 55; refine H2'.out.mono ?_; rintro e w2 ⟨rfl, hc2, hf2⟩)
  have HF2 := Lib.hid (HF1.out.trans hf2 (fun _ _ => trivial))
  have H3' := Lib.hid (H3.out w2 hc2)
  clear hf2 hc2 H2' H3
  rw [rounds_succ]
  go_wp2_with (go_at_call 56; refine H3'.out.mono ?_; rintro e w3 ⟨rfl, hc3, hf3⟩)
  have HF3 := Lib.hid (HF2.out.trans hf3 (fun _ _ => trivial))
  have H4' := Lib.hid (H4.out w3 hc3)
  clear hf3 hc3 H3' H4
  go_wp2_with (go_at_call 57; refine H4'.out.mono ?_; rintro e w4 ⟨rfl, hc4, hf4⟩)
  have HF4 := Lib.hid (HF3.out.trans hf4 (fun _ _ => trivial))
  have HC4 := Lib.hid hc4
  clear hf4 hc4 H4'
  go_ret
  exact ⟨c4, b, rfl, HC4.out, HG.out, HF4.out⟩
theorem rows_none : rowsOf [] [] = [] := List.eq_nil_of_length_eq_zero (by decide +kernel)
/-- A store that has done so many acts lies in these blocks. -/
structure StS (B : Nat) (W : World) (q p k j : Nat) (c : Chip) (s : SM) (F : List Nat) : Prop where
  st : StoreR B W q p s F
  ch : ChipR B W p c
  ok : Good k j c s
set_option maxRecDepth 20000 in
set_option maxHeartbeats 4000000 in
theorem stored_any (w : World) :
    Calls Tryz.prog 10 #[] w fun e w' => ∃ p q c s F, e = .returned (.tuple #[.pointer (some ⟨p, 0, none⟩), .pointer (some ⟨q, 0, none⟩), .bool true]) ∧ StS w.heap.size w' q p 0 0 c s F ∧ s.rows = [] ∧ w.heap.size ≤ p ∧ (∀ b ∈ F, w.heap.size ≤ b) ∧ Below w.heap.size w w' := by
  have HNEW := Lib.hid (cnew_any w.heap.size w (Nat.le_refl _))
  go_enter Tryz.func10, Tryz.ntmps10
  go_wp2_with (go_at_call 8; refine HNEW.out.mono ?_; rintro e w1 ⟨p, rfl, hp, hr1, hb1⟩)
  have HB1 := Lib.hid hb1
  have HFO := Lib.hid (format_any w.heap.size p w1 hr1)
  clear hr1 hb1 HNEW
  go_wp2_with (go_at_call 31; refine HFO.out.mono ?_; rintro e w2 ⟨c, b, rfl, hc2, hg, hf2⟩)
  have HB2 : Hid (Below w.heap.size w w2) := HB1.out.trans (hf2.below HB1.out.size)
  have HC2 := Lib.hid hc2
  have HG := Lib.hid hg
  have HOP := Lib.hid (open_any w.heap.size p c _ w2 hc2 hg.inv)
  clear hc2 hf2 HFO HB1 hg
  go_wp2_with (go_at_call 7; refine HOP.out.mono ?_; rintro e w3 ⟨q, F, rfl, hs3, hb3, hq3, hF3⟩)
  have HFI : Hid (StS w.heap.size w3 q p 0 0 c ⟨manL 1 b, 0, [], []⟩ F ∧ (∀ b ∈ F, w.heap.size ≤ b) ∧ Below w.heap.size w w3) := ⟨⟨hs3, HC2.out.below hb3, HG.out⟩, fun b hb => Nat.le_trans HB2.out.size (hF3 b hb), HB2.out.trans (hb3.mono HB2.out.size)⟩
  clear hs3 hb3 hF3 HOP
  exact bodyPost_ret (v := .tuple #[.pointer (some ⟨p, 0, none⟩), .pointer (some ⟨q, 0, none⟩), .bool true]) (by simp [results, Tryz.results10, go_sem] <;> rfl) rfl ⟨p, q, c, _, F, rfl, HFI.out.1, rows_none, hp, HFI.out.2⟩
end Go.Proofs.YtaepdbkfaoiimabGreat
/- The contracts of do, filled, rows, works, LightActs, Weak. Conditions: none but those that each names. -/
set_option linter.unusedVariables false
set_option linter.unusedSimpArgs false
namespace Go.Proofs.YtaepdbkfaoiimabGreat
open Go.RowKit
attribute [local go_sem ↓] eql_err eql_nilerr neq_err neq_nilerr guard_err guard_nilerr guardn_err guardn_nilerr
theorem ActsR.form {B : Nat} {w : World} {v : Value} {l : List Act} (h : ActsR B w v l) : ∃ A c, v = .slice A l.length c ∧ l.length ≤ c ∧ c ≤ 9223372036854775807 ∧
    ∀ i x, l[i]? = some x → ∃ b o, A = some ⟨b, o, none⟩ ∧ b < w.heap.size ∧ w.cell? ⟨b, o + i * 5, none⟩ = some (.string x.kind) ∧ w.cell? ⟨b, o + i * 5 + 1, none⟩ = some (.string x.s) ∧ w.cell? ⟨b, o + i * 5 + 2, none⟩ = some (.int .i64 x.a) ∧ w.cell? ⟨b, o + i * 5 + 3, none⟩ = some (.int .i64 x.b) ∧ w.cell? ⟨b, o + i * 5 + 4, none⟩ = some x.v := by
  obtain ⟨⟨_, A, c, h1, h2, h3, h4⟩, _⟩ := h
  refine ⟨A, c, h1, h2, h3, fun i x hi => ?_⟩
  have hlt : i < l.length := by
    rcases Nat.lt_or_ge i l.length with h | h
    · exact h
    · rw [List.getElem?_eq_none h] at hi; cases hi
  obtain ⟨b, o, hA, _, hb, hc⟩ := h4 (by omega)
  have f := fun j hj => flat_at Act.cells 5 (fun _ => rfl) l i j x hi hj
  exact ⟨b, o, hA, hb, hc _ _ (f 0 (by omega)), hc _ _ (f 1 (by omega)), hc _ _ (f 2 (by omega)), hc _ _ (f 3 (by omega)), hc _ _ (f 4 (by omega))⟩
theorem StS.post {B q p k j k' j' : Nat} {w w' : World} {c c' : Chip} {s s' : SM} {F : List Nat} {n : Nat} {e : Ending} (h : SPost B q p F w (c', s', n) e w') (hg : Good k' j' c' s') :
    ∃ F', StS B w' q p k' j' c' s' F' ∧ (∀ b ∈ F', b ∈ F ∨ w.heap.size ≤ b) ∧ Fr B (· ∈ q :: p :: F) w w' := by
  obtain ⟨_, hc, ⟨F', hs, hF⟩, hf⟩ := h
  exact ⟨F', ⟨hs, hc, hg⟩, hF, hf⟩
/-- The same of a world where the store's blocks are as they were. -/
theorem StS.below {B q p k j : Nat} {w w' : World} {c : Chip} {s : SM} {F : List Nat} (h : StS B w q p k j c s F) (hb : Below w.heap.size w w') : StS B w' q p k j c s F := ⟨h.st.below hb, h.ch.below hb, h.ok⟩
/-- What an act tells. -/
def doN (r : List Ent) (a : Act) : Nat := if a.kind.toList = kWrite then checkR r a.l else 0
/-- What an act leaves. -/
def DoP (B q p k j : Nat) (F : List Nat) (w : World) (r : List Ent) (n : Nat) (e : Ending) (w' : World) : Prop :=
  ∃ c' s' F', e = .returned (errV n) ∧ StS B w' q p k j c' s' F' ∧ s'.rows = r ∧ (∀ b ∈ F', b ∈ F ∨ w.heap.size ≤ b) ∧ Fr B (· ∈ q :: p :: F) w w'
theorem kind_eq {a : ByteArray} {k : List UInt8} (h : a.toList = k) : (a.toList == k) = true := by rw [beq_iff_eq]; exact h
theorem kind_ne {a : ByteArray} {k : List UInt8} (h : ¬ a.toList = k) : (a.toList == k) = false := by rw [beq_eq_false_iff_ne]; exact h
theorem all_snoc {α : Type} {f : α → Bool} {l : List α} {k : Nat} {x : α} (h : l.take (k + 1) = l.take k ++ [x]) (h1 : (l.take k).all f = true) (h2 : f x = true) : (l.take (k + 1)).all f = true := by rw [h, List.all_append, h1]; simp [h2]
theorem all_no {α : Type} {f : α → Bool} {l : List α} {k : Nat} {x : α} (h : l[k]? = some x) (h2 : f x = false) : l.all f = false := by
  rw [List.all_eq_false]
  exact ⟨x, List.mem_of_getElem? h, by rw [h2]; simp⟩
set_option maxRecDepth 20000 in
set_option maxHeartbeats 4000000 in
theorem lightActs_any (B : Nat) (v : Value) (l : List Act) (most : Int) (w : World) (h : ActsR B w v l) :
    Calls Tryz.prog 5 #[v, .int .i64 most] w fun e w' => e = .returned (.bool (lightA most l)) ∧ w = w' := by
  obtain ⟨A, cp, rfl, hc1, hc2, hcell⟩ := h.form
  have HC := Lib.hid hcell
  have HEN := Lib.hid (fun x hx => (h.2 x hx).1)
  clear hcell h
  by_cases hm : (l.length : Int) ≤ most
  case neg =>
    have t9 : decide (most < (l.length : Int)) = true := decide_eq_true (by omega)
    have HF : Hid (lightA most l = false) := by rw [Hid, lightA, decide_eq_false hm]; rfl
    clear hm
    go_enter Tryz.func5, Tryz.ntmps5
    go_wp2_with fail
    go_ret
    exact ⟨by rw [HF.out]; rfl, rfl⟩
  have t9 : decide (most < (l.length : Int)) = false := decide_eq_false (by omega)
  have HF : Hid (lightA most l = l.all (fun a => decide (a.s.size ≤ 100) && lightE 6 a.l)) := by rw [Hid, lightA, decide_eq_true hm]; rfl
  clear hm
  go_enter Tryz.func5, Tryz.ntmps5
  go_wp2_with fail
  go_loop [5] (fun i => ∃ k : Nat, k ≤ l.length ∧ i = .int .i64 k ∧ Hid ((l.take k).all (fun a => decide (a.s.size ≤ 100) && lightE 6 a.l) = true)) (fun i => l.length - (intOf i).toNat)
  case atStart => exact ⟨0, Nat.zero_le _, rfl, rfl⟩
  case round =>
    obtain ⟨k, hk, rfl, hall⟩ := hrel
    by_cases hlt : k < l.length
    · obtain ⟨x, hx, htk, _⟩ := getElem?_of_lt hlt
      obtain ⟨b, o, rfl, hb, y0, y1, y2, y3, y4⟩ := HC.out k x hx
      have hen := HEN.out x (List.mem_of_getElem? hx)
      have HNO := Lib.hid (all_no (f := fun a : Act => decide (a.s.size ≤ 100) && lightE 6 a.l) hx)
      have HYE := Lib.hid (all_snoc (f := fun a : Act => decide (a.s.size ≤ 100) && lightE 6 a.l) htk hall.out)
      obtain ⟨kd, sx, xa, xb, vx, lx⟩ := x
      simp only at y0 y1 y2 y3 y4 hen
      obtain ⟨A', cp', rfl, _, _, _⟩ := hen.form
      have HLE := Lib.hid (lightE_any B _ lx 6 w hen)
      have g1 : (0 : Int) ≤ (k : Int) := by omega
      have g2 : (k : Int) < (l.length : Int) := by omega
      clear hx htk hen
      by_cases hs : sx.size ≤ 100
      case neg =>
        have t22 : decide ((100 : Int) < (sx.size : Int)) = true := decide_eq_true (by omega)
        have HFF : Hid (lightA most l = false) := by rw [Hid, HF.out]; exact HNO.out (by simp [hs])
        clear hs
        go_wp2_with fail
        go_ret
        exact ⟨by rw [HFF.out]; rfl, rfl⟩
      have t22 : decide ((100 : Int) < (sx.size : Int)) = false := decide_eq_false (by omega)
      cases hle : lightE 6 lx
      · have HFF : Hid (lightA most l = false) := by rw [Hid, HF.out]; exact HNO.out (by simp [hle])
        rw [hle] at HLE
        clear hs hle
        go_wp2_with (go_at_call 22; refine HLE.out.mono ?_; rintro e w1 ⟨rfl, rfl⟩)
        go_ret
        exact ⟨by rw [HFF.out]; rfl, rfl⟩
      · have HNX : Hid ((l.take (k + 1)).all (fun a => decide (a.s.size ≤ 100) && lightE 6 a.l) = true) := HYE.out (by simp [hle, hs])
        rw [hle] at HLE
        clear hs hle
        go_wp2_with (go_at_call 22; refine HLE.out.mono ?_; rintro e w1 ⟨rfl, rfl⟩)
        go_round
        case rel => exact ⟨k + 1, by omega, by go_num, HNX.out⟩
        case measure => simp [intOf] <;> omega
    · have HFF : Hid (lightA most l = true) := by
        have := hall.out
        rw [List.take_of_length_le (by omega)] at this
        rw [Hid, HF.out, this]
      have t13 : decide ((k : Int) < (l.length : Int)) = false := decide_eq_false (by omega)
      go_wp2_with fail
      go_ret
      exact ⟨by rw [HFF.out]; rfl, rfl⟩
theorem weakN_snoc {l : List Act} {k : Nat} {x : Act} (h : l.take (k + 1) = l.take k ++ [x]) : weakN (l.take (k + 1)) = weakN (l.take k) + weakA x := by
  unfold weakN; rw [h]; simp
theorem weakN_le (l : List Act) : weakN l ≤ l.length := by
  unfold weakN
  induction l with
  | nil => simp
  | cons x l ih =>
    have : weakA x ≤ 1 := by unfold weakA; split <;> omega
    simp; omega
set_option maxRecDepth 20000 in
set_option maxHeartbeats 4000000 in
theorem weak_any (B : Nat) (v : Value) (l : List Act) (w : World) (h : ActsR B w v l) :
    Calls Tryz.prog 6 #[v] w fun e w' => e = .returned (.int .i64 (weakN l)) ∧ w = w' := by
  obtain ⟨A, cp, rfl, hc1, hc2, hcell⟩ := h.form
  have HC := Lib.hid hcell
  clear hcell h
  go_enter Tryz.func6, Tryz.ntmps6
  go_wp2_with fail
  go_loop [3, 4] (fun n i => ∃ k : Nat, k ≤ l.length ∧ i = .int .i64 k ∧ n = .int .i64 (weakN (l.take k))) (fun _ i => l.length - (intOf i).toNat)
  case atStart => exact ⟨0, Nat.zero_le _, rfl, rfl⟩
  case round =>
    obtain ⟨k, hk, rfl, rfl⟩ := hrel
    have hwl := weakN_le (l.take k)
    have hwl2 : (l.take k).length ≤ k := by rw [List.length_take]; omega
    by_cases hlt : k < l.length
    · obtain ⟨x, hx, htk, _⟩ := getElem?_of_lt hlt
      obtain ⟨b, o, rfl, hb, y0, y1, y2, y3, y4⟩ := HC.out k x hx
      have HW := Lib.hid (weakN_snoc htk)
      have g1 : (0 : Int) ≤ (k : Int) := by omega
      have g2 : (k : Int) < (l.length : Int) := by omega
      clear hx htk y1 y2 y3 y4
      generalize hN : weakN (l.take k) = N at *
      by_cases hkw : x.kind.toList = kWeaken
      · have t16 := kind_eq hkw
        have HA : Hid (weakA x = 1) := if_pos hkw
        unfold kWeaken at t16
        clear hkw
        go_wp2_with fail
        go_round
        case rel => exact ⟨k + 1, by omega, by go_num, by rw [HW.out, HA.out]; go_num⟩
        case measure => simp [intOf] <;> omega
      · have t16 := kind_ne hkw
        have HA : Hid (weakA x = 0) := if_neg hkw
        unfold kWeaken at t16
        clear hkw
        go_wp2_with fail
        go_round
        case rel => exact ⟨k + 1, by omega, by go_num, by rw [HW.out, HA.out]; rfl⟩
        case measure => simp [intOf] <;> omega
    · have e : l.take k = l := List.take_of_length_le (by omega)
      rw [e]
      have t13 : decide ((k : Int) < (l.length : Int)) = false := decide_eq_false (by omega)
      go_wp2_with fail
      go_ret
      exact ⟨rfl, rfl⟩
end Go.Proofs.YtaepdbkfaoiimabGreat
/- The contracts of filled and works. Conditions: none. -/
set_option linter.unusedVariables false
set_option linter.unusedSimpArgs false
namespace Go.Proofs.YtaepdbkfaoiimabGreat
open Go.RowKit
attribute [local go_sem ↓] eql_err eql_nilerr neq_err neq_nilerr guard_err guard_nilerr guardn_err guardn_nilerr
theorem FrQ.below {B q p : Nat} {F : List Nat} {w0 w w' : World} (hb : Below B w0 w) (hB : B ≤ w0.heap.size) (hf : Fr B (· ∈ q :: p :: F) w w') : Below B w0 w' := hb.trans (hf.below (Nat.le_trans hB hb.size))
/-- What a key is told, by the rows. -/
def toldR (r : List Ent) (key : ByteArray) : Value := .tuple #[.string ((getE r key).getD Ent.zero).v, .bool (getE r key).isSome, .nilIface]
theorem told_rows {c : Chip} {s : SM} (hi : Inv c s) (key : ByteArray) : toldV (s.get key) = toldR s.rows key := by
  unfold toldR
  rw [SM.get_rows hi]
  cases hg : s.get key with
  | none => rfl
  | some e =>
    cases heg : e.g
    · have e1 : (some e : Option Ent).filter (fun e => !e.g) = some e := by simp [heg]
      rw [e1]
      show Value.tuple #[.string e.v, .bool (true && !e.g), .nilIface] = .tuple #[.string e.v, .bool true, .nilIface]
      rw [heg]; rfl
    · have e1 : (some e : Option Ent).filter (fun e => !e.g) = none := by simp [heg]
      rw [e1]
      have hf : faultE e = 0 := by
        unfold SM.get at hg
        cases hm : getE s.mem key with
        | some x =>
          rw [hm] at hg
          cases hg
          obtain ⟨es, hlog⟩ := hi.body.log
          exact hlog.fault e (getE_mem hm).1
        | none =>
          rw [hm] at hg
          have hg : firstE s.tabs key = some e := hg
          unfold firstE at hg
          obtain ⟨l, hl, he⟩ := List.exists_of_findSome?_eq_some hg
          exact chkT_all (tabF_parts (tabsAt_ok hi.body.tabs l hl)).2.2 e (getE_mem he).1
      have hv : e.v = ByteArray.empty := by
        have h1 := (faultE_zero hf).2.1 heg
        rw [← toList_inj, h1]
        exact ((toList_nil ByteArray.empty).2 rfl).symm
      show Value.tuple #[.string e.v, .bool (true && !e.g), .nilIface] = .tuple #[.string ByteArray.empty, .bool false, .nilIface]
      rw [heg, hv]; rfl
end Go.Proofs.YtaepdbkfaoiimabGreat
/- What the statements about a filled store share. Conditions: none but those that each names. -/
set_option linter.unusedVariables false
set_option linter.unusedSimpArgs false
namespace Go.Proofs.YtaepdbkfaoiimabGreat
open Go.RowKit
theorem rows_alive (s : SM) : ∀ e ∈ s.rows, e.g = false := by
  intro e he
  have := (List.mem_filter.1 (show e ∈ (mergeAll (s.mem :: s.tabs)).filter (fun e => !e.g) from he)).2
  simpa using this
theorem getE_alive {l : List Ent} (h : ∀ e ∈ l, e.g = false) (key : ByteArray) : (getE l key).filter (fun e => !e.g) = getE l key := by
  cases hg : getE l key with
  | none => rfl
  | some e => simp [h e (getE_mem hg).1]
theorem get_rowsW {r l : List Ent} (hr : Rises r) (ha : ∀ e ∈ r, e.g = false) (h0 : checkR r l = 0) (key : ByteArray) : getE (rowsW r l) key = ((lastE l key).or (getE r key)).filter (fun e => !e.g) := by
  rw [rowsW, if_pos h0, get_live (rises_puts l hr), get_puts l hr]
theorem get_others {r l : List Ent} (hr : Rises r) (ha : ∀ e ∈ r, e.g = false) {key : ByteArray} (hk : ∀ e ∈ l, e.k ≠ key) : getE (rowsW r l) key = getE r key := by
  by_cases h0 : checkR r l = 0
  · rw [get_rowsW hr ha h0]
    have : lastE l key = none := by
      unfold lastE getE
      rw [List.find?_eq_none]
      intro e he
      have := hk e (List.mem_reverse.1 he)
      simpa using this
    rw [this, Option.none_or, getE_alive ha]
  · rw [rowsW, if_neg h0]
theorem ents_up {B B' : Nat} {w : World} {v : Value} {l : List Ent} (h : Ents B w v l) (hB : B ≤ B') : Ents B' w v l := ⟨Rd.mono h.1 hB, h.2⟩
theorem acts_below {B : Nat} {w w' : World} {v : Value} {l : List Act} (h : ActsR B w v l) (hb : Below w.heap.size w w') : ActsR B w' v l := ⟨h.1.keep fun k hk hlt => hb.block k hlt, fun x hx => ⟨(h.2 x hx).1.below hb, (h.2 x hx).2⟩⟩
section
variable {B q p k j : Nat} {c : Chip} {s : SM} {F : List Nat} {w : World}
theorem get_st (h : StS B w q p k j c s F) (key : ByteArray) (hk : key.size ≤ 9223372036854775807) : Calls Tryz.prog 18 #[.pointer (some ⟨q, 0, none⟩), .string key] w fun e w' =>
    e = .returned (.tuple #[.string ((getE s.rows key).getD Ent.zero).v, .bool (getE s.rows key).isSome, .nilIface]) ∧ StS B w' q p k j c s F ∧ Below w.heap.size w w' := by
  have := sget_any B q p c s F key w h.st h.ch h.ok.inv hk
  rw [told_rows h.ok.inv] at this
  exact this.mono fun e w' ⟨h1, h2⟩ => ⟨h1, h.below h2, h2⟩
theorem write_st (h : StS B w q p k j c s F) (hk : k ≤ 1000) {v : Value} {l : List Ent} (hl : Ents B w v l) : Calls Tryz.prog 13 #[.pointer (some ⟨q, 0, none⟩), v] w (DoP B q p (k + 1) j F w (rowsW s.rows l) (checkR s.rows l)) := by
  obtain ⟨c1, s1, e1, g1, r1⟩ := write_good h.ok hk l
  have hw := write_any B q p c s F v l w h.st h.ch h.ok.inv hl (by have := h.ok.ep; omega)
  rw [e1] at hw
  refine hw.mono ?_
  intro e w' hp
  obtain ⟨F', hs, hF, hf⟩ := StS.post (k := k) (j := j) (c := c) (s := s) hp g1
  exact ⟨c1, s1, F', hp.1, hs, r1, hF, hf⟩
theorem DoP.st {k' j' n : Nat} {r : List Ent} {w0 w' : World} {e : Ending} (hb : Below B w0 w) (hB : B ≤ w0.heap.size) (h : DoP B q p k' j' F w r n e w') : ∃ c' s' F', e = .returned (errV n) ∧ StS B w' q p k' j' c' s' F' ∧ s'.rows = r ∧ Below B w0 w' := by
  obtain ⟨c', s', F', h1, h2, h3, h4, h5⟩ := h
  exact ⟨c', s', F', h1, h2, h3, FrQ.below hb hB h5⟩
theorem StS.rise (h : StS B w q p k j c s F) : Rises s.rows := rows_rise h.ok.inv
end
end Go.Proofs.YtaepdbkfaoiimabGreat
/- The contracts of Flush, Compact, Open and Manifest of a store that has done so many acts. Conditions: none but those that each names. -/
set_option linter.unusedVariables false
set_option linter.unusedSimpArgs false
namespace Go.Proofs.YtaepdbkfaoiimabGreat
open Go.RowKit
abbrev eKX : Ent := ⟨⟨#[107]⟩, ⟨#[120]⟩, false⟩
theorem kx_check : checkR [] [eKX] = 0 := by decide +kernel
theorem kx_rows : rowsW [] [eKX] = [eKX] := by decide +kernel
theorem kx_ents (B : Nat) (w : World) : Ents B (w.alloc (.cells #[.string ⟨#[107]⟩, .string ⟨#[120]⟩, .bool false] 49)) (.slice (some ⟨w.heap.size, 0, none⟩) 1 1) [eKX] :=
  ⟨rd_lit3 _ w _ rfl ⟨#[107]⟩ ⟨#[120]⟩ false, by intro e he; simp at he; subst he; exact ⟨by decide, by decide⟩⟩
section
variable {B q p k j : Nat} {c : Chip} {s : SM} {F : List Nat} {w : World}
theorem StS.drawN (h : StS B w q p k j c s F) (n : Nat) : StS B (w.drewN n) q p k j c s F := ⟨h.st.drewN n, h.ch.drewN n, h.ok⟩
theorem StS.mono {k' j' : Nat} (h : StS B w q p k j c s F) (hk : k ≤ k') (hj : j ≤ j') : StS B w q p k' j' c s F := ⟨h.st, h.ch, h.ok.mono hk hj⟩
theorem flush_st (h : StS B w q p k j c s F) (hk : k ≤ 1000) : Calls Tryz.prog 15 #[.pointer (some ⟨q, 0, none⟩)] w fun e w' => ∃ c' s' F', e = .returned .nilIface ∧ StS B w' q p (k + 1) j c' s' F' ∧ s'.rows = s.rows ∧ (∀ b ∈ F', b ∈ F ∨ w.heap.size ≤ b) ∧ Fr B (· ∈ q :: p :: F) w w' ∧
    s'.mem = [] ∧ (∃ g : Nat, s'.m.log = g ∧ (c'.b g).l = [] ∧ (c.b g).bad = false) ∧ (∀ b ∈ s'.m.nw, b ∈ s.m.nw ∨ (c.b b.toNat).bad = false) := by
  obtain ⟨c1, s1, e1, g1, r1, m1, ⟨g, q1, q2, q3, q4⟩, v1⟩ := flush_good h.ok hk
  have hw := flush_any B q p c s F w h.st h.ch h.ok.inv (by have := h.ok.ep; omega)
  rw [e1] at hw
  refine hw.mono ?_
  intro e w' hp
  obtain ⟨F', hs, hF, hf⟩ := StS.post (k := k) (j := j) (c := c) (s := s) hp g1
  exact ⟨c1, s1, F', hp.1, hs, r1, hF, hf, m1, ⟨g, q1, q2, q4⟩, v1⟩
theorem comp_st (h : StS B w q p k j c s F) (hk : k ≤ 1000) : Calls Tryz.prog 16 #[.pointer (some ⟨q, 0, none⟩)] w fun e w' => ∃ c' s' F', e = .returned .nilIface ∧ StS B w' q p (k + 1) j c' s' F' ∧ s'.rows = s.rows ∧ (∀ b ∈ F', b ∈ F ∨ w.heap.size ≤ b) ∧ Fr B (· ∈ q :: p :: F) w w' ∧
    s'.mem = s.mem ∧ s'.m.nw = [] ∧ s'.tabs = parts 14 (liveE (mergeAll s.tabs)) := by
  obtain ⟨c1, s1, e1, g1, r1, m1, n1, l1, t1⟩ := comp_good h.ok hk
  have hw := compact_any B q p c s F w h.st h.ch h.ok.inv
  rw [e1] at hw
  refine hw.mono ?_
  intro e w' hp
  obtain ⟨F', hs, hF, hf⟩ := StS.post (k := k) (j := j) (c := c) (s := s) hp g1
  exact ⟨c1, s1, F', hp.1, hs, r1, hF, hf, m1, n1, t1⟩
theorem weaken_st (h : StS B w q p k j c s F) (hj : j ≤ 5) (b : Int) : Calls Tryz.prog 17 #[.pointer (some ⟨p, 0, none⟩), .int .i64 b] w fun e w' => e = .returned (errV (c.weaken b).2) ∧ StS B w' q p (k + 1) (j + 1) (c.weaken b).1 s F ∧ Fr B (· ∈ q :: p :: F) w w' :=
  (weaken_any B p c b w h.ch).mono fun e w' ⟨h1, h2, h3⟩ => ⟨h1, ⟨h.st.chip h.ch h3, h2, h.ok.weaken hj b⟩, h3.mono (fun b _ e => by subst e; simp)⟩
theorem open_st (h : StS B w q p k j c s F) : Calls Tryz.prog 7 #[.pointer (some ⟨p, 0, none⟩)] w fun e w' => ∃ q2 F2, e = .returned (.tuple #[.pointer (some ⟨q2, 0, none⟩), .nilIface]) ∧ StS B w' q2 p k j c s F2 ∧ Below w.heap.size w w' ∧ w.heap.size ≤ q2 ∧ ∀ b ∈ F2, w.heap.size ≤ b :=
  (open_any B p c s w h.ch h.ok.inv).mono fun e w' ⟨q2, F2, h1, h2, h3, h4, h5⟩ => ⟨q2, F2, h1, ⟨h2, h.ch.below h3, h.ok⟩, h3, h4, h5⟩
end
end Go.Proofs.YtaepdbkfaoiimabGreat
