/- The arguments of a law, opened: manifests and acts. Conditions: none. -/
import Derived.Test.YtaepdbkfaoiimaaOpen
import Derived.Test.YtaepdbkfaoiimaaMan
set_option linter.unusedVariables false
namespace Go.Proofs.Ytaepdbkfaoiimaa
open Go.ChangeShapes Go.WideShapes Go.ChangeAt Go.RowKit Go.WideMaps Go.WideElems
open Go.ChangeMaps (open_string shut_string)

theorem lit64 {n : Int} (h : (Lit.int .i64 n).wf = true) : -9223372036854775808 ≤ n ∧ n ≤ 9223372036854775807 := by
  simp [Lit.wf, IntKind.min, IntKind.max, IntKind.signed, IntKind.bits] at h
  omega
set_option maxRecDepth 100000 in
theorem ints_trod {H : Type} {enc : TypeId × Value → H} {W : World} {fuel : Nat} {v : Value} {x : DataW H × List MemPlace} (h : DataW.trod enc Try.prog W 0 (fun _ => true) true fuel 41 [v] = some x) : ∃ l, Ints W.heap.size W v l := by
  obtain ⟨l, h1, _⟩ := slice_trod Try.underlying41 (by kernel_rfl) (show 0 < 1 by omega) (fun n : Int => [.int .i64 n]) (fun _ => rfl) (fun _ => True)
    (fun n cs y hy => by
      obtain ⟨n', h, _, _⟩ := DataW.trod_int Try.underlying3 hy
      exact ⟨n', h, trivial⟩) h
  exact ⟨l, by rw [flat_one] at h1; exact h1⟩
/-- What a manifest's numbers are. -/
def ManOk (m : Man) : Prop := -9223372036854775808 ≤ m.ep ∧ m.ep ≤ 9223372036854775807 ∧ -9223372036854775808 ≤ m.log ∧ m.log ≤ 9223372036854775807
set_option maxRecDepth 100000 in
theorem man_trod {H : Type} {enc : TypeId × Value → H} {W : World} {n : Nat} {cs : List Value} {y : DataW H × List MemPlace} (h : DataW.trod enc Try.prog W 0 (fun _ => true) true n 91 cs = some y) :
    ∃ (m : Man) (vn vo : Value), cs = [.int .i64 m.ep, .int .i64 m.log, vn, vo] ∧ Ints W.heap.size W vn m.nw ∧ Ints W.heap.size W vo m.od ∧ ManOk m := by
  have hs := Try.underlying91
  obtain ⟨ys, n', _, _, hlen, hyl, hf⟩ := DataW.trod_struct hs h
  have c9 : Try.prog.cellsOf 3 = 1 := by kernel_rfl
  have c4 : Try.prog.cellsOf 41 = 1 := by kernel_rfl
  have c35 : Try.prog.cellsOf 91 = 4 := by kernel_rfl
  have h0 : DataW.trod enc Try.prog W 0 _ true n' 3 ((cs.drop 0).take (Try.prog.cellsOf 3)) = ys[0]? := hf 0 _ rfl
  have h1 : DataW.trod enc Try.prog W 0 _ true n' 3 ((cs.drop 1).take (Try.prog.cellsOf 3)) = ys[1]? := hf 1 _ rfl
  have h2 : DataW.trod enc Try.prog W 0 _ true n' 41 ((cs.drop 2).take (Try.prog.cellsOf 41)) = ys[2]? := hf 2 _ rfl
  have h3 : DataW.trod enc Try.prog W 0 _ true n' 41 ((cs.drop 3).take (Try.prog.cellsOf 41)) = ys[3]? := hf 3 _ rfl
  rw [c35] at hlen
  rw [c9] at h0 h1
  rw [c4] at h2 h3
  match cs, hlen with
  | [v0, v1, v2, v3], _ =>
    have hl4 : ys.length = 4 := hyl
    match ys, hl4 with
    | [y0, y1, y2, y3], _ =>
      obtain ⟨a, e0, _, b0⟩ := DataW.trod_int Try.underlying3 (show DataW.trod enc Try.prog W 0 _ true n' _ [v0] = some y0 from h0)
      obtain ⟨b, e1, _, b1⟩ := DataW.trod_int Try.underlying3 (show DataW.trod enc Try.prog W 0 _ true n' _ [v1] = some y1 from h1)
      obtain ⟨l2, q2⟩ := ints_trod (show DataW.trod enc Try.prog W 0 _ true n' _ [v2] = some y2 from h2)
      obtain ⟨l3, q3⟩ := ints_trod (show DataW.trod enc Try.prog W 0 _ true n' _ [v3] = some y3 from h3)
      simp at e0 e1
      subst e0; subst e1
      exact ⟨⟨a, b, l2, l3⟩, v2, v3, rfl, q2, q3, (lit64 b0).1, (lit64 b0).2, (lit64 b1).1, (lit64 b1).2⟩
set_option maxRecDepth 100000 in
theorem man_of {H : Type} {enc : TypeId × Value → H} {W : World} {base : Nat} {v : Value} {d : DataW H} {p : List MemPlace}
    (hval : Value.okWide Try.prog W .any base 91 v) (h : DataW.Trod enc Try.prog W 0 (fun _ => true) true 91 v d p) : ∃ m, ManV W.heap.size W v m ∧ ManOk m := by
  obtain ⟨cs, rfl, _⟩ := okWide_struct Try.underlying91 hval
  obtain ⟨fuel, hf⟩ := h
  obtain ⟨m, vn, vo, e, h2, h3, h4⟩ := man_trod hf
  have e' : cs = #[.int .i64 m.ep, .int .i64 m.log, vn, vo] := by
    have : (Value.agg cs).cells.toList = cs.toList := rfl
    rw [this] at e
    exact Array.toList_inj.1 e
  subst e'
  exact ⟨m, ⟨vn, vo, rfl, h2, h3⟩, h4⟩
/-- A manifest with the slices as they stand. -/
structure ManX where
  m : Man
  vn : Value
  vo : Value
def ManX.cells (x : ManX) : List Value := [.int .i64 x.m.ep, .int .i64 x.m.log, x.vn, x.vo]
def MansR (B : Nat) (w : World) (v : Value) (l : List ManX) : Prop := Rd B 91 4 w v l.length (l.flatMap ManX.cells) ∧ ∀ x ∈ l, Ints B w x.vn x.m.nw ∧ Ints B w x.vo x.m.od ∧ ManOk x.m
set_option maxRecDepth 100000 in
theorem mans_of {H : Type} {enc : TypeId × Value → H} {W : World} {base : Nat} {v : Value} {d : DataW H} {p : List MemPlace}
    (hval : Value.okWide Try.prog W .any base 92 v) (h : DataW.Trod enc Try.prog W 0 (fun _ => true) true 92 v d p) : ∃ l, MansR W.heap.size W v l := by
  obtain ⟨a0, len, cap, rfl⟩ := okWide_slice Try.underlying92 hval
  obtain ⟨fuel, hf⟩ := h
  obtain ⟨l, h1, h2⟩ := slice_trod Try.underlying92 (by kernel_rfl) (show 0 < 4 by omega) ManX.cells (fun _ => rfl) (fun x => Ints W.heap.size W x.vn x.m.nw ∧ Ints W.heap.size W x.vo x.m.od ∧ ManOk x.m)
    (fun n cs y hy => by
      obtain ⟨m, vn, vo, e, h2, h3, h4⟩ := man_trod hy
      exact ⟨⟨m, vn, vo⟩, e, h2, h3, h4⟩) hf
  exact ⟨l, h1, h2⟩
/-- An act, with its slice as it stands. -/
structure Act where
  kind : ByteArray
  s : ByteArray
  a : Int
  b : Int
  v : Value
  l : List Ent
def Act.cells (x : Act) : List Value := [.string x.kind, .string x.s, .int .i64 x.a, .int .i64 x.b, x.v]
def ActOk (x : Act) : Prop := x.kind.size ≤ 9223372036854775807 ∧ x.s.size ≤ 9223372036854775807 ∧ -9223372036854775808 ≤ x.a ∧ x.a ≤ 9223372036854775807 ∧ -9223372036854775808 ≤ x.b ∧ x.b ≤ 9223372036854775807
def ActsR (B : Nat) (w : World) (v : Value) (l : List Act) : Prop := Rd B 74 5 w v l.length (l.flatMap Act.cells) ∧ ∀ x ∈ l, Ents B w x.v x.l ∧ ActOk x
set_option maxRecDepth 100000 in
theorem act_trod {H : Type} {enc : TypeId × Value → H} {W : World} {n : Nat} {cs : List Value} {y : DataW H × List MemPlace} (h : DataW.trod enc Try.prog W 0 (fun _ => true) true n 74 cs = some y) :
    ∃ x : Act, cs = x.cells ∧ Ents W.heap.size W x.v x.l ∧ ActOk x := by
  have hs := Try.underlying74
  obtain ⟨ys, n', _, _, hlen, hyl, hf⟩ := DataW.trod_struct hs h
  have c9 : Try.prog.cellsOf 3 = 1 := by kernel_rfl
  have c4 : Try.prog.cellsOf 32 = 1 := by kernel_rfl
  have cs1 : Try.prog.cellsOf 9 = 1 := by kernel_rfl
  have c35 : Try.prog.cellsOf 74 = 5 := by kernel_rfl
  have h0 : DataW.trod enc Try.prog W 0 _ true n' 9 ((cs.drop 0).take (Try.prog.cellsOf 9)) = ys[0]? := hf 0 _ rfl
  have h1 : DataW.trod enc Try.prog W 0 _ true n' 9 ((cs.drop 1).take (Try.prog.cellsOf 9)) = ys[1]? := hf 1 _ rfl
  have h2 : DataW.trod enc Try.prog W 0 _ true n' 3 ((cs.drop 2).take (Try.prog.cellsOf 3)) = ys[2]? := hf 2 _ rfl
  have h3 : DataW.trod enc Try.prog W 0 _ true n' 3 ((cs.drop 3).take (Try.prog.cellsOf 3)) = ys[3]? := hf 3 _ rfl
  have h4 : DataW.trod enc Try.prog W 0 _ true n' 32 ((cs.drop 4).take (Try.prog.cellsOf 32)) = ys[4]? := hf 4 _ rfl
  rw [c35] at hlen
  rw [cs1] at h0 h1
  rw [c9] at h2 h3
  rw [c4] at h4
  match cs, hlen with
  | [v0, v1, v2, v3, v4], _ =>
    have hl5 : ys.length = 5 := hyl
    match ys, hl5 with
    | [y0, y1, y2, y3, y4], _ =>
      obtain ⟨s0, e0, _, b0⟩ := DataW.trod_string Try.underlying9 (show DataW.trod enc Try.prog W 0 _ true n' _ [v0] = some y0 from h0)
      obtain ⟨s1, e1, _, b1⟩ := DataW.trod_string Try.underlying9 (show DataW.trod enc Try.prog W 0 _ true n' _ [v1] = some y1 from h1)
      obtain ⟨a, e2, _, b2⟩ := DataW.trod_int Try.underlying3 (show DataW.trod enc Try.prog W 0 _ true n' _ [v2] = some y2 from h2)
      obtain ⟨b, e3, _, b3⟩ := DataW.trod_int Try.underlying3 (show DataW.trod enc Try.prog W 0 _ true n' _ [v3] = some y3 from h3)
      obtain ⟨l4, q4⟩ := ents_trod (show DataW.trod enc Try.prog W 0 _ true n' _ [v4] = some y4 from h4)
      simp at e0 e1 e2 e3
      subst e0; subst e1; subst e2; subst e3
      unfold maxLen at b0 b1
      exact ⟨⟨s0, s1, a, b, v4, l4⟩, rfl, q4, by show s0.size ≤ _; omega, by show s1.size ≤ _; omega, (lit64 b2).1, (lit64 b2).2, (lit64 b3).1, (lit64 b3).2⟩
set_option maxRecDepth 100000 in
theorem act_of {H : Type} {enc : TypeId × Value → H} {W : World} {base : Nat} {v : Value} {d : DataW H} {p : List MemPlace}
    (hval : Value.okWide Try.prog W .any base 74 v) (h : DataW.Trod enc Try.prog W 0 (fun _ => true) true 74 v d p) : ∃ x : Act, v = .agg x.cells.toArray ∧ Ents W.heap.size W x.v x.l ∧ ActOk x := by
  obtain ⟨cs, rfl, _⟩ := okWide_struct Try.underlying74 hval
  obtain ⟨fuel, hf⟩ := h
  obtain ⟨x, e, h2, h3⟩ := act_trod hf
  have e' : cs = x.cells.toArray := by
    have : (Value.agg cs).cells.toList = cs.toList := rfl
    rw [this] at e
    exact Array.toList_inj.1 (by rw [e])
  subst e'
  exact ⟨x, rfl, h2, h3⟩
set_option maxRecDepth 100000 in
theorem acts_of {H : Type} {enc : TypeId × Value → H} {W : World} {base : Nat} {v : Value} {d : DataW H} {p : List MemPlace}
    (hval : Value.okWide Try.prog W .any base 67 v) (h : DataW.Trod enc Try.prog W 0 (fun _ => true) true 67 v d p) : ∃ l, ActsR W.heap.size W v l := by
  obtain ⟨a0, len, cap, rfl⟩ := okWide_slice Try.underlying67 hval
  obtain ⟨fuel, hf⟩ := h
  obtain ⟨l, h1, h2⟩ := slice_trod Try.underlying67 (by kernel_rfl) (show 0 < 5 by omega) Act.cells (fun _ => rfl) (fun x => Ents W.heap.size W x.v x.l ∧ ActOk x)
    (fun n cs y hy => by
      obtain ⟨x, e, h2, h3⟩ := act_trod hy
      exact ⟨x, e, h2, h3⟩) hf
  exact ⟨l, h1, h2⟩
end Go.Proofs.Ytaepdbkfaoiimaa
