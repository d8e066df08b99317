/- The frame of a law of a seat whose rows list variables: a walk that returns true and turns nothing that was there gives the row's statement. The walk is handed the world's shape. Conditions: none. -/
import Derived.Test.YtaepdbkfaoiimabGreatDoorClose
import Derived.HandedShaped
import Derived.Lay
set_option linter.unusedVariables false
set_option linter.unusedSimpArgs false
namespace Go.Proofs.YtaepdbkfaoiimabGreatDoor
open Go.ChangeShapes Go.WideShapes Go.ChangeAt Go.RowKit Go.WideElems
set_option maxRecDepth 100000 in
theorem close_laidH (s : ChangeSpec) (F : FuncId) (fn : Func) (X : World → Prop) (os : Os) (started : os.Started) (H : Type) (enc : TypeId × Value → H)
    (hni : Tryz.checked.prog.inits.idxOf? F = none) (hfn : Tryz.checked.prog.funcs[F]? = some fn) (hres : fn.resultTypes = #[4]) (hv : s.vars = [])
    (hs : ∀ ds : List (DataW H), ds.length = fn.params.toList.length → s.fn H ds = { results := [.lit (.bool true)], args := ds })
    (hread0 : (fn.params.toList.all fun t => Tryz.prog.readableRec t && decide (t < Tryz.prog.types.size)) = true)
    (witness : ∃ (w : World) (tape : Tape) (i : Input), w.os = os ∧ (w.forCall tape i).Shaped Tryz.checked.prog ∧ i.vars = [] ∧ Input.okWide Tryz.checked.prog (w.forCall tape i) .any w.heap.size F i ∧
      ((s.pre enc Tryz.checked.prog fn [] false (w.forCall tape i).memory i.args ∧ X (w.forCall tape i).memory) ∧ sizedMet enc Tryz.checked.prog fn (OpenSpec.ofChange s) false (w.forCall tape i).memory i.args) ∧ Assume.holds {} Tryz.checked.prog (lone (Frame.enter Tryz.checked.prog F i.args .normal) [] (w.forCall tape i)))
    (walk : ∀ (W : World) (base : Nat) (args : Array Value) (ds : List (DataW H)) (p : List MemPlace), W.ShapedOpen Tryz.prog →
      (∀ (j : Nat) t v, fn.params[j]? = some t → args[j]? = some v → Value.okWide Tryz.prog W .any base t v) →
      DataW.TrodAll enc Tryz.prog W 0 (fun _ => true) true fn.params.toList args.toList ds p →
      Calls Tryz.prog F args W fun e W' => e = .returned (.bool true) ∧ Below W.heap.size W W') :
    ReturnsInHanded {} Tryz.checked os F .any (fun w args => (s.pre enc Tryz.prog fn [] false w args ∧ X w) ∧ sizedMet enc Tryz.prog fn (OpenSpec.ofChange s) false w args) (s.post enc Tryz.prog fn false true false false) := by
  have hread : ∀ t ∈ fn.params.toList, Tryz.prog.readableRec t = true ∧ t < Tryz.prog.types.size := fun t ht => by
    have := List.all_eq_true.1 hread0 t ht
    simp only [Bool.and_eq_true, decide_eq_true_eq] at this
    exact this
  refine returnsInHanded_of_calls (C := Tryz.checked) close_own started hni witness ?_
  intro w tape i _ hsh _ hok hpre hholds
  obtain ⟨_, _, _, fn', hfn', _, _, _, _, hval0⟩ := hok
  have e : fn' = fn := Option.some.inj (hfn'.symm.trans hfn)
  subst e
  obtain ⟨⟨⟨ds, gs, before, hw0, hc⟩, hx⟩, hz⟩ := hpre
  have hW : DataW.Whole enc Tryz.prog fn'.params.toList s.vars false (w.forCall tape i) i.args.toList ds gs before := DataW.Whole.of_heap (w' := w.forCall tape i) (by rfl) hw0
  have hval : ∀ (j : Nat) t v, fn'.params[j]? = some t → i.args[j]? = some v → Value.okWide Tryz.prog (w.forCall tape i) .any w.heap.size t v := hval0
  have hsh' : (w.forCall tape i).ShapedOpen Tryz.prog := hsh
  have key : Calls Tryz.prog F i.args (w.forCall tape i) fun e W' => ∃ v, e = .returned v ∧ s.post enc Tryz.prog fn' false true false false (w.forCall tape i) i.args v W' := by
    clear hholds hw0 hc hx hz hval0 hsh witness
    generalize w.forCall tape i = W at *
    generalize i.args = args at *
    have hW' := hW
    have hlt := hW.lt
    obtain ⟨p, q, hA, hV, rfl, _, _⟩ := hW
    rw [hv] at hV
    obtain ⟨rfl, rfl⟩ := trodVars_none hV
    simp only [List.append_nil] at hW' hlt
    refine (walk W _ args ds p hsh' hval hA).mono ?_
    rintro e W' ⟨rfl, hb⟩
    have hd := close_length _ _ _ _ hA
    have hsf := hs ds hd
    refine ⟨_, rfl, ds, [], p, [], p, [], hW', ?_, ?_, ?_, hb.frame _, fun h => by cases h⟩
    · rw [List.append_nil, hsf, hres]
      exact trodAll_mk1 (shut_bool Tryz.underlying4 true)
    · rw [List.append_nil, hsf]
      exact close_trodAll hb _ _ _ _ hread hA hlt
    · rw [hv, List.append_nil, hsf]
      exact rfl
  refine key.mono fun e W' ⟨v, he, hp⟩ => ?_
  subst he
  exact ChangeSpec.post_blind hp
set_option maxRecDepth 100000 in
theorem close_laidX (s : ChangeSpec) (F : FuncId) (fn : Func) (X : World → Prop) (os : Os) (started : os.Started) (H : Type) (enc : TypeId × Value → H)
    (hni : Tryz.checked.prog.inits.idxOf? F = none) (hfn : Tryz.checked.prog.funcs[F]? = some fn) (hres : fn.resultTypes = #[4]) (hv : s.vars = [])
    (hs : ∀ ds : List (DataW H), ds.length = fn.params.toList.length → s.fn H ds = { results := [.lit (.bool true)], args := ds })
    (hread0 : (fn.params.toList.all fun t => Tryz.prog.readableRec t && decide (t < Tryz.prog.types.size)) = true)
    (witness : ∃ (w : World) (tape : Tape) (i : Input), w.os = os ∧ (w.forCall tape i).Shaped Tryz.checked.prog ∧ i.vars = [] ∧ Input.okWide Tryz.checked.prog (w.forCall tape i) .any w.heap.size F i ∧
      ((s.pre enc Tryz.checked.prog fn [] false (w.forCall tape i).memory i.args ∧ X (w.forCall tape i).memory) ∧ sizedMet enc Tryz.checked.prog fn (OpenSpec.ofChange s) false (w.forCall tape i).memory i.args) ∧ Assume.holds {} Tryz.checked.prog (lone (Frame.enter Tryz.checked.prog F i.args .normal) [] (w.forCall tape i)))
    (hX : ∀ {w w' : World}, w.heap = w'.heap → X w → X w')
    (walk : ∀ (W : World) (base : Nat) (args : Array Value) (ds : List (DataW H)) (p : List MemPlace), W.ShapedOpen Tryz.prog → X W →
      (∀ (j : Nat) t v, fn.params[j]? = some t → args[j]? = some v → Value.okWide Tryz.prog W .any base t v) →
      DataW.TrodAll enc Tryz.prog W 0 (fun _ => true) true fn.params.toList args.toList ds p →
      Calls Tryz.prog F args W fun e W' => e = .returned (.bool true) ∧ Below W.heap.size W W') :
    ReturnsInHanded {} Tryz.checked os F .any (fun w args => (s.pre enc Tryz.prog fn [] false w args ∧ X w) ∧ sizedMet enc Tryz.prog fn (OpenSpec.ofChange s) false w args) (s.post enc Tryz.prog fn false true false false) := by
  have hread : ∀ t ∈ fn.params.toList, Tryz.prog.readableRec t = true ∧ t < Tryz.prog.types.size := fun t ht => by
    have := List.all_eq_true.1 hread0 t ht
    simp only [Bool.and_eq_true, decide_eq_true_eq] at this
    exact this
  refine returnsInHanded_of_calls (C := Tryz.checked) close_own started hni witness ?_
  intro w tape i _ hsh _ hok hpre hholds
  obtain ⟨_, _, _, fn', hfn', _, _, _, _, hval0⟩ := hok
  have e : fn' = fn := Option.some.inj (hfn'.symm.trans hfn)
  subst e
  obtain ⟨⟨⟨ds, gs, before, hw0, hc⟩, hx⟩, hz⟩ := hpre
  have hW : DataW.Whole enc Tryz.prog fn'.params.toList s.vars false (w.forCall tape i) i.args.toList ds gs before := DataW.Whole.of_heap (w' := w.forCall tape i) (by rfl) hw0
  have hval : ∀ (j : Nat) t v, fn'.params[j]? = some t → i.args[j]? = some v → Value.okWide Tryz.prog (w.forCall tape i) .any w.heap.size t v := hval0
  have hsh' : (w.forCall tape i).ShapedOpen Tryz.prog := hsh
  have hx' : X (w.forCall tape i) := hX (w := (w.forCall tape i).memory) (w' := w.forCall tape i) rfl hx
  have key : Calls Tryz.prog F i.args (w.forCall tape i) fun e W' => ∃ v, e = .returned v ∧ s.post enc Tryz.prog fn' false true false false (w.forCall tape i) i.args v W' := by
    clear hholds hw0 hc hx hz hval0 hsh witness
    generalize w.forCall tape i = W at *
    generalize i.args = args at *
    have hW' := hW
    have hlt := hW.lt
    obtain ⟨p, q, hA, hV, rfl, _, _⟩ := hW
    rw [hv] at hV
    obtain ⟨rfl, rfl⟩ := trodVars_none hV
    simp only [List.append_nil] at hW' hlt
    refine (walk W _ args ds p hsh' hx' hval hA).mono ?_
    rintro e W' ⟨rfl, hb⟩
    have hd := close_length _ _ _ _ hA
    have hsf := hs ds hd
    refine ⟨_, rfl, ds, [], p, [], p, [], hW', ?_, ?_, ?_, hb.frame _, fun h => by cases h⟩
    · rw [List.append_nil, hsf, hres]
      exact trodAll_mk1 (shut_bool Tryz.underlying4 true)
    · rw [List.append_nil, hsf]
      exact close_trodAll hb _ _ _ _ hread hA hlt
    · rw [hv, List.append_nil, hsf]
      exact rfl
  refine key.mono fun e W' ⟨v, he, hp⟩ => ?_
  subst he
  exact ChangeSpec.post_blind hp
end Go.Proofs.YtaepdbkfaoiimabGreatDoor
