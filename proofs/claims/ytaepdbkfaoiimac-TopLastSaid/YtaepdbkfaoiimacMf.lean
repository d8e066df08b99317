/- Several texts of this proof, one behind the other: walks and plain laws that the statements rest on. Conditions: none but those that each lemma names. -/
import Derived.Test.YtaepdbkfaoiimacMe
import Derived.Test.YtaepdbkfaoiimacRows
import Derived.ProofKit
import Derived.JoinedOf
import Derived.JoinedAt
import Derived.Below
import Derived.Carry
import Derived.SliceStrings
import Derived.OpenShut
import Derived.Deep.Slices
import Derived.Lib.SmallJoins
/- Noting manifests on a chip, from a new one on. Plain laws; conditions: none but those that each names. -/
set_option linter.unusedVariables false
set_option linter.unusedSimpArgs false
namespace Go.Proofs.Ytaepdbkfaoiimac
open Go.RowKit

theorem Head.found {c : Chip} {m : Man} {a : Int} (h : Head c m a) (hd : c.down = false) : findR c = (m, a, 0) := by
  unfold findR
  rw [hd, if_neg (by simp), h.find]
  have := h.at_
  rw [if_neg (by simp only; omega)]
theorem note_new {n : Man} (hf : n.fault = 0) : ∃ c1, noteR Chip.new 0 n = (c1, 0, 0) ∧ CWf c1 ∧ c1.down = false ∧ c1.fuse < 0 ∧ Head c1 n 0 := by
  obtain ⟨c2, n2, e2, s2, f2, g2⟩ := write_calm (c := Chip.new) (b := 0) (d := n.bytes) (by decide) rfl rfl rfl (mansize hf) (by simp [Chip.new])
  have w2 : CWf c2 := by have := CWf.new.write_ ((0 : Nat) : Int) n.bytes; rw [e2] at this; exact this
  obtain ⟨hn, hfu⟩ := f2 (by decide)
  subst hn
  rcases g2 with ⟨_, d2, p2, l2, x2⟩ | ⟨h, _⟩
  · refine ⟨c2, ?_, w2, d2, hfu, ?_, .inl rfl⟩
    · unfold noteR
      rw [if_neg (by simpa using hf), if_neg (by simp [Chip.new])]
      rw [show ((0 : Nat) : Int) = 0 from rfl] at e2
      rw [e2]
      simp
    · unfold findM
      rw [l2, s2.other 1 (by decide)]
      show [].foldl (fStep 1) ([⟨pad n.bytes, false⟩].foldl (fStep 0) (Man.zero, -1)) = _
      rw [List.foldl_nil, List.foldl_cons, List.foldl_nil, fStep_eq, man_sheet hf]
      have := (fault_zero.1 hf).1
      show (if (0 : Int) < n.ep then (n, (0 : Int)) else (Man.zero, -1)) = (n, 0)
      rw [if_pos (by omega)]
  · cases h
/-- A chip, maybe new, with the newest manifest. -/
structure Sit (c : Chip) (m : Man) (a : Int) : Prop where
  wf : CWf c
  up : c.down = false
  calm : c.fuse < 0
  what : (c = Chip.new ∧ m = Man.zero ∧ a = 0) ∨ Head c m a
theorem Sit.new : Sit Chip.new Man.zero 0 := ⟨CWf.new, rfl, by decide, .inl ⟨rfl, rfl, rfl⟩⟩
theorem Sit.at_ {c : Chip} {m : Man} {a : Int} (h : Sit c m a) : a = 0 ∨ a = 1 := by
  rcases h.what with ⟨_, _, h⟩ | h
  · exact .inl h
  · exact h.at_
theorem Sit.note {c : Chip} {m n : Man} {a : Int} (h : Sit c m a) (hf : n.fault = 0) (hn : m.ep < n.ep) : ∃ c' a', noteR c a n = (c', a', 0) ∧ Sit c' n a' ∧ Head c' n a' := by
  rcases h.what with ⟨rfl, rfl, rfl⟩ | hh
  · obtain ⟨c1, e, w1, d1, f1, h1⟩ := note_new hf
    exact ⟨c1, 0, e, ⟨w1, d1, f1, .inr h1⟩, h1⟩
  · obtain ⟨c', a', k, h1, h2, h3, h4, h5, h6⟩ := note_calm h.wf h.up hh hf hn
    obtain ⟨hk, hfu⟩ := h5 h.calm
    subst hk
    rcases h6 with ⟨_, h7, h8⟩ | ⟨h, _⟩
    · exact ⟨c', a', h1, ⟨h2, h7, hfu, .inr h8⟩, h8⟩
    · cases h
theorem note_fault {c : Chip} {a : Int} {n : Man} (hf : n.fault ≠ 0) : noteR c a n = (c, 0, n.fault) := if_pos hf
/-- What is found behind a restart. -/
def Back (c : Chip) (how : Int) (m n : Man) : Prop := ∃ x a, (x = m ∨ x = n) ∧ Head (c.restart how) x a
theorem back_calm {c : Chip} {m : Man} {a : Int} (how : Int) (hc : CWf c) (hd : c.down = false) (h : Head c m a) (n : Man) : Back c how m n := by
  have hp : c.pend = none := by have := hc.down; rw [hd] at this; simpa using this
  refine ⟨m, a, .inl rfl, h.same ?_ ?_⟩ <;> rw [restart_calm hp]
theorem note_next {c : Chip} {m n : Man} {a : Int} (hc : CWf c) (hd : c.down = false) (h : Head c m a) (hf : n.fault = 0) (hn : m.ep < n.ep) (how : Int) :
    ∃ c' a' k, noteR c a n = (c', a', k) ∧ CWf c' ∧ (c.fuse < 0 → k = 0 ∧ c'.fuse < 0) ∧ ((k = 0 ∧ c'.down = false ∧ Head c' n a') ∨ (k = 9 ∧ Back c' how m n)) := by
  obtain ⟨c', a', k, h1, h2, h3, h4, h5, h6⟩ := note_calm hc hd h hf hn
  refine ⟨c', a', k, h1, h2, h5, ?_⟩
  rcases h6 with h6 | ⟨h6, h7, h8⟩
  · exact .inl h6
  · refine .inr ⟨h6, ?_⟩
    rcases (h8 how).2 with h9 | ⟨a2, h9⟩
    · exact ⟨m, a, .inl rfl, h9⟩
    · exact ⟨n, a2, .inr rfl, h9⟩
theorem Sit.back {c : Chip} {m : Man} {a : Int} (how : Int) (hc : CWf (c.restart how)) (h : Head (c.restart how) m a) : Sit (c.restart how) m a := ⟨hc, rfl, show (-1 : Int) < 0 by decide, .inr h⟩
/-- A manifest that names a log alone. -/
def manL (e L : Int) : Man := ⟨e, L, [], []⟩
theorem manL_fault {e L : Int} (h1 : 1 ≤ e) (h2 : e ≤ 100000) (h3 : 2 ≤ L) (h4 : L < 24) : (manL e L).fault = 0 := by
  rw [fault_zero]
  exact ⟨h1, h2, by simp [manL, Man.all]; omega, by simp [manL, Man.all]⟩
theorem find_sheet (B p : Nat) (c : Chip) (m : Man) (a : Int) (W : World) (hW : ChipR B W p c) (hd : c.down = false) (h : Head c m a) :
    Calls Try.prog 40 #[.pointer (some ⟨p, 0, none⟩)] W fun e w' => ∃ A1 k1 A2 k2, e = .returned (.tuple #[.agg #[.int .i64 m.ep, .int .i64 m.log, .slice A1 m.nw.length k1, .slice A2 m.od.length k2], .int .i64 a, .nilIface]) ∧
      Ints B w' (.slice A1 m.nw.length k1) m.nw ∧ Ints B w' (.slice A2 m.od.length k2) m.od ∧ Below W.heap.size W w' := by
  have hf := find_any B p c W hW
  rw [h.found hd] at hf
  refine hf.mono ?_
  rintro e w' ⟨v, rfl, ⟨vn, vo, rfl, hn, ho⟩, hb⟩
  obtain ⟨A1, k1, rfl, _, _, _⟩ := hn.form
  obtain ⟨A2, k2, rfl, _, _, _⟩ := ho.form
  exact ⟨A1, k1, A2, k2, rfl, hn, ho, hb⟩
/-- A manifest that names a log alone is found. -/
theorem find_log (B p : Nat) (c : Chip) (e L a : Int) (W : World) (hW : ChipR B W p c) (hd : c.down = false) (h : Head c (manL e L) a) :
    Calls Try.prog 40 #[.pointer (some ⟨p, 0, none⟩)] W fun d w' => ∃ A1 k1 A2 k2, d = .returned (.tuple #[.agg #[.int .i64 e, .int .i64 L, .slice A1 0 k1, .slice A2 0 k2], .int .i64 a, .nilIface]) ∧
      Ints B w' (.slice A1 0 k1) [] ∧ Ints B w' (.slice A2 0 k2) [] ∧ Below W.heap.size W w' := find_sheet B p c (manL e L) a W hW hd h
theorem ints_nil {B B' : Nat} {w w' : World} {A : Option Addr} {c : Nat} (h : Ints B w (.slice A 0 c) []) : Ints B' w' (.slice A 0 c) [] := by
  obtain ⟨_, A', c', e, h2, h3, _⟩ := h
  cases e
  exact ⟨rfl, A, c, rfl, h2, h3, fun h => absurd h (by simp)⟩
section
variable {B p g o : Nat} {w : World} {c : Chip} {cs : Array Value}
theorem blk_man (hg : Blk w g 52 cs) {g' : Nat} {T : TypeId} {cs' : Array Value} (h : Blk w g' T cs') (hT : T ≠ 52) (x : Value) : Blk (w.setCell ⟨g, o, none⟩ x) g' T cs' := by
  refine h.far (p := ⟨g, o, none⟩) (fun e => ?_) x
  have e : g' = g := e
  subst e
  unfold Blk at h hg
  rw [h] at hg
  injection hg with hg
  injection hg with _ e
  exact hT e
theorem UndoR.man {u : Value} (hg : Blk w g 52 cs) (x : Value) : ∀ {d : Option Pend}, UndoR w p c u d → UndoR (w.setCell ⟨g, o, none⟩ x) p c u d
  | none, h => h
  | some (.wr b d), ⟨qh, qd, bx, bn, bd, e, h2, h3, h4, h5, h6⟩ => ⟨qh, qd, bx, bn, bd, e, blk_man hg h2 (by decide) x, blk_man hg h3 (by decide) x, blk_man hg h4 (by decide) x, blk_man hg h5 (by decide) x, blk_man hg h6 (by decide) x⟩
  | some (.er b), ⟨qh, qd, bx, e, h2, h3, h4⟩ => ⟨qh, qd, bx, e, blk_man hg h2 (by decide) x, blk_man hg h3 (by decide) x, blk_man hg h4 (by decide) x⟩
/-- Stores into the block of a manifest leave the chip. -/
theorem ChipR.man (h : ChipR B w p c) (hg : Blk w g 52 cs) (hB : B ≤ g) (x : Value) : ChipR B (w.setCell ⟨g, o, none⟩ x) p c := by
  obtain ⟨V, u, hv, hu, hwf⟩ := h
  exact ⟨V, u, ⟨blk_man hg hv.blk (by decide) x, fun b hb => (hv.rows b hb).far hg hB (by decide) x, hv.base⟩, UndoR.man hg x hu, hwf⟩
theorem ChipR.man4 {a0 a1 a2 a3 : Value} (h : ChipR B w p c) (hg : Blk w g 52 #[a0, a1, a2, a3]) (hB : B ≤ g) (b0 b1 b2 b3 : Value) :
    ChipR B ((((w.setCell ⟨g, 0, none⟩ b0).setCell ⟨g, 1, none⟩ b1).setCell ⟨g, 2, none⟩ b2).setCell ⟨g, 3, none⟩ b3) p c :=
  (((h.man hg hB b0).man (hg.set_ 0 b0) hB b1).man ((hg.set_ 0 b0).set_ 1 b1) hB b2).man (((hg.set_ 0 b0).set_ 1 b1).set_ 2 b2) hB b3
theorem ints_man4 {v : Value} {l : List Int} {a0 a1 a2 a3 : Value} (h : Ints B w v l) (hb : Blk w g 52 #[a0, a1, a2, a3]) (hB : B ≤ g) (b0 b1 b2 b3 : Value) :
    Ints B ((((w.setCell ⟨g, 0, none⟩ b0).setCell ⟨g, 1, none⟩ b1).setCell ⟨g, 2, none⟩ b2).setCell ⟨g, 3, none⟩ b3) v l :=
  Rd.far' (Rd.far' (Rd.far' (Rd.far' h hb hB (by decide) _) (hb.set_ 0 _) hB (by decide) _) ((hb.set_ 0 _).set_ 1 _) hB (by decide) _) (((hb.set_ 0 _).set_ 1 _).set_ 2 _) hB (by decide) _
end
end Go.Proofs.Ytaepdbkfaoiimac
/- The frame of every law of this seat: a walk that returns true and turns nothing that was there gives the row's statement. Conditions: none. -/
namespace Go.Proofs.Ytaepdbkfaoiimac
open Go.ChangeShapes Go.WideShapes Go.ChangeAt Go.RowKit Go.WideElems

theorem close_own : ownKnob Try.prog.godebug = none := by kernel_rfl
theorem close_laid : laidOutB Try.prog = true := by kernel_rfl

theorem close_trodAll {H : Type} {enc : TypeId × Value → H} {W W' : World} (hb : Below W.heap.size W W') :
    ∀ (ts : List TypeId) (vs : List Value) (ds : List (DataW H)) (ps : List MemPlace),
      (∀ t ∈ ts, Try.prog.readableRec t = true ∧ t < Try.prog.types.size) →
      DataW.TrodAll enc Try.prog W 0 (fun _ => true) true ts vs ds ps → (∀ x ∈ ps, x.block < W.heap.size) →
      DataW.TrodAll enc Try.prog W' 0 (fun b => decide (b < W.heap.size)) true ts vs ds ps
  | [], [], [], _, _, h, _ => h
  | t :: ts, v :: vs, d :: ds, ps, hr, h, hlt => by
    obtain ⟨p, q, h1, h2, rfl⟩ := h
    refine ⟨p, q, ?_, ?_, rfl⟩
    · exact Below.trod close_laid (hr t (by simp)).1 (hr t (by simp)).2 h1 hb (fun x hx => hlt x (by simp [hx]))
    · exact close_trodAll hb ts vs ds q (fun t' ht' => hr t' (by simp [ht'])) h2 (fun x hx => hlt x (by simp [hx]))
  | [], [], _ :: _, _, _, h, _ => h.elim
  | [], _ :: _, _, _, _, h, _ => h.elim
  | _ :: _, [], _, _, _, h, _ => h.elim
  | _ :: _, _ :: _, [], _, _, h, _ => h.elim

theorem close_length {H : Type} {enc : TypeId × Value → H} {W : World} {sp : Nat → Bool} :
    ∀ (ts : List TypeId) (vs : List Value) (ds : List (DataW H)) (ps : List MemPlace),
      DataW.TrodAll enc Try.prog W 0 sp true ts vs ds ps → ds.length = ts.length
  | [], [], [], _, _ => rfl
  | _ :: ts, _ :: vs, _ :: ds, _, h => by
    obtain ⟨p, q, _, h2, _⟩ := h
    simp [close_length ts vs ds q h2]
  | [], [], _ :: _, _, h => h.elim
  | [], _ :: _, _, _, h => h.elim
  | _ :: _, [], _, _, h => h.elim
  | _ :: _, _ :: _, [], _, h => h.elim

set_option maxRecDepth 100000 in
theorem close_lifted (s : ChangeSpec) (F : FuncId) (fn : Func) (os : Os) (started : os.Started) (H : Type) (enc : TypeId × Value → H)
    (hni : Try.checked.prog.inits.idxOf? F = none) (hfn : Try.checked.prog.funcs[F]? = some fn) (hres : fn.resultTypes = #[4]) (hv : s.vars = [])
    (hs : ∀ ds : List (DataW H), ds.length = fn.params.toList.length → s.fn H ds = { results := [.lit (.bool true)], args := ds })
    (hread0 : (fn.params.toList.all fun t => Try.prog.readableRec t && decide (t < Try.prog.types.size)) = true)
    (witness : ∃ (w : World) (tape : Tape) (i : Input), w.os = os ∧ (w.forCall tape i).Shaped Try.checked.prog ∧ i.vars = [] ∧ Input.okWide Try.checked.prog (w.forCall tape i) .any w.heap.size F i ∧
      s.pre6 enc Try.checked.prog fn [] false (w.forCall tape i).memory i.args ∧ Assume.holds {} Try.checked.prog (lone (Frame.enter Try.checked.prog F i.args .normal) [] (w.forCall tape i)))
    (walk : ∀ (W : World) (base : Nat) (args : Array Value) (ds : List (DataW H)) (p : List MemPlace),
      (∀ (j : Nat) t v, fn.params[j]? = some t → args[j]? = some v → Value.okWide Try.prog W .any base t v) →
      DataW.TrodAll enc Try.prog W 0 (fun _ => true) true fn.params.toList args.toList ds p →
      Calls Try.prog F args W fun e W' => e = .returned (.bool true) ∧ Below W.heap.size W W') :
    ReturnsInHanded {} Try.checked os F .any (s.pre6 enc Try.prog fn [] false) (s.post enc Try.prog fn false true false false) := by
  have hread : ∀ t ∈ fn.params.toList, Try.prog.readableRec t = true ∧ t < Try.prog.types.size := fun t ht => by
    have := List.all_eq_true.1 hread0 t ht
    simp only [Bool.and_eq_true, decide_eq_true_eq] at this
    exact this
  refine returnsInHanded_of_change (C := Try.checked) close_own started hni hfn witness ?_
  intro W base args ds gs before hval hW _ _
  have hW' := hW
  have hlt := hW.lt
  obtain ⟨p, q, hA, hV, rfl, _, _⟩ := hW
  rw [hv] at hV
  obtain ⟨rfl, rfl⟩ := trodVars_none hV
  simp only [List.append_nil] at hW' hlt
  refine (walk W base args ds p hval hA).mono ?_
  rintro e W' ⟨rfl, hb⟩
  have hd := close_length _ _ _ _ hA
  have hsf := hs ds hd
  refine ⟨_, rfl, ds, [], p, [], p, [], hW', ?_, ?_, ?_, hb.frame _, fun h => by cases h⟩
  · rw [List.append_nil, hsf, hres]
    exact trodAll_mk1 (shut_bool Try.underlying4 true)
  · rw [List.append_nil, hsf]
    exact close_trodAll hb _ _ _ _ hread hA hlt
  · rw [hv, List.append_nil, hsf]
    exact rfl
end Go.Proofs.Ytaepdbkfaoiimac
/- The arguments of a law, opened: each reads as a list of what its cells hold. Conditions: none. -/
set_option linter.unusedVariables false
namespace Go.Proofs.Ytaepdbkfaoiimac
open Go.ChangeShapes Go.WideShapes Go.ChangeAt Go.RowKit Go.WideMaps Go.WideElems
open Go.ChangeMaps (open_string shut_string)

set_option maxRecDepth 100000 in
theorem strs_of {H : Type} {enc : TypeId × Value → H} {W : World} {base : Nat} {v : Value} {d : DataW H} {p : List MemPlace}
    (hval : Value.okWide Try.prog W .any base 164 v) (h : DataW.Trod enc Try.prog W 0 (fun _ => true) true 164 v d p) : ∃ l, Strs W.heap.size W v l := by
  obtain ⟨a0, len, cap, rfl⟩ := okWide_slice Try.underlying164 hval
  obtain ⟨fuel, hf⟩ := h
  rcases open_strings Try.underlying164 Try.underlying9 (by kernel_rfl) hf with ⟨hcs, hx⟩ | ⟨a, len', cap', ss, hcs, _, hl, hm, hz, hx, hcell, hws⟩
  · simp [Value.cells] at hcs
    obtain ⟨rfl, rfl, rfl⟩ := hcs
    exact ⟨[], Rd.nil _ _ _ _, by simp⟩
  · simp [Value.cells] at hcs
    obtain ⟨rfl, rfl, rfl⟩ := hcs
    simp at hz
    have e : (ss.take len).length = len := by simp; omega
    refine ⟨ss.take len, ⟨by simp, some a, cap, by rw [e], by omega, by unfold maxLen at hm; omega, fun hn => ?_⟩, fun s hs => by have := hws s (List.mem_of_mem_take hs); unfold maxLen at this; omega⟩
    rw [e] at hn
    obtain ⟨b, o, spot⟩ := a
    have h0 := hcell 0 (by omega)
    have hspot : spot = none := by simpa [Addr.add] using World.cell?_spot h0
    subst hspot
    refine ⟨b, o, rfl, .inl ?_, ?_, fun j u hu => ?_⟩
    · have := cell_lt h0; simpa [Addr.add] using this
    · have := cell_lt h0; simpa [Addr.add] using this
    · rw [List.getElem?_map, List.getElem?_take] at hu
      by_cases hj : j < len
      · rw [if_pos hj] at hu
        have hj2 : j < ss.length := by omega
        rw [List.getElem?_eq_getElem hj2] at hu
        simp at hu
        have := hcell j hj2
        rw [List.getD_eq_getElem?_getD, List.getElem?_eq_getElem hj2, Option.getD_some] at this
        rw [← hu, ← this]
        unfold Addr.add
        by_cases hj0 : j = 0
        · subst hj0; simp
        · simp [hj0]
      · rw [if_neg hj] at hu; simp at hu

/-! ### slices of whatever elements -/
theorem list_of {α : Type} {P : Nat → α → Prop} : ∀ n : Nat, (∀ i, i < n → ∃ a, P i a) → ∃ l : List α, l.length = n ∧ ∀ i a, l[i]? = some a → P i a
  | 0, _ => ⟨[], rfl, fun i a h => by simp at h⟩
  | n + 1, h => by
    obtain ⟨l, h1, h2⟩ := list_of n fun i hi => h i (by omega)
    obtain ⟨a, ha⟩ := h n (by omega)
    refine ⟨l ++ [a], by simp [h1], fun i b hb => ?_⟩
    rw [List.getElem?_append] at hb
    split at hb
    · exact h2 i b hb
    · rename_i hge
      have : i = n := by
        rcases Nat.lt_or_ge (i - l.length) 1 with h | h
        · omega
        · rw [List.getElem?_eq_none (by simpa using h)] at hb; cases hb
      subst this
      rw [h1, Nat.sub_self] at hb
      simp at hb
      subst hb
      exact ha
theorem flat_get {α : Type} (c : α → List Value) (sz : Nat) (hc : ∀ a, (c a).length = sz) : ∀ (l : List α) (i j : Nat) (a : α), l[i]? = some a → j < sz → (l.flatMap c)[i * sz + j]? = (c a)[j]?
  | [], i, j, a, h, _ => by simp at h
  | x :: l, 0, j, a, h, hj => by
    simp at h; subst h
    rw [Nat.zero_mul, Nat.zero_add, List.flatMap_cons, List.getElem?_append_left (by rw [hc]; exact hj)]
  | x :: l, i + 1, j, a, h, hj => by
    simp only [List.getElem?_cons_succ] at h
    have ih := flat_get c sz hc l i j a h hj
    rw [List.flatMap_cons, List.getElem?_append_right (by rw [hc, Nat.succ_mul]; omega), hc, ← ih]
    congr 1
    rw [Nat.succ_mul]; omega
theorem flat_len {α : Type} (c : α → List Value) (sz : Nat) (hc : ∀ a, (c a).length = sz) : ∀ l : List α, (l.flatMap c).length = l.length * sz
  | [] => by simp
  | x :: l => by rw [List.flatMap_cons, List.length_append, hc, flat_len c sz hc l, List.length_cons, Nat.succ_mul]; omega

theorem flat_one {α : Type} (f : α → Value) : ∀ l : List α, l.flatMap (fun z => [f z]) = l.map f
  | [] => rfl
  | a :: l => by rw [List.flatMap_cons, flat_one f l]; rfl

theorem slice_trod {H : Type} {enc : TypeId × Value → H} {W : World} {T e sz fuel : Nat} {v : Value} {x : DataW H × List MemPlace} (ht : Try.prog.underlying T = some (.slice e)) (hsz : Try.prog.cellsOf e = sz) (hpos : 0 < sz)
    {α : Type} (c : α → List Value) (hc : ∀ a, (c a).length = sz) (Ok : α → Prop)
    (hel : ∀ n cs y, DataW.trod enc Try.prog W 0 (fun _ => true) true n e cs = some y → ∃ a, cs = c a ∧ Ok a)
    (h : DataW.trod enc Try.prog W 0 (fun _ => true) true fuel T [v] = some x) : ∃ l : List α, Rd W.heap.size e sz W v l.length (l.flatMap c) ∧ ∀ a ∈ l, Ok a := by
  rcases Go.Deep.open_slice ht h with ⟨hcs, _⟩ | ⟨a, len, cap, m, n, D, Pl, hcs, hb, hl, hm, hmm, hx, hi⟩
  · simp at hcs
    subst hcs
    exact ⟨[], Rd.nil _ _ _ _, by simp⟩
  · simp at hcs hmm
    subst hcs
    have hall : ∀ i, i < len → ∃ z : α, Ok z ∧ ∀ j, j < sz → W.cell? ((a.add (i * sz)).add j) = (c z)[j]? := by
      intro i hilt
      obtain ⟨cs', h1, h2⟩ := hi i (by omega)
      obtain ⟨z, rfl, hz⟩ := hel _ _ _ h2
      rw [hsz] at h1
      obtain ⟨_, _, h3⟩ := World.cells?_some h1
      exact ⟨z, hz, h3⟩
    obtain ⟨l, hll, hlp⟩ := list_of len hall
    refine ⟨l, ⟨flat_len c sz hc l, some a, cap, by rw [hll], by omega, by unfold maxLen at hm; omega, fun hn => ?_⟩, fun z hz => ?_⟩
    · obtain ⟨b, o, spot⟩ := a
      have h0 := (hlp 0 _ (List.getElem?_eq_getElem hn)).2 0 hpos
      have hv0 : ∃ u, (c l[0])[0]? = some u := ⟨_, List.getElem?_eq_getElem (by rw [hc]; exact hpos)⟩
      obtain ⟨u0, hu0⟩ := hv0
      rw [hu0] at h0
      have hspot : spot = none := by simpa [Addr.add] using World.cell?_spot h0
      subst hspot
      have hlt := cell_lt h0
      rw [addr_add, addr_add] at hlt
      refine ⟨b, o, rfl, .inl hlt, hlt, fun j u hu => ?_⟩
      have hj : j < l.length * sz := by
        rw [← flat_len c sz hc l]
        rcases Nat.lt_or_ge j (l.flatMap c).length with h | h
        · exact h
        · rw [List.getElem?_eq_none h] at hu; cases hu
      have hq : j / sz < l.length := Nat.div_lt_of_lt_mul (by rw [Nat.mul_comm]; exact hj)
      have hr : j % sz < sz := Nat.mod_lt _ hpos
      have hdm : j / sz * sz + j % sz = j := by rw [Nat.mul_comm]; exact Nat.div_add_mod j sz
      have hq2 : l[j / sz]? = some l[j / sz] := List.getElem?_eq_getElem hq
      have h1 := flat_get c sz hc l (j / sz) (j % sz) _ hq2 hr
      have h2 := (hlp _ _ hq2).2 (j % sz) hr
      rw [hdm] at h1
      rw [← h1, hu, addr_add, addr_add, Nat.add_assoc, hdm] at h2
      exact h2
    · obtain ⟨i, hi⟩ := List.getElem?_of_mem hz
      exact (hlp i z hi).1

set_option maxRecDepth 100000 in
theorem ints_of {H : Type} {enc : TypeId × Value → H} {W : World} {base : Nat} {v : Value} {d : DataW H} {p : List MemPlace}
    (hval : Value.okWide Try.prog W .any base 50 v) (h : DataW.Trod enc Try.prog W 0 (fun _ => true) true 50 v d p) : ∃ l, Ints W.heap.size W v l ∧ ∀ n ∈ l, -9223372036854775808 ≤ n ∧ n ≤ 9223372036854775807 := by
  obtain ⟨a0, len, cap, rfl⟩ := okWide_slice Try.underlying50 hval
  obtain ⟨fuel, hf⟩ := h
  obtain ⟨l, h1, h2⟩ := slice_trod Try.underlying50 (by kernel_rfl) (show 0 < 1 by omega) (fun n : Int => [.int .i64 n]) (fun _ => rfl) (fun n => -9223372036854775808 ≤ n ∧ n ≤ 9223372036854775807)
    (fun n cs y hy => by
      obtain ⟨n', h, _, hw⟩ := DataW.trod_int Try.underlying3 hy
      refine ⟨n', h, ?_⟩
      simp [Lit.wf, IntKind.min, IntKind.max, IntKind.signed, IntKind.bits] at hw
      omega) hf
  exact ⟨l, by rw [flat_one] at h1; exact h1, h2⟩
set_option maxRecDepth 100000 in
theorem ent_trod {H : Type} {enc : TypeId × Value → H} {W : World} {n : Nat} {cs : List Value} {y : DataW H × List MemPlace} (h : DataW.trod enc Try.prog W 0 (fun _ => true) true n 34 cs = some y) : ∃ e : Ent, cs = e.cells ∧ EntOk e := by
  have hs := Try.underlying34
  obtain ⟨ys, n', _, _, hlen, hyl, hf⟩ := DataW.trod_struct hs h
  have c9 : Try.prog.cellsOf 9 = 1 := by kernel_rfl
  have c4 : Try.prog.cellsOf 4 = 1 := by kernel_rfl
  have c35 : Try.prog.cellsOf 34 = 3 := by kernel_rfl
  have h0 : DataW.trod enc Try.prog W 0 _ true n' 9 ((cs.drop 0).take (Try.prog.cellsOf 9)) = ys[0]? := hf 0 _ rfl
  have h1 : DataW.trod enc Try.prog W 0 _ true n' 9 ((cs.drop 1).take (Try.prog.cellsOf 9)) = ys[1]? := hf 1 _ rfl
  have h2 : DataW.trod enc Try.prog W 0 _ true n' 4 ((cs.drop 2).take (Try.prog.cellsOf 4)) = ys[2]? := hf 2 _ rfl
  rw [c35] at hlen
  rw [c9] at h0 h1
  rw [c4] at h2
  match cs, hlen with
  | [v0, v1, v2], _ =>
    have hl3 : ys.length = 3 := hyl
    match ys, hl3 with
    | [y0, y1, y2], _ =>
      obtain ⟨s0, e0, _, b0⟩ := DataW.trod_string Try.underlying9 (show DataW.trod enc Try.prog W 0 _ true n' _ [v0] = some y0 from h0)
      obtain ⟨s1, e1, _, b1⟩ := DataW.trod_string Try.underlying9 (show DataW.trod enc Try.prog W 0 _ true n' _ [v1] = some y1 from h1)
      obtain ⟨g, e2, _⟩ := DataW.trod_bool Try.underlying4 (show DataW.trod enc Try.prog W 0 _ true n' _ [v2] = some y2 from h2)
      simp at e0 e1 e2
      subst e0; subst e1; subst e2
      unfold maxLen at b0 b1
      exact ⟨⟨s0, s1, g⟩, rfl, by omega, by omega⟩
theorem ents_trod {H : Type} {enc : TypeId × Value → H} {W : World} {fuel : Nat} {v : Value} {x : DataW H × List MemPlace} (h : DataW.trod enc Try.prog W 0 (fun _ => true) true fuel 23 [v] = some x) : ∃ l, Ents W.heap.size W v l := by
  obtain ⟨l, h1, h2⟩ := slice_trod Try.underlying23 (by kernel_rfl) (show 0 < 3 by omega) Ent.cells (fun _ => rfl) EntOk (fun n cs y => ent_trod) h
  exact ⟨l, h1, h2⟩
set_option maxRecDepth 100000 in
theorem ents_of {H : Type} {enc : TypeId × Value → H} {W : World} {base : Nat} {v : Value} {d : DataW H} {p : List MemPlace}
    (hval : Value.okWide Try.prog W .any base 23 v) (h : DataW.Trod enc Try.prog W 0 (fun _ => true) true 23 v d p) : ∃ l, Ents W.heap.size W v l := by
  obtain ⟨a0, len, cap, rfl⟩ := okWide_slice Try.underlying23 hval
  obtain ⟨fuel, hf⟩ := h
  exact ents_trod hf
set_option maxRecDepth 100000 in
theorem lss_of {H : Type} {enc : TypeId × Value → H} {W : World} {base : Nat} {v : Value} {d : DataW H} {p : List MemPlace}
    (hval : Value.okWide Try.prog W .any base 120 v) (h : DataW.Trod enc Try.prog W 0 (fun _ => true) true 120 v d p) : ∃ ls, Lss W.heap.size W v ls := by
  obtain ⟨a0, len, cap, rfl⟩ := okWide_slice Try.underlying120 hval
  obtain ⟨fuel, hf⟩ := h
  obtain ⟨l, h1, h2⟩ := slice_trod Try.underlying120 (by kernel_rfl) (show 0 < 1 by omega) (fun z : Value × List Ent => [z.1]) (fun _ => rfl) (fun z => Ents W.heap.size W z.1 z.2)
    (fun n cs y hy => by
      have hl := Go.Deep.open_slice Try.underlying23 hy
      have hc : ∃ u, cs = [u] := by
        rcases hl with ⟨hcs, _⟩ | ⟨a, len, cap, m, n, D, Pl, hcs, _⟩ <;> exact ⟨_, hcs⟩
      obtain ⟨u, rfl⟩ := hc
      obtain ⟨l, hl⟩ := ents_trod hy
      exact ⟨(u, l), rfl, hl⟩) hf
  refine ⟨l.map (·.2), l.map (·.1), by simp, ?_, fun i u m hu hm => ?_⟩
  · rw [flat_one] at h1
    simpa using h1
  · rw [List.getElem?_map] at hu hm
    cases hz : l[i]? with
    | none => rw [hz] at hu; cases hu
    | some z =>
      rw [hz] at hu hm
      simp at hu hm
      subst hu; subst hm
      exact h2 z (List.mem_of_getElem? hz)
end Go.Proofs.Ytaepdbkfaoiimac
/- The arguments of a law, opened: manifests and acts. Conditions: none. -/
set_option linter.unusedVariables false
namespace Go.Proofs.Ytaepdbkfaoiimac
open Go.ChangeShapes Go.WideShapes Go.ChangeAt Go.RowKit Go.WideMaps Go.WideElems
open Go.ChangeMaps (open_string shut_string)

theorem lit64 {n : Int} (h : (Lit.int .i64 n).wf = true) : -9223372036854775808 ≤ n ∧ n ≤ 9223372036854775807 := by
  simp [Lit.wf, IntKind.min, IntKind.max, IntKind.signed, IntKind.bits] at h
  omega
set_option maxRecDepth 100000 in
theorem ints_trod {H : Type} {enc : TypeId × Value → H} {W : World} {fuel : Nat} {v : Value} {x : DataW H × List MemPlace} (h : DataW.trod enc Try.prog W 0 (fun _ => true) true fuel 50 [v] = some x) : ∃ l, Ints W.heap.size W v l := by
  obtain ⟨l, h1, _⟩ := slice_trod Try.underlying50 (by kernel_rfl) (show 0 < 1 by omega) (fun n : Int => [.int .i64 n]) (fun _ => rfl) (fun _ => True)
    (fun n cs y hy => by
      obtain ⟨n', h, _, _⟩ := DataW.trod_int Try.underlying3 hy
      exact ⟨n', h, trivial⟩) h
  exact ⟨l, by rw [flat_one] at h1; exact h1⟩
/-- What a manifest's numbers are. -/
def ManOk (m : Man) : Prop := -9223372036854775808 ≤ m.ep ∧ m.ep ≤ 9223372036854775807 ∧ -9223372036854775808 ≤ m.log ∧ m.log ≤ 9223372036854775807
set_option maxRecDepth 100000 in
theorem man_trod {H : Type} {enc : TypeId × Value → H} {W : World} {n : Nat} {cs : List Value} {y : DataW H × List MemPlace} (h : DataW.trod enc Try.prog W 0 (fun _ => true) true n 52 cs = some y) :
    ∃ (m : Man) (vn vo : Value), cs = [.int .i64 m.ep, .int .i64 m.log, vn, vo] ∧ Ints W.heap.size W vn m.nw ∧ Ints W.heap.size W vo m.od ∧ ManOk m := by
  have hs := Try.underlying52
  obtain ⟨ys, n', _, _, hlen, hyl, hf⟩ := DataW.trod_struct hs h
  have c9 : Try.prog.cellsOf 3 = 1 := by kernel_rfl
  have c4 : Try.prog.cellsOf 50 = 1 := by kernel_rfl
  have c35 : Try.prog.cellsOf 52 = 4 := by kernel_rfl
  have h0 : DataW.trod enc Try.prog W 0 _ true n' 3 ((cs.drop 0).take (Try.prog.cellsOf 3)) = ys[0]? := hf 0 _ rfl
  have h1 : DataW.trod enc Try.prog W 0 _ true n' 3 ((cs.drop 1).take (Try.prog.cellsOf 3)) = ys[1]? := hf 1 _ rfl
  have h2 : DataW.trod enc Try.prog W 0 _ true n' 50 ((cs.drop 2).take (Try.prog.cellsOf 50)) = ys[2]? := hf 2 _ rfl
  have h3 : DataW.trod enc Try.prog W 0 _ true n' 50 ((cs.drop 3).take (Try.prog.cellsOf 50)) = ys[3]? := hf 3 _ rfl
  rw [c35] at hlen
  rw [c9] at h0 h1
  rw [c4] at h2 h3
  match cs, hlen with
  | [v0, v1, v2, v3], _ =>
    have hl4 : ys.length = 4 := hyl
    match ys, hl4 with
    | [y0, y1, y2, y3], _ =>
      obtain ⟨a, e0, _, b0⟩ := DataW.trod_int Try.underlying3 (show DataW.trod enc Try.prog W 0 _ true n' _ [v0] = some y0 from h0)
      obtain ⟨b, e1, _, b1⟩ := DataW.trod_int Try.underlying3 (show DataW.trod enc Try.prog W 0 _ true n' _ [v1] = some y1 from h1)
      obtain ⟨l2, q2⟩ := ints_trod (show DataW.trod enc Try.prog W 0 _ true n' _ [v2] = some y2 from h2)
      obtain ⟨l3, q3⟩ := ints_trod (show DataW.trod enc Try.prog W 0 _ true n' _ [v3] = some y3 from h3)
      simp at e0 e1
      subst e0; subst e1
      exact ⟨⟨a, b, l2, l3⟩, v2, v3, rfl, q2, q3, (lit64 b0).1, (lit64 b0).2, (lit64 b1).1, (lit64 b1).2⟩
set_option maxRecDepth 100000 in
theorem man_of {H : Type} {enc : TypeId × Value → H} {W : World} {base : Nat} {v : Value} {d : DataW H} {p : List MemPlace}
    (hval : Value.okWide Try.prog W .any base 52 v) (h : DataW.Trod enc Try.prog W 0 (fun _ => true) true 52 v d p) : ∃ m, ManV W.heap.size W v m ∧ ManOk m := by
  obtain ⟨cs, rfl, _⟩ := okWide_struct Try.underlying52 hval
  obtain ⟨fuel, hf⟩ := h
  obtain ⟨m, vn, vo, e, h2, h3, h4⟩ := man_trod hf
  have e' : cs = #[.int .i64 m.ep, .int .i64 m.log, vn, vo] := by
    have : (Value.agg cs).cells.toList = cs.toList := rfl
    rw [this] at e
    exact Array.toList_inj.1 e
  subst e'
  exact ⟨m, ⟨vn, vo, rfl, h2, h3⟩, h4⟩
/-- An act, with its slice as it stands. -/
structure Act where
  kind : ByteArray
  s : ByteArray
  a : Int
  b : Int
  v : Value
  l : List Ent
def Act.cells (x : Act) : List Value := [.string x.kind, .string x.s, .int .i64 x.a, .int .i64 x.b, x.v]
def ActOk (x : Act) : Prop := x.kind.size ≤ 9223372036854775807 ∧ x.s.size ≤ 9223372036854775807 ∧ -9223372036854775808 ≤ x.a ∧ x.a ≤ 9223372036854775807 ∧ -9223372036854775808 ≤ x.b ∧ x.b ≤ 9223372036854775807
def ActsR (B : Nat) (w : World) (v : Value) (l : List Act) : Prop := Rd B 61 5 w v l.length (l.flatMap Act.cells) ∧ ∀ x ∈ l, Ents B w x.v x.l ∧ ActOk x
set_option maxRecDepth 100000 in
theorem act_trod {H : Type} {enc : TypeId × Value → H} {W : World} {n : Nat} {cs : List Value} {y : DataW H × List MemPlace} (h : DataW.trod enc Try.prog W 0 (fun _ => true) true n 61 cs = some y) :
    ∃ x : Act, cs = x.cells ∧ Ents W.heap.size W x.v x.l ∧ ActOk x := by
  have hs := Try.underlying61
  obtain ⟨ys, n', _, _, hlen, hyl, hf⟩ := DataW.trod_struct hs h
  have c9 : Try.prog.cellsOf 3 = 1 := by kernel_rfl
  have c4 : Try.prog.cellsOf 23 = 1 := by kernel_rfl
  have cs1 : Try.prog.cellsOf 9 = 1 := by kernel_rfl
  have c35 : Try.prog.cellsOf 61 = 5 := by kernel_rfl
  have h0 : DataW.trod enc Try.prog W 0 _ true n' 9 ((cs.drop 0).take (Try.prog.cellsOf 9)) = ys[0]? := hf 0 _ rfl
  have h1 : DataW.trod enc Try.prog W 0 _ true n' 9 ((cs.drop 1).take (Try.prog.cellsOf 9)) = ys[1]? := hf 1 _ rfl
  have h2 : DataW.trod enc Try.prog W 0 _ true n' 3 ((cs.drop 2).take (Try.prog.cellsOf 3)) = ys[2]? := hf 2 _ rfl
  have h3 : DataW.trod enc Try.prog W 0 _ true n' 3 ((cs.drop 3).take (Try.prog.cellsOf 3)) = ys[3]? := hf 3 _ rfl
  have h4 : DataW.trod enc Try.prog W 0 _ true n' 23 ((cs.drop 4).take (Try.prog.cellsOf 23)) = ys[4]? := hf 4 _ rfl
  rw [c35] at hlen
  rw [cs1] at h0 h1
  rw [c9] at h2 h3
  rw [c4] at h4
  match cs, hlen with
  | [v0, v1, v2, v3, v4], _ =>
    have hl5 : ys.length = 5 := hyl
    match ys, hl5 with
    | [y0, y1, y2, y3, y4], _ =>
      obtain ⟨s0, e0, _, b0⟩ := DataW.trod_string Try.underlying9 (show DataW.trod enc Try.prog W 0 _ true n' _ [v0] = some y0 from h0)
      obtain ⟨s1, e1, _, b1⟩ := DataW.trod_string Try.underlying9 (show DataW.trod enc Try.prog W 0 _ true n' _ [v1] = some y1 from h1)
      obtain ⟨a, e2, _, b2⟩ := DataW.trod_int Try.underlying3 (show DataW.trod enc Try.prog W 0 _ true n' _ [v2] = some y2 from h2)
      obtain ⟨b, e3, _, b3⟩ := DataW.trod_int Try.underlying3 (show DataW.trod enc Try.prog W 0 _ true n' _ [v3] = some y3 from h3)
      obtain ⟨l4, q4⟩ := ents_trod (show DataW.trod enc Try.prog W 0 _ true n' _ [v4] = some y4 from h4)
      simp at e0 e1 e2 e3
      subst e0; subst e1; subst e2; subst e3
      unfold maxLen at b0 b1
      exact ⟨⟨s0, s1, a, b, v4, l4⟩, rfl, q4, by show s0.size ≤ _; omega, by show s1.size ≤ _; omega, (lit64 b2).1, (lit64 b2).2, (lit64 b3).1, (lit64 b3).2⟩
set_option maxRecDepth 100000 in
theorem act_of {H : Type} {enc : TypeId × Value → H} {W : World} {base : Nat} {v : Value} {d : DataW H} {p : List MemPlace}
    (hval : Value.okWide Try.prog W .any base 61 v) (h : DataW.Trod enc Try.prog W 0 (fun _ => true) true 61 v d p) : ∃ x : Act, v = .agg x.cells.toArray ∧ Ents W.heap.size W x.v x.l ∧ ActOk x := by
  obtain ⟨cs, rfl, _⟩ := okWide_struct Try.underlying61 hval
  obtain ⟨fuel, hf⟩ := h
  obtain ⟨x, e, h2, h3⟩ := act_trod hf
  have e' : cs = x.cells.toArray := by
    have : (Value.agg cs).cells.toList = cs.toList := rfl
    rw [this] at e
    exact Array.toList_inj.1 (by rw [e])
  subst e'
  exact ⟨x, rfl, h2, h3⟩
set_option maxRecDepth 100000 in
theorem acts_of {H : Type} {enc : TypeId × Value → H} {W : World} {base : Nat} {v : Value} {d : DataW H} {p : List MemPlace}
    (hval : Value.okWide Try.prog W .any base 22 v) (h : DataW.Trod enc Try.prog W 0 (fun _ => true) true 22 v d p) : ∃ l, ActsR W.heap.size W v l := by
  obtain ⟨a0, len, cap, rfl⟩ := okWide_slice Try.underlying22 hval
  obtain ⟨fuel, hf⟩ := h
  obtain ⟨l, h1, h2⟩ := slice_trod Try.underlying22 (by kernel_rfl) (show 0 < 5 by omega) Act.cells (fun _ => rfl) (fun x => Ents W.heap.size W x.v x.l ∧ ActOk x)
    (fun n cs y hy => by
      obtain ⟨x, e, h2, h3⟩ := act_trod hy
      exact ⟨x, e, h2, h3⟩) hf
  exact ⟨l, h1, h2⟩
end Go.Proofs.Ytaepdbkfaoiimac
/- A formatted chip, and what acts make of a store: plain laws. Conditions: none but those that each names. -/
set_option linter.unusedVariables false
set_option linter.unusedSimpArgs false
namespace Go.Proofs.Ytaepdbkfaoiimac
open Go.RowKit

/-- A manifest is noted on blocks that are blank. -/
theorem note_blank {c : Chip} {n : Man} (hc : CWf c) (hd : c.down = false) (hfu : c.fuse < 0) (h0 : (c.b 0).l = []) (h1 : (c.b 1).l = []) (hf : n.fault = 0) :
    ∃ c1, noteR c 0 n = (c1, 0, 0) ∧ CWf c1 ∧ c1.down = false ∧ c1.fuse < 0 ∧ Head c1 n 0 ∧ SameBut 0 c c1 ∧ ∀ i, (c1.b i).wear = (c.b i).wear := by
  have hwk : (c.b 0).weak = false := by
    cases e : (c.b 0).weak
    · rfl
    · have := hc.weak 0 e; omega
  have hbad : (c.b 0).bad = false := by
    cases e : (c.b 0).bad
    · rfl
    · have := hc.bad 0 e; rw [hwk] at this; cases this
  obtain ⟨c2, n2, e2, s2, f2, g2⟩ := write_calm (c := c) (b := 0) (d := n.bytes) (by decide) hd hbad hwk (mansize hf) (by rw [h0]; simp)
  have w2 : CWf c2 := by have := hc.write_ ((0 : Nat) : Int) n.bytes; rw [e2] at this; exact this
  obtain ⟨hn, hfu'⟩ := f2 hfu
  subst hn
  rcases g2 with ⟨_, d2, p2, l2, x2⟩ | ⟨h, _⟩
  · refine ⟨c2, ?_, w2, d2, hfu', ?_, s2, fun i => ?_⟩
    · unfold noteR
      rw [if_neg (by simpa using hf), if_neg (by rw [show ((0 : Int).toNat) = 0 from rfl, h0]; simp)]
      rw [show ((0 : Nat) : Int) = 0 from rfl] at e2
      rw [e2]
      simp
    · refine ⟨?_, .inl rfl⟩
      unfold findM
      rw [l2, s2.other 1 (by decide), h1, h0]
      show [].foldl (fStep 1) ([⟨pad n.bytes, false⟩].foldl (fStep 0) (Man.zero, -1)) = _
      rw [List.foldl_nil, List.foldl_cons, List.foldl_nil, fStep_eq, man_sheet hf]
      have := (fault_zero.1 hf).1
      show (if (0 : Int) < n.ep then (n, (0 : Int)) else (Man.zero, -1)) = (n, 0)
      rw [if_pos (by omega)]
    · by_cases e : i = 0
      · subst e; exact x2
      · rw [s2.other i e]
  · cases h
theorem wrap64_small {n : Int} (h0 : 0 ≤ n) (h1 : n ≤ 1000000000000) : wrap64 n = n := by unfold wrap64; omega
theorem wrap64_one : 0 ≤ wrap64 (0 + 1) ∧ wrap64 (0 + 1) ≤ 1 := by unfold wrap64; omega
/-- A store that has done so many acts, so many of which weakened a block. -/
structure Good (k j : Nat) (c : Chip) (s : SM) : Prop where
  inv : Inv c s
  calm : c.fuse < 0
  nw : s.m.nw.length ≤ 2
  ep : s.m.ep ≤ 1 + 12 * (k : Int)
  weak : weaks c ≤ j
  wear : ∀ i, 2 ≤ i → 0 ≤ (c.b i).wear ∧ (c.b i).wear ≤ 1 + 12 * (k : Int)
/-- A chip is formatted. -/
theorem format_calm : ∃ c1 c2 c3 c4 b, Chip.new.erase 0 = (c1, 0) ∧ c1.erase 1 = (c2, 0) ∧ c2.down = false ∧ blankM [] c2 = (c3, b, 0) ∧ noteR c3 0 (manL 1 b) = (c4, 0, 0) ∧
    Inv c4 ⟨manL 1 b, 0, [], []⟩ ∧ c4.fuse < 0 ∧ weaks c4 = 0 ∧ (∀ i, 0 ≤ (c4.b i).wear ∧ (c4.b i).wear ≤ 1) := by
  obtain ⟨c1, n1, e1, s1, f1, g1⟩ := erase_calm (c := Chip.new) (b := 0) (by decide) rfl rfl rfl
  obtain ⟨hn, hf1⟩ := f1 (by decide)
  subst hn
  have w1 : CWf c1 := by have := CWf.new.erase_ ((0 : Nat) : Int); rw [e1] at this; exact this
  rcases g1 with ⟨_, d1, p1, l1, x1⟩ | ⟨h, _⟩
  case inr => cases h
  have o1 : c1.b 1 = ⟨[], 0, false, false⟩ := s1.other 1 (by decide)
  obtain ⟨c2, n2, e2, s2, f2, g2⟩ := erase_calm (c := c1) (b := 1) (by decide) d1 (by rw [o1]) (by rw [o1])
  obtain ⟨hn, hf2⟩ := f2 hf1
  subst hn
  have w2 : CWf c2 := by have := w1.erase_ ((1 : Nat) : Int); rw [e2] at this; exact this
  rcases g2 with ⟨_, d2, p2, l2, x2⟩ | ⟨h, _⟩
  case inr => cases h
  have hb2 : ∀ i, (c2.b i).l = [] ∧ (c2.b i).weak = false ∧ (c2.b i).bad = false ∧ (2 ≤ i → (c2.b i).wear = 0) ∧ 0 ≤ (c2.b i).wear ∧ (c2.b i).wear ≤ 1 := by
    intro i
    by_cases i1 : i = 1
    · subst i1
      refine ⟨l2, by rw [s2.weak, o1], by rw [s2.bad, o1], fun h => by omega, ?_⟩
      rw [x2, o1]; exact wrap64_one
    · rw [s2.other i i1]
      by_cases i0 : i = 0
      · subst i0
        refine ⟨l1, s1.weak, s1.bad, fun h => by omega, ?_⟩
        rw [x1]; exact wrap64_one
      · rw [s1.other i i0]; exact ⟨rfl, rfl, rfl, fun _ => rfl, Int.le_refl _, show (0 : Int) ≤ 1 by decide⟩
  have hwk0 : weaks c2 = 0 := by
    unfold weaks
    rw [List.countP_eq_zero]
    intro i _
    simp [(hb2 i).2.1]
  obtain ⟨c3, b, n3, e3, w3, x3, f3, g3⟩ := seek_calm lays_erase [] 25 c2 (by have := goods_le c2; omega) w2 d2 ⟨2, by omega, by omega, (hb2 2).2.1, by simp⟩
  obtain ⟨hn, hf3⟩ := f3 hf2
  subst hn
  rcases g3 with ⟨_, d3, p3, q, rfl, q2, q24, _, hq, _, hqw, hwear⟩ | ⟨h, _⟩
  case inr => cases h
  have hfl : (manL 1 (q : Int)).fault = 0 := manL_fault (by decide) (by decide) (by omega) (by omega)
  obtain ⟨c4, e4, w4, d4, f4, h4, s4, x4⟩ := note_blank (n := manL 1 (q : Int)) w3 d3 hf3 (by rw [x3.keep 0 (.inr (by omega))]; exact (hb2 0).1) (by rw [x3.keep 1 (.inr (by omega))]; exact (hb2 1).1) hfl
  have hwk : ∀ i, (c4.b i).weak = false := fun i => by
    by_cases e : i = 0
    · subst e; rw [s4.weak, x3.weak]; exact (hb2 0).2.1
    · rw [s4.other i e, x3.weak]; exact (hb2 i).2.1
  have hw0 : weaks c4 = 0 := by
    unfold weaks
    rw [List.countP_eq_zero]
    intro i _
    simp [hwk i]
  refine ⟨c1, c2, c3, c4, (q : Int), e1, e2, d2, e3, e4, ⟨w4, d4, h4, ⟨hfl, trivial, ⟨[], ?_, rfl, by simp, by simp⟩, by omega, by simp [manL], by simp [manL], ⟨by simp [Rises], by simp⟩, ?_, ?_⟩⟩, f4, hw0, fun i => ?_⟩
  · show logE (c4.b ((q : Int)).toNat).l = some []
    rw [Int.toNat_natCast, s4.other q (by omega), hq]
    rfl
  · show (rowsOf [] []).length ≤ 40
    decide +kernel
  · show (liveE (mergeAll [])).length ≤ 40
    decide +kernel
  · rw [x4 i, hwear i]
    have := (hb2 i).2.2.2
    by_cases e : i = q
    · subst e
      rw [if_pos rfl, this.1 q2]
      exact wrap64_one
    · rw [if_neg e]; exact this.2
theorem format_good : ∃ c1 c2 c3 c4 b, Chip.new.erase 0 = (c1, 0) ∧ c1.erase 1 = (c2, 0) ∧ c2.down = false ∧ blankM [] c2 = (c3, b, 0) ∧ noteR c3 0 (manL 1 b) = (c4, 0, 0) ∧ Good 0 0 c4 ⟨manL 1 b, 0, [], []⟩ := by
  obtain ⟨c1, c2, c3, c4, b, e1, e2, d2, e3, e4, hi, hf, hw, hwe⟩ := format_calm
  exact ⟨c1, c2, c3, c4, b, e1, e2, d2, e3, e4, hi, hf, by simp [manL], by simp [manL], by omega, fun i _ => by have := hwe i; omega⟩
/-- Weakening a block leaves what a store holds. -/
theorem weaken_l (c : Chip) (b : Int) (i : Nat) : ((c.weaken b).1.b i).l = (c.b i).l ∧ ((c.weaken b).1.b i).bad = (c.b i).bad ∧ ((c.weaken b).1.b i).wear = (c.b i).wear := by
  unfold Chip.weaken
  split
  · exact ⟨rfl, rfl, rfl⟩
  · by_cases e : i = b.toNat
    · subst e; simp
    · show ((c.set b.toNat _).b i).l = _ ∧ _
      rw [Chip.set_far c _ e]; exact ⟨rfl, rfl, rfl⟩
theorem countP_one {n j : Nat} {f g : Nat → Bool} (h : ∀ i, i ≠ j → g i = f i) : (List.range n).countP g ≤ (List.range n).countP f + 1 := by
  induction n with
  | zero => simp
  | succ n ih =>
    rw [List.range_succ, List.countP_append, List.countP_append]
    by_cases e : n = j
    · subst e
      have : (List.range n).countP g = (List.range n).countP f := by
        refine List.countP_congr fun i hi => ?_
        rw [h i (by have := List.mem_range.1 hi; omega)]
      rw [this]
      have : [n].countP g ≤ 1 := by rw [List.countP_singleton]; split <;> omega
      omega
    · have : [n].countP g = [n].countP f := by rw [List.countP_singleton, List.countP_singleton, h n e]
      omega
theorem weaks_weaken (c : Chip) (b : Int) : weaks (c.weaken b).1 ≤ weaks c + 1 := by
  unfold Chip.weaken
  split
  · show weaks c ≤ _; omega
  · refine countP_one (j := b.toNat) fun i hi => ?_
    show ((c.set b.toNat _).b i).weak = _
    rw [Chip.set_far c _ hi]
theorem Good.weaken {k j : Nat} {c : Chip} {s : SM} (h : Good k j c s) (hj : j ≤ 5) (b : Int) : Good (k + 1) (j + 1) (c.weaken b).1 s := by
  have hl := weaken_l c b
  have hw := weaks_weaken c b
  have hwk := h.weak
  have hi := h.inv
  have hfd : (c.weaken b).1.fuse = c.fuse ∧ (c.weaken b).1.down = c.down := by unfold Chip.weaken; split <;> exact ⟨rfl, rfl⟩
  obtain ⟨es, hlog⟩ := hi.body.log
  refine ⟨⟨hi.wf.weaken_ b, by rw [hfd.2]; exact hi.up, hi.head.same (hl 0).1 (hl 1).1, ⟨hi.body.fault, tabsAt_keep hi.body.tabs fun x _ => (hl _).1, ⟨es, ?_, hlog.mem, ?_, hlog.ok⟩, by omega, hi.body.nwl, hi.body.odl, hi.body.old, hi.body.rows, hi.body.trows⟩⟩, by rw [hfd.1]; exact h.calm, h.nw, by have := h.ep; omega, by omega, fun i h2 => ?_⟩
  · rw [(hl _).1]; exact hlog.read
  · rw [(hl _).1]; exact hlog.few
  · rw [(hl i).2.2]; have := h.wear i h2; omega
theorem Good.mono {k j k' j' : Nat} {c : Chip} {s : SM} (h : Good k j c s) (hk : k ≤ k') (hj : j ≤ j') : Good k' j' c s :=
  ⟨h.inv, h.calm, h.nw, by have := h.ep; omega, by have := h.weak; omega, fun i hi => by have := h.wear i hi; omega⟩
theorem weaks_grew {c c' : Chip} {K : Int} (h : Grew c c' K) : weaks c' = weaks c := by
  unfold weaks
  congr 1
  funext i
  rw [h.weak]
theorem Good.step {k j : Nat} {c c' : Chip} {s s' : SM} {K : Int} (h : Good k j c s) (hk : k ≤ 1000) (hi : Inv c' s') (hf : c'.fuse < 0) (hn : s'.m.nw.length ≤ 2) (he : s'.m.ep ≤ s.m.ep + 12) (hg : Grew c c' K) (hK : K ≤ 12) : Good (k + 1) j c' s' := by
  refine ⟨hi, hf, hn, by have := h.ep; omega, by rw [weaks_grew hg]; exact h.weak, fun i h2 => ?_⟩
  have := (hg.mono hK).wear (1 + 12 * (k : Int)) (by omega) (by omega) h.wear i h2
  omega
/-- What is wrong with a batch of changes to rows. -/
def checkR (r : List Ent) (l : List Ent) : Nat :=
  if l.length = 0 ∨ 4 < l.length then 2
  else if bytesF l ≠ 0 then bytesF l
  else if 40 < (liveE (l.foldl putE r)).length then 8 else 0
theorem checkM_eq (s : SM) (l : List Ent) : checkM s l = checkR s.rows l := rfl
def rowsW (r : List Ent) (l : List Ent) : List Ent := if checkR r l = 0 then liveE (l.foldl putE r) else r
def kWrite : List UInt8 := [119, 114, 105, 116, 101]
def kFlush : List UInt8 := [102, 108, 117, 115, 104]
def kCompact : List UInt8 := [99, 111, 109, 112, 97, 99, 116]
def kWeaken : List UInt8 := [119, 101, 97, 107, 101, 110]
/-- An act to a store. -/
def doM (c : Chip) (s : SM) (a : Act) : Chip × SM × Nat :=
  if a.kind.toList = kWrite then writeM c s a.l
  else if a.kind.toList = kFlush then flushM c s
  else if a.kind.toList = kCompact then compM c s
  else if a.kind.toList = kWeaken then ((c.weaken a.a).1, s, 0) else (c, s, 0)
def rowsA (r : List Ent) (a : Act) : List Ent := if a.kind.toList = kWrite then rowsW r a.l else r
def weakA (a : Act) : Nat := if a.kind.toList = kWeaken then 1 else 0
theorem write_good {k j : Nat} {c : Chip} {s : SM} (h : Good k j c s) (hk : k ≤ 1000) (l : List Ent) :
    ∃ c' s', writeM c s l = (c', s', checkR s.rows l) ∧ Good (k + 1) j c' s' ∧ s'.rows = rowsW s.rows l := by
  by_cases hc : checkM s l = 0
  · obtain ⟨c', s', n, e, f, g⟩ := write_store h.inv (by have := h.ep; omega) hc
    obtain ⟨hn, hf⟩ := f h.calm
    subst hn
    rcases g with ⟨_, hi, hr, he1, he2, hg, hn⟩ | ⟨h9, _⟩
    · refine ⟨c', s', by rw [e, ← checkM_eq, hc], h.step hk hi hf (hn h.nw) (by omega) hg (by omega), ?_⟩
      rw [hr, rowsW, if_pos (by rw [← checkM_eq]; exact hc)]
    · omega
  · exact ⟨c, s, by rw [writeM, if_pos hc, checkM_eq], h.mono (by omega) (Nat.le_refl _), by rw [rowsW, if_neg (by rw [← checkM_eq]; exact hc)]⟩
theorem flush_good {k j : Nat} {c : Chip} {s : SM} (h : Good k j c s) (hk : k ≤ 1000) :
    ∃ c' s', flushM c s = (c', s', 0) ∧ Good (k + 1) j c' s' ∧ s'.rows = s.rows ∧ s'.mem = [] ∧ (∃ q : Nat, s'.m.log = q ∧ (c'.b q).l = [] ∧ (c'.b q).weak = false ∧ (c.b q).bad = false) ∧ (∀ b ∈ s'.m.nw, b ∈ s.m.nw ∨ (c.b b.toNat).bad = false) := by
  obtain ⟨c', s', n, e, f, g⟩ := flush_calm h.inv (by have := h.ep; omega)
  obtain ⟨hn, hf⟩ := f h.calm
  subst hn
  rcases g with ⟨_, hi, hr, he1, he2, hg, hm, hn, hq, hb⟩ | ⟨h9, _⟩
  · exact ⟨c', s', e, h.step hk hi hf hn (by omega) hg (by omega), hr, hm, hq, hb⟩
  · omega
theorem comp_good {k j : Nat} {c : Chip} {s : SM} (h : Good k j c s) (hk : k ≤ 1000) :
    ∃ c' s', compM c s = (c', s', 0) ∧ Good (k + 1) j c' s' ∧ s'.rows = s.rows ∧ s'.mem = s.mem ∧ s'.m.nw = [] ∧ s'.m.log = s.m.log ∧ s'.tabs = parts 14 (liveE (mergeAll s.tabs)) := by
  obtain ⟨c', s', n, e, f, g⟩ := comp_calm h.inv (by have := h.ep; omega)
  obtain ⟨hn, hf⟩ := f h.calm
  subst hn
  rcases g with ⟨_, hi, hr, he, hg, hm, hn, hlg, _, ht⟩ | ⟨h9, _⟩
  · exact ⟨c', s', e, h.step hk hi hf (by rw [hn]; simp) (by omega) hg (by omega), hr, hm, hn, hlg, ht⟩
  · omega
theorem do_good {k j : Nat} {c : Chip} {s : SM} (h : Good k j c s) (hk : k ≤ 1000) (a : Act) (hj : j + weakA a ≤ 6) :
    ∃ c' s' n, doM c s a = (c', s', n) ∧ Good (k + 1) (j + weakA a) c' s' ∧ s'.rows = rowsA s.rows a ∧ n = (if a.kind.toList = kWrite then checkR s.rows a.l else 0) := by
  unfold doM rowsA
  by_cases h1 : a.kind.toList = kWrite
  · have hw : weakA a = 0 := by unfold weakA; rw [h1]; rfl
    rw [if_pos h1, if_pos h1, if_pos h1, hw]
    obtain ⟨c', s', e, g, r⟩ := write_good h hk a.l
    exact ⟨c', s', _, e, g, r, rfl⟩
  rw [if_neg h1, if_neg h1, if_neg h1]
  by_cases h2 : a.kind.toList = kFlush
  · have hw : weakA a = 0 := by unfold weakA; rw [h2]; rfl
    rw [if_pos h2, hw]
    obtain ⟨c', s', e, g, r, _⟩ := flush_good h hk
    exact ⟨c', s', _, e, g, r, rfl⟩
  rw [if_neg h2]
  by_cases h3 : a.kind.toList = kCompact
  · have hw : weakA a = 0 := by unfold weakA; rw [h3]; rfl
    rw [if_pos h3, hw]
    obtain ⟨c', s', e, g, r, _⟩ := comp_good h hk
    exact ⟨c', s', _, e, g, r, rfl⟩
  rw [if_neg h3]
  by_cases h4 : a.kind.toList = kWeaken
  · have hw : weakA a = 1 := by unfold weakA; rw [if_pos h4]
    rw [if_pos h4, hw]
    exact ⟨_, _, _, rfl, h.weaken (by omega) a.a, rfl, rfl⟩
  · have hw : weakA a = 0 := by unfold weakA; rw [if_neg h4]
    rw [if_neg h4, hw]
    exact ⟨_, _, _, rfl, h.mono (by omega) (Nat.le_refl _), rfl, rfl⟩
def weakN (l : List Act) : Nat := (l.map weakA).sum
def lightA (most : Int) (l : List Act) : Bool := decide ((l.length : Int) ≤ most) && l.all (fun a => decide (a.s.size ≤ 100) && lightE 6 a.l)
end Go.Proofs.Ytaepdbkfaoiimac
/- The contracts of store.Format on a new chip, and of the law's Stored. Conditions: none. -/
set_option linter.unusedVariables false
set_option linter.unusedSimpArgs false
namespace Go.Proofs.Ytaepdbkfaoiimac
open Go.RowKit
attribute [local go_sem ↓] eql_err eql_nilerr neq_err neq_nilerr guard_err guard_nilerr guardn_err guardn_nilerr
set_option maxRecDepth 20000 in
set_option maxHeartbeats 4000000 in
/-- A new chip is formatted. -/
theorem format_any (B p : Nat) (w : World) (h : ChipR B w p Chip.new) :
    Calls Try.prog 50 #[.pointer (some ⟨p, 0, none⟩)] w fun e w' => ∃ c b, e = .returned .nilIface ∧ ChipR B w' p c ∧ Good 0 0 c ⟨manL 1 b, 0, [], []⟩ ∧ Fr B (· = p) w w' := by
  obtain ⟨c1, c2, c3, c4, b, e1, e2, d2, e3, e4, hgood⟩ := format_good
  have HG := Lib.hid hgood
  have H1 : Hid (Calls Try.prog 72 #[.pointer (some ⟨p, 0, none⟩), .int .i64 0] w fun e w' => e = .returned .nilIface ∧ ChipR B w' p c1 ∧ Fr B (· = p) w w') := by
    have := cerase_any B p Chip.new 0 w h
    rw [e1] at this
    exact this
  have H2 : Hid (∀ W, ChipR B W p c1 → Calls Try.prog 72 #[.pointer (some ⟨p, 0, none⟩), .int .i64 1] W fun e w' => e = .returned .nilIface ∧ ChipR B w' p c2 ∧ Fr B (· = p) W w') := fun W hW => by
    have := cerase_any B p c1 1 W hW
    rw [e2] at this
    exact this
  have H3 : Hid (∀ W, ChipR B W p c2 → Calls Try.prog 73 #[.pointer (some ⟨p, 0, none⟩), .slice none 0 0] W fun e w' => e = .returned (.tuple #[.int .i64 b, .nilIface]) ∧ ChipR B w' p c3 ∧ Fr B (· = p) W w') := fun W hW => by
    have := blank_any B p c2 (.slice none 0 0) [] W hW (Rd.nil _ _ _ _) d2
    rw [e3] at this
    exact this
  have H4 : Hid (∀ W, ChipR B W p c3 → Calls Try.prog 74 #[.pointer (some ⟨p, 0, none⟩), .int .i64 0, .agg #[.int .i64 1, .int .i64 b, .slice none 0 0, .slice none 0 0]] W fun e w' => e = .returned (.tuple #[.int .i64 0, .nilIface]) ∧ ChipR B w' p c4 ∧ Fr B (· = p) W w') := fun W hW => by
    have := note_any B p c3 0 _ (manL 1 b) W hW (.inl rfl) ⟨_, _, rfl, Rd.nil _ _ _ _, Rd.nil _ _ _ _⟩ (by simp [manL]) (by simp [manL])
    rw [e4] at this
    exact this
  clear e1 e2 d2 e3 e4 hgood h
  go_enter Try.func50, Try.ntmps50
  go_wp2_with fail
  refine wp_loop_rounds 3 ?_
  rw [rounds_succ]
  go_wp2_with (go_at_call 72; refine H1.out.mono ?_; rintro e w1 ⟨rfl, hc1, hf1⟩)
  have HF1 := Lib.hid hf1
  have H2' := Lib.hid (H2.out w1 hc1)
  clear hf1 hc1 H1 H2
  rw [rounds_succ]
  go_wp2_with (go_at_call 72; refine H2'.out.mono ?_; rintro e w2 ⟨rfl, hc2, hf2⟩)
  have HF2 := Lib.hid (HF1.out.trans hf2 (fun _ _ => trivial))
  have H3' := Lib.hid (H3.out w2 hc2)
  clear hf2 hc2 H2' H3
  rw [rounds_succ]
  go_wp2_with (go_at_call 73; refine H3'.out.mono ?_; rintro e w3 ⟨rfl, hc3, hf3⟩)
  have HF3 := Lib.hid (HF2.out.trans hf3 (fun _ _ => trivial))
  have H4' := Lib.hid (H4.out w3 hc3)
  clear hf3 hc3 H3' H4
  go_wp2_with (go_at_call 74; refine H4'.out.mono ?_; rintro e w4 ⟨rfl, hc4, hf4⟩)
  have HF4 := Lib.hid (HF3.out.trans hf4 (fun _ _ => trivial))
  have HC4 := Lib.hid hc4
  clear hf4 hc4 H4'
  go_ret
  exact ⟨c4, b, rfl, HC4.out, HG.out, HF4.out⟩
theorem rows_none : rowsOf [] [] = [] := List.eq_nil_of_length_eq_zero (by decide +kernel)
/-- A store that has done so many acts lies in these blocks. -/
structure StS (B : Nat) (W : World) (q p k j : Nat) (c : Chip) (s : SM) (F : List Nat) : Prop where
  st : StoreR B W q p s F
  ch : ChipR B W p c
  ok : Good k j c s
set_option maxRecDepth 20000 in
set_option maxHeartbeats 4000000 in
theorem stored_any (w : World) :
    Calls Try.prog 25 #[] w fun e w' => ∃ p q c s F, e = .returned (.tuple #[.pointer (some ⟨p, 0, none⟩), .pointer (some ⟨q, 0, none⟩), .bool true]) ∧ StS w.heap.size w' q p 0 0 c s F ∧ s.rows = [] ∧ w.heap.size ≤ p ∧ (∀ b ∈ F, w.heap.size ≤ b) ∧ Below w.heap.size w w' := by
  have HNEW := Lib.hid (cnew_any w.heap.size w (Nat.le_refl _))
  go_enter Try.func25, Try.ntmps25
  go_wp2_with (go_at_call 49; refine HNEW.out.mono ?_; rintro e w1 ⟨p, rfl, hp, hr1, hb1⟩)
  have HB1 := Lib.hid hb1
  have HFO := Lib.hid (format_any w.heap.size p w1 hr1)
  clear hr1 hb1 HNEW
  go_wp2_with (go_at_call 50; refine HFO.out.mono ?_; rintro e w2 ⟨c, b, rfl, hc2, hg, hf2⟩)
  have HB2 : Hid (Below w.heap.size w w2) := HB1.out.trans (hf2.below HB1.out.size)
  have HC2 := Lib.hid hc2
  have HG := Lib.hid hg
  have HOP := Lib.hid (open_any w.heap.size p c _ w2 hc2 hg.inv)
  clear hc2 hf2 HFO HB1 hg
  go_wp2_with (go_at_call 19; refine HOP.out.mono ?_; rintro e w3 ⟨q, F, rfl, hs3, hb3, hq3, hF3⟩)
  have HFI : Hid (StS w.heap.size w3 q p 0 0 c ⟨manL 1 b, 0, [], []⟩ F ∧ (∀ b ∈ F, w.heap.size ≤ b) ∧ Below w.heap.size w w3) := ⟨⟨hs3, HC2.out.below hb3, HG.out⟩, fun b hb => Nat.le_trans HB2.out.size (hF3 b hb), HB2.out.trans (hb3.mono HB2.out.size)⟩
  clear hs3 hb3 hF3 HOP
  exact bodyPost_ret (v := .tuple #[.pointer (some ⟨p, 0, none⟩), .pointer (some ⟨q, 0, none⟩), .bool true]) (by simp [results, Try.results25, go_sem] <;> rfl) rfl ⟨p, q, c, _, F, rfl, HFI.out.1, rows_none, hp, HFI.out.2⟩
end Go.Proofs.Ytaepdbkfaoiimac
/- The contracts of do, filled, rows, works, LightActs, Weak. Conditions: none but those that each names. -/
set_option linter.unusedVariables false
set_option linter.unusedSimpArgs false
namespace Go.Proofs.Ytaepdbkfaoiimac
open Go.RowKit
attribute [local go_sem ↓] eql_err eql_nilerr neq_err neq_nilerr guard_err guard_nilerr guardn_err guardn_nilerr
theorem ActsR.form {B : Nat} {w : World} {v : Value} {l : List Act} (h : ActsR B w v l) : ∃ A c, v = .slice A l.length c ∧ l.length ≤ c ∧ c ≤ 9223372036854775807 ∧
    ∀ i x, l[i]? = some x → ∃ b o, A = some ⟨b, o, none⟩ ∧ b < w.heap.size ∧ w.cell? ⟨b, o + i * 5, none⟩ = some (.string x.kind) ∧ w.cell? ⟨b, o + i * 5 + 1, none⟩ = some (.string x.s) ∧ w.cell? ⟨b, o + i * 5 + 2, none⟩ = some (.int .i64 x.a) ∧ w.cell? ⟨b, o + i * 5 + 3, none⟩ = some (.int .i64 x.b) ∧ w.cell? ⟨b, o + i * 5 + 4, none⟩ = some x.v := by
  obtain ⟨⟨_, A, c, h1, h2, h3, h4⟩, _⟩ := h
  refine ⟨A, c, h1, h2, h3, fun i x hi => ?_⟩
  have hlt : i < l.length := by
    rcases Nat.lt_or_ge i l.length with h | h
    · exact h
    · rw [List.getElem?_eq_none h] at hi; cases hi
  obtain ⟨b, o, hA, _, hb, hc⟩ := h4 (by omega)
  have f := fun j hj => flat_at Act.cells 5 (fun _ => rfl) l i j x hi hj
  exact ⟨b, o, hA, hb, hc _ _ (f 0 (by omega)), hc _ _ (f 1 (by omega)), hc _ _ (f 2 (by omega)), hc _ _ (f 3 (by omega)), hc _ _ (f 4 (by omega))⟩
theorem StS.post {B q p k j k' j' : Nat} {w w' : World} {c c' : Chip} {s s' : SM} {F : List Nat} {n : Nat} {e : Ending} (h : SPost B q p F w (c', s', n) e w') (hg : Good k' j' c' s') :
    ∃ F', StS B w' q p k' j' c' s' F' ∧ (∀ b ∈ F', b ∈ F ∨ w.heap.size ≤ b) ∧ Fr B (· ∈ q :: p :: F) w w' := by
  obtain ⟨_, hc, ⟨F', hs, hF⟩, hf⟩ := h
  exact ⟨F', ⟨hs, hc, hg⟩, hF, hf⟩
/-- The same of a world where the store's blocks are as they were. -/
theorem StS.below {B q p k j : Nat} {w w' : World} {c : Chip} {s : SM} {F : List Nat} (h : StS B w q p k j c s F) (hb : Below w.heap.size w w') : StS B w' q p k j c s F := ⟨h.st.below hb, h.ch.below hb, h.ok⟩
/-- What an act tells. -/
def doN (r : List Ent) (a : Act) : Nat := if a.kind.toList = kWrite then checkR r a.l else 0
/-- What an act leaves. -/
def DoP (B q p k j : Nat) (F : List Nat) (w : World) (r : List Ent) (n : Nat) (e : Ending) (w' : World) : Prop :=
  ∃ c' s' F', e = .returned (errV n) ∧ StS B w' q p k j c' s' F' ∧ s'.rows = r ∧ (∀ b ∈ F', b ∈ F ∨ w.heap.size ≤ b) ∧ Fr B (· ∈ q :: p :: F) w w'
theorem kind_eq {a : ByteArray} {k : List UInt8} (h : a.toList = k) : (a.toList == k) = true := by rw [beq_iff_eq]; exact h
theorem kind_ne {a : ByteArray} {k : List UInt8} (h : ¬ a.toList = k) : (a.toList == k) = false := by rw [beq_eq_false_iff_ne]; exact h
set_option maxRecDepth 20000 in
set_option maxHeartbeats 4000000 in
theorem do_any (B q p k j : Nat) (c : Chip) (s : SM) (F : List Nat) (kd sx : ByteArray) (xa xb : Int) (v : Value) (l : List Ent) (w : World) (h : StS B w q p k j c s F) (hl : Ents B w v l) (hk : k ≤ 1000) (hj : j + weakA ⟨kd, sx, xa, xb, v, l⟩ ≤ 6) :
    Calls Try.prog 29 #[.pointer (some ⟨p, 0, none⟩), .pointer (some ⟨q, 0, none⟩), .agg #[.string kd, .string sx, .int .i64 xa, .int .i64 xb, v]] w (DoP B q p (k + 1) (j + weakA ⟨kd, sx, xa, xb, v, l⟩) F w (rowsA s.rows ⟨kd, sx, xa, xb, v, l⟩) (doN s.rows ⟨kd, sx, xa, xb, v, l⟩)) := by
  obtain ⟨A, cp, rfl, _, _, _⟩ := hl.form
  have hb0 : Below w.heap.size w (w.alloc (.cells #[.string kd, .string sx, .int .i64 xa, .int .i64 xb, .slice A l.length cp] 61)) := (Below.refl _ _).alloc (Nat.le_refl _) _
  have h1 := h.below hb0
  have HF0 : Hid (Fr B (· ∈ q :: p :: F) w (w.alloc (.cells #[.string kd, .string sx, .int .i64 xa, .int .i64 xb, .slice A l.length cp] 61))) := Fr.of_below hb0
  have HSZ : Hid (w.heap.size ≤ (w.alloc (.cells #[.string kd, .string sx, .int .i64 xa, .int .i64 xb, .slice A l.length cp] 61)).heap.size) := hb0.size
  obtain ⟨c', s', n, e, g, r, hn⟩ := do_good h.ok hk ⟨kd, sx, xa, xb, .slice A l.length cp, l⟩ hj
  have FIN : Hid (∀ w' e', SPost B q p F (w.alloc (.cells #[.string kd, .string sx, .int .i64 xa, .int .i64 xb, .slice A l.length cp] 61)) (c', s', n) e' w' → DoP B q p (k + 1) (j + weakA ⟨kd, sx, xa, xb, .slice A l.length cp, l⟩) F w (rowsA s.rows ⟨kd, sx, xa, xb, .slice A l.length cp, l⟩) (doN s.rows ⟨kd, sx, xa, xb, .slice A l.length cp, l⟩) e' w') := by
    intro w' e' hp
    obtain ⟨F', hs, hF, hf⟩ := StS.post (k := k) (j := j) (c := c) (s := s) hp g
    exact ⟨c', s', F', by rw [hp.1, hn]; rfl, hs, r, fun b hb => (hF b hb).imp id (fun h => Nat.le_trans HSZ.out h), HF0.out.trans' hf (fun _ _ h => h)⟩
  unfold doM at e
  simp only at e
  by_cases e1 : kd.toList = kWrite
  · rw [if_pos e1] at e
    have HW := write_any B q p c s F _ l (w.alloc (.cells #[.string kd, .string sx, .int .i64 xa, .int .i64 xb, .slice A l.length cp] 61)) h1.st h1.ch h1.ok.inv (hl.below hb0) (by have := h.ok.ep; omega)
    rw [e] at HW
    have HW := Lib.hid HW
    have t1 := kind_eq e1
    unfold kWrite at t1
    clear h h1 hl hb0 e g r hn e1
    go_enter Try.func29, Try.ntmps29
    go_wp2_with fail
    refine HW.out.mono ?_
    rintro e w1 ⟨rfl, hr⟩
    have HR := Lib.hid (FIN.out w1 _ ⟨rfl, hr⟩)
    clear hr HW FIN
    go_wp2_with fail
    go_ret
    exact HR.out
  rw [if_neg e1] at e
  have t1 := kind_ne e1
  by_cases e2 : kd.toList = kFlush
  · rw [if_pos e2] at e
    have HW := flush_any B q p c s F (w.alloc (.cells #[.string kd, .string sx, .int .i64 xa, .int .i64 xb, .slice A l.length cp] 61)) h1.st h1.ch h1.ok.inv (by have := h.ok.ep; omega)
    rw [e] at HW
    have HW := Lib.hid HW
    have t2 := kind_eq e2
    unfold kWrite at t1
    unfold kFlush at t2
    clear h h1 hl hb0 e g r hn e1 e2
    go_enter Try.func29, Try.ntmps29
    go_wp2_with fail
    refine HW.out.mono ?_
    rintro e w1 ⟨rfl, hr⟩
    have HR := Lib.hid (FIN.out w1 _ ⟨rfl, hr⟩)
    clear hr HW FIN
    go_wp2_with fail
    go_ret
    exact HR.out
  rw [if_neg e2] at e
  have t2 := kind_ne e2
  by_cases e3 : kd.toList = kCompact
  · rw [if_pos e3] at e
    have HW := compact_any B q p c s F (w.alloc (.cells #[.string kd, .string sx, .int .i64 xa, .int .i64 xb, .slice A l.length cp] 61)) h1.st h1.ch h1.ok.inv
    rw [e] at HW
    have HW := Lib.hid HW
    have t3 := kind_eq e3
    unfold kWrite at t1
    unfold kFlush at t2
    unfold kCompact at t3
    clear h h1 hl hb0 e g r hn e1 e2 e3
    go_enter Try.func29, Try.ntmps29
    go_wp2_with fail
    refine HW.out.mono ?_
    rintro e w1 ⟨rfl, hr⟩
    have HR := Lib.hid (FIN.out w1 _ ⟨rfl, hr⟩)
    clear hr HW FIN
    go_wp2_with fail
    go_ret
    exact HR.out
  rw [if_neg e3] at e
  have t3 := kind_ne e3
  by_cases e4 : kd.toList = kWeaken
  · rw [if_pos e4] at e
    have t4 := kind_eq e4
    unfold kWrite at t1
    unfold kFlush at t2
    unfold kCompact at t3
    unfold kWeaken at t4
    have HWK := Lib.hid (weaken_any B p c xa (w.alloc (.cells #[.string kd, .string sx, .int .i64 xa, .int .i64 xb, .slice A l.length cp] 61)) h1.ch)
    have HS1 := Lib.hid h1
    injection e with e5 e6
    injection e6 with e6 e7
    subst e5; subst e6; subst e7
    clear h h1 hl hb0 g r hn e1 e2 e3 e4
    go_enter Try.func29, Try.ntmps29
    go_wp2_with fail
    refine HWK.out.mono ?_
    rintro e w1 ⟨rfl, hc1, hf1⟩
    have HR := Lib.hid (FIN.out w1 (.returned .nilIface) ⟨rfl, hc1, ⟨F, HS1.out.st.chip HS1.out.ch hf1, fun b hb => .inl hb⟩, hf1.mono (fun b _ e => by subst e; simp)⟩)
    clear hc1 hf1 HWK FIN
    go_wp2_with fail
    go_ret
    exact HR.out
  · rw [if_neg e4] at e
    have t4 := kind_ne e4
    unfold kWrite at t1
    unfold kFlush at t2
    unfold kCompact at t3
    unfold kWeaken at t4
    have HS1 := Lib.hid h1
    injection e with e5 e6
    injection e6 with e6 e7
    subst e5; subst e6; subst e7
    have HR := Lib.hid (FIN.out (w.alloc (.cells #[.string kd, .string sx, .int .i64 xa, .int .i64 xb, .slice A l.length cp] 61)) (.returned .nilIface) ⟨rfl, HS1.out.ch, ⟨F, HS1.out.st, fun b hb => .inl hb⟩, Fr.refl _ _ _⟩)
    clear h h1 hl hb0 g r hn e1 e2 e3 e4 FIN HS1
    go_enter Try.func29, Try.ntmps29
    go_wp2_with fail
    go_ret
    exact HR.out
theorem all_snoc {α : Type} {f : α → Bool} {l : List α} {k : Nat} {x : α} (h : l.take (k + 1) = l.take k ++ [x]) (h1 : (l.take k).all f = true) (h2 : f x = true) : (l.take (k + 1)).all f = true := by rw [h, List.all_append, h1]; simp [h2]
theorem all_no {α : Type} {f : α → Bool} {l : List α} {k : Nat} {x : α} (h : l[k]? = some x) (h2 : f x = false) : l.all f = false := by
  rw [List.all_eq_false]
  exact ⟨x, List.mem_of_getElem? h, by rw [h2]; simp⟩
set_option maxRecDepth 20000 in
set_option maxHeartbeats 4000000 in
theorem lightActs_any (B : Nat) (v : Value) (l : List Act) (most : Int) (w : World) (h : ActsR B w v l) :
    Calls Try.prog 27 #[v, .int .i64 most] w fun e w' => e = .returned (.bool (lightA most l)) ∧ w = w' := by
  obtain ⟨A, cp, rfl, hc1, hc2, hcell⟩ := h.form
  have HC := Lib.hid hcell
  have HEN := Lib.hid (fun x hx => (h.2 x hx).1)
  clear hcell h
  by_cases hm : (l.length : Int) ≤ most
  case neg =>
    have t9 : decide (most < (l.length : Int)) = true := decide_eq_true (by omega)
    have HF : Hid (lightA most l = false) := by rw [Hid, lightA, decide_eq_false hm]; rfl
    clear hm
    go_enter Try.func27, Try.ntmps27
    go_wp2_with fail
    go_ret
    exact ⟨by rw [HF.out]; rfl, rfl⟩
  have t9 : decide (most < (l.length : Int)) = false := decide_eq_false (by omega)
  have HF : Hid (lightA most l = l.all (fun a => decide (a.s.size ≤ 100) && lightE 6 a.l)) := by rw [Hid, lightA, decide_eq_true hm]; rfl
  clear hm
  go_enter Try.func27, Try.ntmps27
  go_wp2_with fail
  go_loop [5] (fun i => ∃ k : Nat, k ≤ l.length ∧ i = .int .i64 k ∧ Hid ((l.take k).all (fun a => decide (a.s.size ≤ 100) && lightE 6 a.l) = true)) (fun i => l.length - (intOf i).toNat)
  case atStart => exact ⟨0, Nat.zero_le _, rfl, rfl⟩
  case round =>
    obtain ⟨k, hk, rfl, hall⟩ := hrel
    by_cases hlt : k < l.length
    · obtain ⟨x, hx, htk, _⟩ := getElem?_of_lt hlt
      obtain ⟨b, o, rfl, hb, y0, y1, y2, y3, y4⟩ := HC.out k x hx
      have hen := HEN.out x (List.mem_of_getElem? hx)
      have HNO := Lib.hid (all_no (f := fun a : Act => decide (a.s.size ≤ 100) && lightE 6 a.l) hx)
      have HYE := Lib.hid (all_snoc (f := fun a : Act => decide (a.s.size ≤ 100) && lightE 6 a.l) htk hall.out)
      obtain ⟨kd, sx, xa, xb, vx, lx⟩ := x
      simp only at y0 y1 y2 y3 y4 hen
      obtain ⟨A', cp', rfl, _, _, _⟩ := hen.form
      have HLE := Lib.hid (lightE_any B _ lx 6 w hen)
      have g1 : (0 : Int) ≤ (k : Int) := by omega
      have g2 : (k : Int) < (l.length : Int) := by omega
      clear hx htk hen
      by_cases hs : sx.size ≤ 100
      case neg =>
        have t22 : decide ((100 : Int) < (sx.size : Int)) = true := decide_eq_true (by omega)
        have HFF : Hid (lightA most l = false) := by rw [Hid, HF.out]; exact HNO.out (by simp [hs])
        clear hs
        go_wp2_with fail
        go_ret
        exact ⟨by rw [HFF.out]; rfl, rfl⟩
      have t22 : decide ((100 : Int) < (sx.size : Int)) = false := decide_eq_false (by omega)
      cases hle : lightE 6 lx
      · have HFF : Hid (lightA most l = false) := by rw [Hid, HF.out]; exact HNO.out (by simp [hle])
        rw [hle] at HLE
        clear hs hle
        go_wp2_with (go_at_call 13; refine HLE.out.mono ?_; rintro e w1 ⟨rfl, rfl⟩)
        go_ret
        exact ⟨by rw [HFF.out]; rfl, rfl⟩
      · have HNX : Hid ((l.take (k + 1)).all (fun a => decide (a.s.size ≤ 100) && lightE 6 a.l) = true) := HYE.out (by simp [hle, hs])
        rw [hle] at HLE
        clear hs hle
        go_wp2_with (go_at_call 13; refine HLE.out.mono ?_; rintro e w1 ⟨rfl, rfl⟩)
        go_round
        case rel => exact ⟨k + 1, by omega, by go_num, HNX.out⟩
        case measure => simp [intOf] <;> omega
    · have HFF : Hid (lightA most l = true) := by
        have := hall.out
        rw [List.take_of_length_le (by omega)] at this
        rw [Hid, HF.out, this]
      have t13 : decide ((k : Int) < (l.length : Int)) = false := decide_eq_false (by omega)
      go_wp2_with fail
      go_ret
      exact ⟨by rw [HFF.out]; rfl, rfl⟩
theorem weakN_snoc {l : List Act} {k : Nat} {x : Act} (h : l.take (k + 1) = l.take k ++ [x]) : weakN (l.take (k + 1)) = weakN (l.take k) + weakA x := by
  unfold weakN; rw [h]; simp
theorem weakN_le (l : List Act) : weakN l ≤ l.length := by
  unfold weakN
  induction l with
  | nil => simp
  | cons x l ih =>
    have : weakA x ≤ 1 := by unfold weakA; split <;> omega
    simp; omega
set_option maxRecDepth 20000 in
set_option maxHeartbeats 4000000 in
theorem weak_any (B : Nat) (v : Value) (l : List Act) (w : World) (h : ActsR B w v l) :
    Calls Try.prog 28 #[v] w fun e w' => e = .returned (.int .i64 (weakN l)) ∧ w = w' := by
  obtain ⟨A, cp, rfl, hc1, hc2, hcell⟩ := h.form
  have HC := Lib.hid hcell
  clear hcell h
  go_enter Try.func28, Try.ntmps28
  go_wp2_with fail
  go_loop [3, 4] (fun n i => ∃ k : Nat, k ≤ l.length ∧ i = .int .i64 k ∧ n = .int .i64 (weakN (l.take k))) (fun _ i => l.length - (intOf i).toNat)
  case atStart => exact ⟨0, Nat.zero_le _, rfl, rfl⟩
  case round =>
    obtain ⟨k, hk, rfl, rfl⟩ := hrel
    have hwl := weakN_le (l.take k)
    have hwl2 : (l.take k).length ≤ k := by rw [List.length_take]; omega
    by_cases hlt : k < l.length
    · obtain ⟨x, hx, htk, _⟩ := getElem?_of_lt hlt
      obtain ⟨b, o, rfl, hb, y0, y1, y2, y3, y4⟩ := HC.out k x hx
      have HW := Lib.hid (weakN_snoc htk)
      have g1 : (0 : Int) ≤ (k : Int) := by omega
      have g2 : (k : Int) < (l.length : Int) := by omega
      clear hx htk y1 y2 y3 y4
      generalize hN : weakN (l.take k) = N at *
      by_cases hkw : x.kind.toList = kWeaken
      · have t16 := kind_eq hkw
        have HA : Hid (weakA x = 1) := if_pos hkw
        unfold kWeaken at t16
        clear hkw
        go_wp2_with fail
        go_round
        case rel => exact ⟨k + 1, by omega, by go_num, by rw [HW.out, HA.out]; go_num⟩
        case measure => simp [intOf] <;> omega
      · have t16 := kind_ne hkw
        have HA : Hid (weakA x = 0) := if_neg hkw
        unfold kWeaken at t16
        clear hkw
        go_wp2_with fail
        go_round
        case rel => exact ⟨k + 1, by omega, by go_num, by rw [HW.out, HA.out]; rfl⟩
        case measure => simp [intOf] <;> omega
    · have e : l.take k = l := List.take_of_length_le (by omega)
      rw [e]
      have t13 : decide ((k : Int) < (l.length : Int)) = false := decide_eq_false (by omega)
      go_wp2_with fail
      go_ret
      exact ⟨rfl, rfl⟩
set_option maxRecDepth 20000 in
theorem rows_any (B q p k j : Nat) (c : Chip) (s : SM) (F : List Nat) (w : World) (h : StS B w q p k j c s F) :
    Calls Try.prog 16 #[.pointer (some ⟨q, 0, none⟩)] w fun e w' => ∃ v, e = .returned v ∧ Ents B w' v s.rows ∧ Below w.heap.size w w' := by
  have HR := Lib.hid (srows_any B q p c s F w h.st h.ch h.ok.inv)
  clear h
  go_enter Try.func16, Try.ntmps16
  go_wp2_with fail
  refine HR.out.mono ?_
  rintro e w1 ⟨v, rfl, hv, hb⟩
  have HV := Lib.hid (And.intro hv hb)
  clear hv hb HR
  go_wp2_with fail
  go_ret
  exact ⟨v, rfl, HV.out⟩
end Go.Proofs.Ytaepdbkfaoiimac
/- The contracts of filled and works. Conditions: none. -/
set_option linter.unusedVariables false
set_option linter.unusedSimpArgs false
namespace Go.Proofs.Ytaepdbkfaoiimac
open Go.RowKit
attribute [local go_sem ↓] eql_err eql_nilerr neq_err neq_nilerr guard_err guard_nilerr guardn_err guardn_nilerr
theorem FrQ.below {B q p : Nat} {F : List Nat} {w0 w w' : World} (hb : Below B w0 w) (hB : B ≤ w0.heap.size) (hf : Fr B (· ∈ q :: p :: F) w w') : Below B w0 w' := hb.trans (hf.below (Nat.le_trans hB hb.size))
/-- A store that acts have filled. -/
def FilS (w : World) (l : List Act) (p q : Nat) (w' : World) : Prop := ∃ c s F, StS w.heap.size w' q p l.length (weakN l) c s F ∧ s.rows = l.foldl rowsA [] ∧ (∀ b ∈ F, w.heap.size ≤ b) ∧ w.heap.size ≤ p ∧ Below w.heap.size w w'
def filG (l : List Act) : Bool := lightA 80 l && decide (weakN l ≤ 6)
def FilP (w : World) (l : List Act) (e : Ending) (w' : World) : Prop :=
  (filG l = false ∧ e = .returned (.tuple #[.pointer none, .pointer none, .bool false]) ∧ w = w') ∨ (filG l = true ∧ ∃ p q, e = .returned (.tuple #[.pointer (some ⟨p, 0, none⟩), .pointer (some ⟨q, 0, none⟩), .bool true]) ∧ FilS w l p q w')
set_option maxRecDepth 20000 in
set_option maxHeartbeats 4000000 in
theorem filled_any (B : Nat) (v : Value) (l : List Act) (w : World) (h : ActsR B w v l) (hB : B ≤ w.heap.size) :
    Calls Try.prog 12 #[v] w (FilP w l) := by
  have FIN0 : Hid (filG l = false → ∀ (tmps : Array Value), tmps[2]? = some (.pointer none) → tmps[3]? = some (.pointer none) → tmps[4]? = some (.bool false) →
      bodyPost Try.prog Try.f12 (FilP w l) .ret { tmps := tmps, defers := [] } w) := by
    intro hg tmps t2 t3 t4
    exact bodyPost_ret (v := .tuple #[.pointer none, .pointer none, .bool false]) (by simp [results, Try.results12, go_sem, t2, t3, t4]) rfl (.inl ⟨hg, rfl, rfl⟩)
  have FIN1 : Hid (∀ (wr : World) (tmps : Array Value) (p q : Nat), filG l = true → FilS w l p q wr → tmps[2]? = some (.pointer (some ⟨p, 0, none⟩)) → tmps[3]? = some (.pointer (some ⟨q, 0, none⟩)) → tmps[4]? = some (.bool true) →
      bodyPost Try.prog Try.f12 (FilP w l) .ret { tmps := tmps, defers := [] } wr) := by
    intro wr tmps p q hg hs t2 t3 t4
    exact bodyPost_ret (v := .tuple #[.pointer (some ⟨p, 0, none⟩), .pointer (some ⟨q, 0, none⟩), .bool true]) (by simp [results, Try.results12, go_sem, t2, t3, t4]) rfl (.inr ⟨hg, p, q, rfl, hs⟩)
  have HLA := Lib.hid (lightActs_any B v l 80 w h)
  have HWK := Lib.hid (weak_any B v l w h)
  obtain ⟨A, cp, rfl, hc1, hc2, hcell⟩ := h.form
  have HC := Lib.hid hcell
  have HEN := Lib.hid (fun x hx => (h.2 x hx).1)
  clear hcell h
  cases hla : lightA 80 l
  · have HG : Hid (filG l = false) := by rw [Hid, filG, hla]; rfl
    rw [hla] at HLA
    clear hla
    go_enter Try.func12, Try.ntmps12
    go_wp2_with (go_at_call 27; refine HLA.out.mono ?_; rintro e w1 ⟨rfl, rfl⟩)
    exact FIN0.out HG.out _ rfl rfl rfl
  rw [hla] at HLA
  by_cases hw : weakN l ≤ 6
  case neg =>
    have HG : Hid (filG l = false) := by rw [Hid, filG, hla, decide_eq_false hw]; rfl
    have t15 : decide ((6 : Int) < (weakN l : Int)) = true := decide_eq_true (by omega)
    clear hla hw
    go_enter Try.func12, Try.ntmps12
    go_wp2_with (first
      | (go_at_call 27; refine HLA.out.mono ?_; rintro e w1 ⟨rfl, rfl⟩)
      | (go_at_call 28; refine HWK.out.mono ?_; rintro e w2 ⟨rfl, rfl⟩))
    exact FIN0.out HG.out _ rfl rfl rfl
  have HG : Hid (filG l = true) := by rw [Hid, filG, hla, decide_eq_true hw]; rfl
  have t15 : decide ((6 : Int) < (weakN l : Int)) = false := decide_eq_false (by omega)
  have hl80 : l.length ≤ 80 := by
    simp [lightA] at hla
    omega
  have HST := Lib.hid (stored_any w)
  have HW6 := Lib.hid hw
  clear hla hw
  go_enter Try.func12, Try.ntmps12
  go_wp2_with (first
    | (go_at_call 27; refine HLA.out.mono ?_; rintro e w1 ⟨rfl, rfl⟩)
    | (go_at_call 28; refine HWK.out.mono ?_; rintro e w2 ⟨rfl, rfl⟩)
    | (go_at_call 25; refine HST.out.mono ?_; rintro e w3 ⟨p, q, c, s, F, rfl, hst, hrw, hpw, hFw, hb3⟩))
  have HS3 := Lib.hid hst
  have HB3 := Lib.hid hb3
  have HF3 := Lib.hid hFw
  have HR3 := Lib.hid hrw
  clear hst hb3 hFw hrw HLA HWK HST t15
  go_loopw [8] (fun i wr => ∃ (k : Nat) (c : Chip) (s : SM) (F : List Nat), i = .int .i64 (k : Int) ∧ k ≤ l.length ∧ Hid (StS w.heap.size wr q p k (weakN (l.take k)) c s F) ∧ Hid (s.rows = (l.take k).foldl rowsA []) ∧ Hid (∀ b ∈ F, w.heap.size ≤ b) ∧ Hid (Below w.heap.size w wr)) (fun i _ => l.length - (intOf i).toNat)
  case atStart => exact ⟨0, c, s, F, rfl, Nat.zero_le _, HS3.out, HR3.out, HF3.out, HB3.out⟩
  case round =>
    obtain ⟨k, c, s, F, rfl, hk, hst, hrw, hF, hbl⟩ := hrel
    by_cases hlt : k < l.length
    · obtain ⟨x, hx, htk, _⟩ := getElem?_of_lt hlt
      obtain ⟨b, o, rfl, hb, e0, e1, e2, e3, e4⟩ := HC.out k x hx
      have hen := (HEN.out x (List.mem_of_getElem? hx)).below hbl.out
      have hwn := weakN_snoc htk
      have hw1 : weakN (l.take (k + 1)) ≤ 6 := by
        have h1 : weakN l = weakN (l.take (k + 1)) + weakN (l.drop (k + 1)) := by
          unfold weakN; rw [← List.sum_append, ← List.map_append, List.take_append_drop]
        have := HW6.out
        omega
      have hfo : (l.take (k + 1)).foldl rowsA [] = rowsA ((l.take k).foldl rowsA []) x := by rw [htk, List.foldl_append]; rfl
      have HFO := Lib.hid hfo
      have HWN := Lib.hid hwn
      obtain ⟨kd, sx, xa, xb, vx, lx⟩ := x
      simp only at e0 e1 e2 e3 e4 hen
      obtain ⟨A', cp', rfl, _, _, _⟩ := hen.form
      have hent : Ents w.heap.size wr (.slice A' lx.length cp') lx := ⟨Rd.mono hen.1 hB, hen.2⟩
      have HDO := Lib.hid (do_any w.heap.size q p k (weakN (l.take k)) c s F kd sx xa xb _ lx wr hst.out hent (by omega) (by rw [← hwn]; exact hw1))
      have d0 := (hbl.out.cell (p := ⟨b, o + k * 5, none⟩) hb).trans e0
      have d1 := (hbl.out.cell (p := ⟨b, o + k * 5 + 1, none⟩) hb).trans e1
      have d2 := (hbl.out.cell (p := ⟨b, o + k * 5 + 2, none⟩) hb).trans e2
      have d3 := (hbl.out.cell (p := ⟨b, o + k * 5 + 3, none⟩) hb).trans e3
      have d4 := (hbl.out.cell (p := ⟨b, o + k * 5 + 4, none⟩) hb).trans e4
      have g1 : (0 : Int) ≤ (k : Int) := by omega
      have g2 : (k : Int) < (l.length : Int) := by omega
      clear hx htk e0 e1 e2 e3 e4 hen hent hwn hfo hw1
      go_wp2_with fail
      refine HDO.out.mono ?_
      rintro e w5 ⟨c5, s5, F5, rfl, hs5, hr5, hF5, hf5⟩
      have HNX : Hid (StS w.heap.size w5 q p (k + 1) (weakN (l.take (k + 1))) c5 s5 F5 ∧ s5.rows = (l.take (k + 1)).foldl rowsA [] ∧ (∀ b ∈ F5, w.heap.size ≤ b) ∧ Below w.heap.size w w5) := by
        refine ⟨by rw [HWN.out]; exact hs5, by rw [hr5, HFO.out, hrw.out], fun b hb => ?_, FrQ.below hbl.out (Nat.le_refl _) hf5⟩
        rcases hF5 b hb with h | h
        · exact hF.out b h
        · exact Nat.le_trans hbl.out.size h
      clear hs5 hr5 hF5 hf5 HDO d0 d1 d2 d3 d4
      go_wp2_with fail
      go_roundw
      case rel => exact ⟨k + 1, c5, s5, F5, by go_num, by omega, HNX.out⟩
      case measure => simp [intOf] <;> omega
    · obtain rfl : k = l.length := by omega
      rw [List.take_length] at hst hrw
      have t27 : decide ((l.length : Int) < (l.length : Int)) = false := by simp
      go_wp2_with fail
      exact FIN1.out _ _ p q HG.out ⟨c, s, F, hst.out, hrw.out, hF.out, hpw, hbl.out⟩ rfl rfl rfl
/-- What a key is told, by the rows. -/
def toldR (r : List Ent) (key : ByteArray) : Value := .tuple #[.string ((getE r key).getD Ent.zero).v, .bool (getE r key).isSome, .nilIface]
theorem told_rows {c : Chip} {s : SM} (hi : Inv c s) (key : ByteArray) : toldV (s.get key) = toldR s.rows key := by
  unfold toldR
  rw [SM.get_rows hi]
  cases hg : s.get key with
  | none => rfl
  | some e =>
    cases heg : e.g
    · have e1 : (some e : Option Ent).filter (fun e => !e.g) = some e := by simp [heg]
      rw [e1]
      show Value.tuple #[.string e.v, .bool (true && !e.g), .nilIface] = .tuple #[.string e.v, .bool true, .nilIface]
      rw [heg]; rfl
    · have e1 : (some e : Option Ent).filter (fun e => !e.g) = none := by simp [heg]
      rw [e1]
      have hf : faultE e = 0 := by
        unfold SM.get at hg
        cases hm : getE s.mem key with
        | some x =>
          rw [hm] at hg
          cases hg
          obtain ⟨es, hlog⟩ := hi.body.log
          exact hlog.fault e (getE_mem hm).1
        | none =>
          rw [hm] at hg
          have hg : firstE s.tabs key = some e := hg
          unfold firstE at hg
          obtain ⟨l, hl, he⟩ := List.exists_of_findSome?_eq_some hg
          exact chkT_all (tabF_parts (tabsAt_ok hi.body.tabs l hl)).2.2 e (getE_mem he).1
      have hv : e.v = ByteArray.empty := by
        have h1 := (faultE_zero hf).2.1 heg
        rw [← toList_inj, h1]
        exact ((toList_nil ByteArray.empty).2 rfl).symm
      show Value.tuple #[.string e.v, .bool (true && !e.g), .nilIface] = .tuple #[.string ByteArray.empty, .bool false, .nilIface]
      rw [heg, hv]; rfl
abbrev wK : ByteArray := ⟨#[107]⟩
abbrev wX : ByteArray := ⟨#[120]⟩
theorem wkx_check : checkR [] [⟨wK, wX, false⟩] = 0 := by decide +kernel
theorem wkx_get : getE (rowsW [] [⟨wK, wX, false⟩]) wK = some ⟨wK, wX, false⟩ := by
  rw [rowsW, if_pos wkx_check]
  simp [putE, below, liveE, getE]
set_option maxRecDepth 20000 in
set_option maxHeartbeats 4000000 in
theorem works_any (w : World) : Calls Try.prog 11 #[] w fun e w' => e = .returned (.bool true) ∧ Below w.heap.size w w' := by
  have HST := Lib.hid (stored_any w)
  go_enter Try.func11, Try.ntmps11
  go_wp2_with (go_at_call 25; refine HST.out.mono ?_; rintro e w3 ⟨p, q, c, s, F, rfl, hst, hrw, hpw, hFw, hb3⟩)
  have hb4 : Below w3.heap.size w3 (w3.alloc (.cells #[.string wK, .string wX, .bool false] 34)) := (Below.refl _ _).alloc (Nat.le_refl _) _
  have hst4 := hst.below hb4
  have HB4 : Hid (Below w.heap.size w (w3.alloc (.cells #[.string wK, .string wX, .bool false] 34))) := hb3.trans (hb4.mono hb3.size)
  have hen : Ents w.heap.size (w3.alloc (.cells #[.string wK, .string wX, .bool false] 34)) (.slice (some ⟨w3.heap.size, 0, none⟩) 1 1) [⟨wK, wX, false⟩] := ⟨rd_lit3 _ w3 _ rfl wK wX false, by intro e he; simp at he; subst he; exact ⟨by decide, by decide⟩⟩
  obtain ⟨c1, s1, e1, g1, r1⟩ := write_good hst.ok (by omega) [⟨wK, wX, false⟩]
  rw [hrw, wkx_check] at e1
  rw [hrw] at r1
  have hw1 := write_any w.heap.size q p c s F _ [⟨wK, wX, false⟩] (w3.alloc (.cells #[.string wK, .string wX, .bool false] 34)) hst4.st hst4.ch hst4.ok.inv hen (by have := hst.ok.ep; omega)
  rw [e1] at hw1
  have HW1 := Lib.hid hw1
  have HG1 := Lib.hid g1
  have HR1 := Lib.hid r1
  clear hst hrw hFw hb3 hb4 hst4 hen e1 r1 g1 hw1 HST
  refine HW1.out.mono ?_
  rintro e w5 ⟨rfl, hr⟩
  obtain ⟨F5, hs5, hF5, hf5⟩ := StS.post (k := 0) (j := 0) (c := c) (s := s) (n := 0) ⟨rfl, hr⟩ HG1.out
  have HB5 : Hid (Below w.heap.size w w5) := FrQ.below HB4.out (Nat.le_refl _) hf5
  obtain ⟨c2, s2, e2, g2, r2, _⟩ := flush_good HG1.out (by omega)
  have hw2 := flush_any w.heap.size q p c1 s1 F5 w5 hs5.st hs5.ch hs5.ok.inv (by have := hs5.ok.ep; omega)
  rw [e2] at hw2
  have HW2 := Lib.hid hw2
  have HG2 := Lib.hid g2
  have HR2 : Hid (s2.rows = rowsW [] [⟨wK, wX, false⟩]) := r2.trans HR1.out
  clear hr hs5 hF5 hf5 e2 g2 r2 hw2 HW1
  simp only
  rw [show errV 0 = Value.nilIface from rfl]
  go_wp2_with fail
  refine HW2.out.mono ?_
  rintro e w6 ⟨rfl, hr⟩
  obtain ⟨F6, hs6, hF6, hf6⟩ := StS.post (k := 0) (j := 0) (c := c1) (s := s1) (n := 0) ⟨rfl, hr⟩ HG2.out
  have HB6 : Hid (Below w.heap.size w w6) := FrQ.below HB5.out (Nat.le_refl _) hf6
  have HOP := Lib.hid (open_any w.heap.size p c2 s2 w6 hs6.ch hs6.ok.inv)
  have HS6 := Lib.hid hs6
  clear hr hs6 hF6 hf6 HW2
  simp only
  rw [show errV 0 = Value.nilIface from rfl]
  go_wp2_with fail
  refine HOP.out.mono ?_
  rintro e w7 ⟨q2, F7, rfl, hs7, hb7, hq7, hF7⟩
  have hge := sget_any w.heap.size q2 p c2 s2 F7 wK w7 hs7 (HS6.out.ch.below hb7) HS6.out.ok.inv (by decide)
  rw [told_rows HS6.out.ok.inv, HR2.out] at hge
  unfold toldR at hge
  rw [wkx_get] at hge
  have HGE : Hid (Calls Try.prog 15 #[.pointer (some ⟨q2, 0, none⟩), .string wK] w7 fun e w' => e = .returned (.tuple #[.string wX, .bool true, .nilIface]) ∧ Below w7.heap.size w7 w') := hge
  have HB7 := Lib.hid (HB6.out.trans (hb7.mono HB6.out.size))
  clear hs7 hb7 hq7 hF7 hge HOP
  go_wp2_with fail
  refine HGE.out.mono ?_
  rintro e w8 ⟨rfl, hb8⟩
  have HB8 := Lib.hid (HB7.out.trans (hb8.mono HB7.out.size))
  clear hb8 HGE
  go_wp2_with fail
  go_ret
  exact ⟨by simp, HB8.out⟩
end Go.Proofs.Ytaepdbkfaoiimac
/- What the statements about a filled store share. Conditions: none but those that each names. -/
set_option linter.unusedVariables false
set_option linter.unusedSimpArgs false
namespace Go.Proofs.Ytaepdbkfaoiimac
open Go.RowKit
theorem fil_no {l : List Act} (hg : filG l = false) {W : World} {n : Nat} {args : Array Value} (h : Calls Try.prog n args W (FilP W l)) : Calls Try.prog n args W fun e w' => e = .returned (.tuple #[.pointer none, .pointer none, .bool false]) ∧ W = w' :=
  h.mono fun e w' hp => by
    rcases hp with ⟨_, h⟩ | ⟨h, _⟩
    · exact h
    · rw [hg] at h; cases h
theorem fil_yes {l : List Act} (hg : filG l = true) {W : World} {n : Nat} {args : Array Value} (h : Calls Try.prog n args W (FilP W l)) : Calls Try.prog n args W fun e w' => ∃ p q, e = .returned (.tuple #[.pointer (some ⟨p, 0, none⟩), .pointer (some ⟨q, 0, none⟩), .bool true]) ∧ FilS W l p q w' :=
  h.mono fun e w' hp => by
    rcases hp with ⟨h, _⟩ | ⟨_, h⟩
    · rw [hg] at h; cases h
    · exact h
theorem filG_len {l : List Act} (h : filG l = true) : l.length ≤ 80 := by
  unfold filG lightA at h
  simp at h
  omega
theorem rows_alive (s : SM) : ∀ e ∈ s.rows, e.g = false := by
  intro e he
  have := (List.mem_filter.1 (show e ∈ (mergeAll (s.mem :: s.tabs)).filter (fun e => !e.g) from he)).2
  simpa using this
theorem getE_alive {l : List Ent} (h : ∀ e ∈ l, e.g = false) (key : ByteArray) : (getE l key).filter (fun e => !e.g) = getE l key := by
  cases hg : getE l key with
  | none => rfl
  | some e => simp [h e (getE_mem hg).1]
theorem get_rowsW {r l : List Ent} (hr : Rises r) (ha : ∀ e ∈ r, e.g = false) (h0 : checkR r l = 0) (key : ByteArray) : getE (rowsW r l) key = ((lastE l key).or (getE r key)).filter (fun e => !e.g) := by
  rw [rowsW, if_pos h0, get_live (rises_puts l hr), get_puts l hr]
theorem get_others {r l : List Ent} (hr : Rises r) (ha : ∀ e ∈ r, e.g = false) {key : ByteArray} (hk : ∀ e ∈ l, e.k ≠ key) : getE (rowsW r l) key = getE r key := by
  by_cases h0 : checkR r l = 0
  · rw [get_rowsW hr ha h0]
    have : lastE l key = none := by
      unfold lastE getE
      rw [List.find?_eq_none]
      intro e he
      have := hk e (List.mem_reverse.1 he)
      simpa using this
    rw [this, Option.none_or, getE_alive ha]
  · rw [rowsW, if_neg h0]
theorem ents_up {B B' : Nat} {w : World} {v : Value} {l : List Ent} (h : Ents B w v l) (hB : B ≤ B') : Ents B' w v l := ⟨Rd.mono h.1 hB, h.2⟩
theorem acts_below {B : Nat} {w w' : World} {v : Value} {l : List Act} (h : ActsR B w v l) (hb : Below w.heap.size w w') : ActsR B w' v l := ⟨h.1.keep fun k hk hlt => hb.block k hlt, fun x hx => ⟨(h.2 x hx).1.below hb, (h.2 x hx).2⟩⟩
section
variable {B q p k j : Nat} {c : Chip} {s : SM} {F : List Nat} {w : World}
theorem get_st (h : StS B w q p k j c s F) (key : ByteArray) (hk : key.size ≤ 9223372036854775807) : Calls Try.prog 15 #[.pointer (some ⟨q, 0, none⟩), .string key] w fun e w' =>
    e = .returned (.tuple #[.string ((getE s.rows key).getD Ent.zero).v, .bool (getE s.rows key).isSome, .nilIface]) ∧ StS B w' q p k j c s F ∧ Below w.heap.size w w' := by
  have := sget_any B q p c s F key w h.st h.ch h.ok.inv hk
  rw [told_rows h.ok.inv] at this
  exact this.mono fun e w' ⟨h1, h2⟩ => ⟨h1, h.below h2, h2⟩
theorem rows_st (h : StS B w q p k j c s F) : Calls Try.prog 16 #[.pointer (some ⟨q, 0, none⟩)] w fun e w' => ∃ v, e = .returned v ∧ Ents B w' v s.rows ∧ StS B w' q p k j c s F ∧ Below w.heap.size w w' :=
  (rows_any B q p k j c s F w h).mono fun e w' ⟨v, h1, h2, h3⟩ => ⟨v, h1, h2, h.below h3, h3⟩
theorem write_st (h : StS B w q p k j c s F) (hk : k ≤ 1000) {v : Value} {l : List Ent} (hl : Ents B w v l) : Calls Try.prog 14 #[.pointer (some ⟨q, 0, none⟩), v] w (DoP B q p (k + 1) j F w (rowsW s.rows l) (checkR s.rows l)) := by
  obtain ⟨c1, s1, e1, g1, r1⟩ := write_good h.ok hk l
  have hw := write_any B q p c s F v l w h.st h.ch h.ok.inv hl (by have := h.ok.ep; omega)
  rw [e1] at hw
  refine hw.mono ?_
  intro e w' hp
  obtain ⟨F', hs, hF, hf⟩ := StS.post (k := k) (j := j) (c := c) (s := s) hp g1
  exact ⟨c1, s1, F', hp.1, hs, r1, hF, hf⟩
theorem DoP.st {k' j' n : Nat} {r : List Ent} {w0 w' : World} {e : Ending} (hb : Below B w0 w) (hB : B ≤ w0.heap.size) (h : DoP B q p k' j' F w r n e w') : ∃ c' s' F', e = .returned (errV n) ∧ StS B w' q p k' j' c' s' F' ∧ s'.rows = r ∧ Below B w0 w' := by
  obtain ⟨c', s', F', h1, h2, h3, h4, h5⟩ := h
  exact ⟨c', s', F', h1, h2, h3, FrQ.below hb hB h5⟩
theorem StS.rise (h : StS B w q p k j c s F) : Rises s.rows := rows_rise h.ok.inv
end
end Go.Proofs.Ytaepdbkfaoiimac
