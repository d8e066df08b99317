/- Several texts of this proof, one behind the other: walks and plain laws that the statement rests on. Conditions: none but those that each lemma names. -/
import Derived.Test.YtaepdbkfaoiimabGreatDoorGa
import Derived.RangeFuncCalls
import Derived.OrdersIn
import Derived.OrdersHeld
import Derived.Deep.RegionHeld
import Derived.Test.YtaepdbkfaoiimabGreatDoorGk
import Derived.Test.YtaepdbkfaoiimabGreatDoorGg
import Derived.Sort.LoopGhostIn
/- A drawn region within a round of a range over a function, by way of the plain walk. Conditions: no operation defers; the post lets nothing out. -/
set_option linter.unusedVariables false
namespace Go.Proofs.YtaepdbkfaoiimabGreatDoor
open Go.RowKit
section
variable {P : Program} {ops : Array Oper} {Q : Exit → Act → World → Prop} {md : Region.Mode} {l n : Nat}
theorem upon_in {o : Oper} {a : Act} {next : Act → World → Prop} {r : Result Next} (h : o.upon P a next Q r) : o.uponIn (Fence.wide.inRound l) n P a next Q r := by
  cases r with
  | ok x w' =>
    cases x with
    | enter f args => exact ⟨fun hh => absurd hh (by simp [Fence.wide]), ((callsIn_wide.2 h).inRound l).mono (fun e w'' he => by cases e <;> exact he)⟩
    | row row args => exact ⟨fun hh => absurd hh (by simp [Fence.wide]), fun c cs _ => by obtain ⟨v, w'', h1, h2⟩ := h c cs; exact ⟨v, w'', h1, stepsIn_wide.2 h2⟩⟩
    | round => exact h.elim
    | _ => exact h
  | halt x w' => cases x <;> exact h
theorem oper_in {o : Oper} {a : Act} {w : World} {next : Act → World → Prop} (hd : ∀ c, o.op ≠ .defer c) (h : o.wp P a w next Q) : o.wpIn (Fence.wide.inRound l) n P a w next Q := by
  refine ⟨fun f _ => trivial, ?_⟩
  have e : o.semAt (Fence.wide.inRound l).round a.eval = execOp a.eval o := Oper.semAt_some l a.eval o hd
  rw [e]
  exact upon_in h
theorem wpAny_in (hd : ∀ (i : Nat) (o : Oper), ops[i]? = some o → ∀ c, o.op ≠ .defer c) (hL : ¬ LetsOut Q) : ∀ (fuel : Nat) (listed : Array Bool) (a : Act) (w : World), wpAny P md ops Q fuel listed a w → wpAnyIn (Fence.wide.inRound l) n P md ops Q fuel listed a w
  | 0, _, _, _, h => h
  | fuel + 1, listed, a, w, h => by
    refine ⟨h.1, fun i hi => ?_⟩
    have h2 := h.2 i hi
    unfold wpOp at h2
    unfold wpOpIn
    cases ho : ops[i]? with
    | none => rw [ho] at h2; exact wpAny_in hd hL fuel _ _ _ h2
    | some o =>
      rw [ho] at h2
      simp only at h2 ⊢
      split
      · rename_i hw
        rw [if_pos hw] at h2
        rcases h2 with h2 | ⟨_, h2⟩
        · exact Oper.wpIn_mono (fun a w h => wpAny_in hd hL fuel _ _ _ h) (oper_in (hd i o ho) h2)
        · exact absurd h2 hL
      · rename_i hw
        rw [if_neg hw] at h2
        exact ⟨fun f _ => trivial, wpAny_in hd hL fuel _ _ _ h2⟩
def noDefer (ops : Array Oper) : Bool := ops.all (fun o => match o.op with | .defer _ => false | _ => true)
theorem noDefer_at (h : noDefer ops = true) : ∀ (i : Nat) (o : Oper), ops[i]? = some o → ∀ c, o.op ≠ .defer c := by
  intro i o ho c hc
  unfold noDefer at h
  rw [Array.all_eq_true] at h
  obtain ⟨hi, e⟩ := Array.getElem?_eq_some_iff.1 ho
  have := h i hi
  rw [e, hc] at this
  cases this
/-- The region, its loads taken first where S holds. -/
theorem region_in {id : Nat} {a : Act} {w : World} {S : World → Prop} (hm : P.follows .mixedOrders = true) (hd : noDefer ops = true) (hL : ¬ LetsOut Q) (hS : S w.drew)
    (h : S w.drew → wpAnyH P .any ops Q S ops.size (Array.replicate ops.size false) a w.drew) : (Code.region id ops true).wpIn (Fence.wide.inRound l) n P Q a w :=
  wpIn_region_any hm (wpAny_in (noDefer_at hd) hL _ _ _ _ (wpAny_of_held _ _ _ _ (h hS)))
end
end Go.Proofs.YtaepdbkfaoiimabGreatDoor
/- The contract of store.tables. Conditions: the parts are those of tables. -/
set_option linter.unusedVariables false
set_option linter.unusedSimpArgs false
namespace Go.Proofs.YtaepdbkfaoiimabGreatDoor
open Go.RowKit Go.Shelf
attribute [local go_sem] Oper.semAt_some
attribute [local go_sem ↓] eql_err eql_nilerr neq_err neq_nilerr guard_err guard_nilerr guardn_err guardn_nilerr
theorem own_keep {w w' : World} {base : Nat} {e : TypeId} {size : Nat} {v : Value} {n : Nat} {xs : List Value} (h : w.ownsRow base e size v n xs) (hk : ∀ g, v.ownBlock = some g → w'.heap[g]? = w.heap[g]?) : w'.ownsRow base e size v n xs := by
  refine ⟨h.1, ?_⟩
  rcases h.2 with hn | ⟨g, cap, cur, h1, hg, hh, hrest⟩
  · exact .inl hn
  · exact .inr ⟨g, cap, cur, h1, hg, (hk g (by rw [h1]; rfl)).trans hh, hrest⟩
theorem own_tyB {w : World} {base : Nat} {e : TypeId} {size : Nat} {v : Value} {n : Nat} {xs : List Value} (h : w.ownsRow base e size v n xs) : ∀ g, v.ownBlock = some g → base ≤ g ∧ ∃ cs fz, w.heap[g]? = some (.cells cs e fz) := by
  intro g hg
  rcases h.2 with ⟨rfl, _⟩ | ⟨g', cap, cur, rfl, h1, h2, _⟩
  · cases hg
  · cases hg
    exact ⟨h1, cur, _, h2⟩
theorem heap_type {w : World} {g : Nat} {cs cs' : Array Value} {T T' : TypeId} {fz fz' : Nat × Nat} (h : w.heap[g]? = some (.cells cs T fz)) (k : w.heap[g]? = some (.cells cs' T' fz')) : T = T' := by
  rw [h] at k
  injection k with k
  injection k
theorem ChipR.grown {B p : Nat} {c : Chip} {w w' : World} {row : Option Nat} (h : ChipR B w p c) (hp : c.pend = none) (hg : w.grownBy w' row) (hr : ∀ g, row = some g → B ≤ g ∧ ∃ cs fz, w.heap[g]? = some (.cells cs 3 fz)) : ChipR B w' p c := by
  obtain ⟨V, u, hv, hu, hwf⟩ := h
  rw [hp] at hu
  refine ⟨V, u, ⟨?_, fun b hb => ?_, hv.base⟩, by rw [hp]; exact hu, hwf⟩
  · refine (hg.block p hv.blk.lt fun e => ?_).trans hv.blk
    obtain ⟨_, cs, fz, h2⟩ := hr p e.symm
    exact absurd (heap_type hv.blk h2) (by decide)
  · exact (hv.rows b hb).grown hg fun g e _ => by
      obtain ⟨h1, cs, fz, h2⟩ := hr g e
      exact ⟨h1, cs, _, fz, h2, by decide⟩
theorem Fr.grownR {B : Nat} {M : Nat → Prop} {w W W' : World} {row : Option Nat} (h : Fr B M w W) (hg : W.grownBy W' row) (hr : ∀ g, row = some g → w.heap.size ≤ g) : Fr B M w W' :=
  ⟨hg.os.trans h.os, hg.tape.trans h.tape, hg.output.trans h.output, Nat.le_trans h.size hg.size, fun k hk hc => (hg.block k (Nat.lt_of_lt_of_le hk h.size) (fun e => by have := hr k e.symm; omega)).trans (h.block k hk hc)⟩
/-- The parts that have been gone through. -/
theorem ck_parts (l : List Ent) : ∀ k, (ckUpto 14 l.length k).map (fun j => ckList 14 l j.1) = (parts 14 l).take k
  | 0 => rfl
  | k + 1 => by
    have hpl : (parts 14 l).length = (l.length + 13) / 14 := parts_len 14 l
    by_cases hk : 14 * k < l.length
    · have hlt : k < (parts 14 l).length := by rw [hpl]; omega
      rw [ckUpto_succ hk, List.map_append, ck_parts l k, List.take_succ_eq_append_getElem hlt]
      congr 1
      simp [parts, ckList]
    · have e : ckUpto 14 l.length (k + 1) = ckUpto 14 l.length k := by simp [ckUpto, List.range_succ, hk]
      rw [e, ck_parts l k, List.take_of_length_le (by rw [hpl]; omega), List.take_of_length_le (by rw [hpl]; omega)]
def ckQs (l : List Ent) (pre : List (Ck 14 l.length)) : List (List Ent) := pre.map (fun j => ckList 14 l j.1)
theorem ckQs_snoc (l : List Ent) (pre : List (Ck 14 l.length)) (k : Ck 14 l.length) (ps : List (List Ent)) : ckQs l (pre ++ [k]) ++ ps = ckQs l pre ++ (ckList 14 l k.1 :: ps) := by simp [ckQs]
theorem chipR_farI {B p x : Nat} {c : Chip} {W : World} {cs : Array Value} (h : ChipR B W p c) (hx : Blk W x 72 cs) (hB : B ≤ x) (y : Value) : ChipR B (W.setCell ⟨x, 0, none⟩ y) p c := by
  have far : ∀ {k T : Nat} {cs : Array Value}, Blk W k T cs → T ≠ 72 → Blk (W.setCell ⟨x, 0, none⟩ y) k T cs := fun {k T cs} hb hT => hb.far (fun e => by
    have e : k = x := e
    subst e
    have := hx
    rw [Blk, show W.heap[k]? = some (.cells _ T (0, 0)) from hb] at this
    cases this
    exact hT rfl) _
  obtain ⟨V, u, hv, hu, hw⟩ := h
  refine ⟨V, u, ⟨far hv.blk (by decide), fun b hb => (hv.rows b hb).far hx hB (by decide) _, hv.base⟩, ?_, hw⟩
  generalize c.pend = o at hu ⊢
  match o, hu with
  | none, hu => exact hu
  | some (.wr b d), ⟨qh, qd, bx, bn, bd, h1, h2, h3, h4, h5, h6⟩ => exact ⟨qh, qd, bx, bn, bd, h1, far h2 (by decide), far h3 (by decide), far h4 (by decide), far h5 (by decide), far h6 (by decide)⟩
  | some (.er b), ⟨qh, qd, bx, h1, h2, h3, h4⟩ => exact ⟨qh, qd, bx, h1, far h2 (by decide), far h3 (by decide), far h4 (by decide)⟩
/-- What lies where, while tables runs. -/
structure TbS (B q p : Nat) (vu : Value) (w : World) (bb : Nat) (c : Chip) (out : List Int) (W : World) : Prop where
  b3 : Blk W w.heap.size 44 #[.pointer (some ⟨q, 0, none⟩)]
  b5 : Blk W (w.heap.size + 1) 72 #[vu]
  b6 : Blk W (w.heap.size + 1 + 1) 72 #[.slice none 0 0]
  b7 : Blk W (w.heap.size + 1 + 1 + 1) 25 #[.nilIface]
  bo : ∃ A cp, Blk W (w.heap.size + 1 + 1 + 1 + 1) 72 #[.slice A out.length cp] ∧ W.ownsRow bb 3 1 (.slice A out.length cp) out.length (out.map (.int .i64))
  rep : ChipR B W p c
  fr : Fr B (· = p) w W
  hp : p < w.heap.size
  hq : q < w.heap.size
  hB : B ≤ w.heap.size
  big : w.heap.size + 1 + 1 + 1 + 1 < bb
section
variable {B q p bb B0 n : Nat} {vu : Value} {w W W' : World} {c c' : Chip} {out : List Int} {row : Option Nat}
theorem TbS.below (h : TbS B q p vu w bb c out W) (hb : Below W.heap.size W W') : TbS B q p vu w bb c out W' := by
  obtain ⟨A, cp, h1, h2⟩ := h.bo
  exact ⟨h.b3.below hb h.b3.lt, h.b5.below hb h.b5.lt, h.b6.below hb h.b6.lt, h.b7.below hb h.b7.lt, ⟨A, cp, h1.below hb h1.lt, own_below h2 hb⟩, h.rep.below hb, h.fr.trans (Fr.of_below hb) (fun _ _ => trivial), h.hp, h.hq, h.hB, h.big⟩
theorem TbS.drewN (h : TbS B q p vu w bb c out W) (n : Nat) : TbS B q p vu w bb c out (W.drewN n) := h.below (below_drewN' (Below.refl _ _) n)
theorem TbS.chip (h : TbS B q p vu w bb c out W) (hr : ChipR B W' p c') (hf : Fr B (· = p) W W') : TbS B q p vu w bb c' out W' := by
  obtain ⟨A, cp, h1, h2⟩ := h.bo
  have hp := h.hp
  have ne : ∀ k, w.heap.size ≤ k → ¬ k = p := fun k hk => by omega
  refine ⟨h.b3.fr hf (.inr (.inl (ne _ (by omega)))), h.b5.fr hf (.inr (.inl (ne _ (by omega)))), h.b6.fr hf (.inr (.inl (ne _ (by omega)))), h.b7.fr hf (.inr (.inl (ne _ (by omega)))), ⟨A, cp, h1.fr hf (.inr (.inl (ne _ (by omega)))), own_keep h2 fun g hg => ?_⟩, hr, h.fr.trans hf (fun _ _ => trivial), h.hp, h.hq, h.hB, h.big⟩
  obtain ⟨hb, cs, fz, hh⟩ := own_tyB h2 g hg
  have := h.big
  exact hf.block g (heap_lt hh) (.inr (.inl (ne g (by omega))))
theorem TbS.grown (h : TbS B q p vu w bb c out W) (hg : W.grownBy W' row) (hr : ∀ r, row = some r → B0 ≤ r ∧ ∃ o : Obj, W.heap[r]? = some o ∧ o.isCells = false) (hB0 : w.heap.size ≤ B0) : TbS B q p vu w bb c out W' := by
  obtain ⟨A, cp, h1, h2⟩ := h.bo
  have hf := fr_grown (B := B) hg (fun r e => ⟨Nat.le_trans (Nat.le_trans h.hB hB0) (hr r e).1, (hr r e).2⟩)
  refine ⟨blk_grown h.b3 hg hr, blk_grown h.b5 hg hr, blk_grown h.b6 hg hr, blk_grown h.b7 hg hr, ⟨A, cp, blk_grown h1 hg hr, own_keep h2 fun g hgg => ?_⟩, h.rep.keep hf (fun e => by have := (hr p e).1; have := h.hp; omega), h.fr.trans' hf (fun k hk e => by have := (hr k e).1; omega), h.hp, h.hq, h.hB, h.big⟩
  obtain ⟨hb, cs, fz, hh⟩ := own_tyB h2 g hgg
  refine hg.block g (heap_lt hh) fun e => ?_
  obtain ⟨_, o, h3, h4⟩ := hr g e.symm
  rw [hh] at h3
  cases h3
  cases h4
/-- A block more. -/
theorem TbS.more (h : TbS B q p vu w bb c out W) (hpd : c.pend = none) (hbb : bb ≤ W.heap.size) {A A' : Option Addr} {cp cp' : Nat} {x : Int} (h1 : Blk W (w.heap.size + 1 + 1 + 1 + 1) 72 #[.slice A out.length cp]) (h2 : W.ownsRow bb 3 1 (.slice A out.length cp) out.length (out.map (.int .i64)))
    (hown : W'.ownsRow bb 3 1 (.slice A' (out.length + 1) cp') (out.length + 1) (out.map (.int .i64) ++ [.int .i64 x])) (hg : W.grownBy W' (Value.slice A out.length cp).ownBlock) : TbS B q p vu w bb c (out ++ [x]) (W'.setCell ⟨w.heap.size + 1 + 1 + 1 + 1, 0, none⟩ (.slice A' (out.length + 1) cp')) := by
  have hbig := h.big
  have hB := h.hB
  have hp := h.hp
  have hty := own_tyB h2
  have ne : ∀ k, k < bb → k < W.heap.size → W'.heap[k]? = W.heap[k]? := fun k hk hlt => hg.block k hlt (fun e => by have := (hty k e.symm).1; omega)
  have hb : ∀ {k T} {cs : Array Value}, k < bb → Blk W k T cs → Blk W' k T cs := fun {k T cs} hk hb => (ne k hk hb.lt).trans hb
  have h1' := hb (by omega) h1
  have far : ∀ {k T} {cs : Array Value}, k ≠ w.heap.size + 1 + 1 + 1 + 1 → Blk W' k T cs → Blk (W'.setCell ⟨w.heap.size + 1 + 1 + 1 + 1, 0, none⟩ (.slice A' (out.length + 1) cp')) k T cs := fun {k T cs} hk hb => hb.far (by exact hk) _
  have hfr : Fr B (· = p) w W' := h.fr.grownR hg (fun g e => by have := (hty g e).1; omega)
  have hrep : ChipR B W' p c := h.rep.grown hpd hg (fun g e => by obtain ⟨a, b⟩ := hty g e; exact ⟨by omega, b⟩)
  refine ⟨far (by omega) (hb (by omega) h.b3), far (by omega) (hb (by omega) h.b5), far (by omega) (hb (by omega) h.b6), far (by omega) (hb (by omega) h.b7), ⟨A', cp', ?_, ?_⟩, ?_, ?_, h.hp, h.hq, h.hB, h.big⟩
  · have := h1'.set_ 0 (.slice A' (out.length + 1) cp')
    rw [List.length_append, List.length_singleton]
    exact this
  · rw [List.length_append, List.length_singleton, List.map_append]
    refine own_keep hown fun g hgg => ?_
    obtain ⟨hb', cs, fz, hh⟩ := own_tyB hown g hgg
    exact Below.heap_setCell _ _ _ _ (fun e => by have e : g = w.heap.size + 1 + 1 + 1 + 1 := e; omega)
  · exact chipR_farI hrep h1' (by omega) _
  · exact hfr.setCell (by show B ≤ w.heap.size + 1 + 1 + 1 + 1; omega) (.inr (by show w.heap.size ≤ w.heap.size + 1 + 1 + 1 + 1; omega)) (fun e => absurd e (by show ¬ w.heap.size + 1 + 1 + 1 + 1 < w.heap.size; omega)) _
/-- Nothing has turned but cells, and not the iterator's. -/
structure KeepT (Bs : Nat) (W W' : World) : Prop where
  size : W.heap.size ≤ W'.heap.size
  other : ∀ (k : Nat) (o : Obj), W.heap[k]? = some o → o.isCells = false → W'.heap[k]? = some o
  s1 : W'.heap[Bs]? = W.heap[Bs]?
  s2 : W'.heap[Bs + 1]? = W.heap[Bs + 1]?
theorem KeepT.refl (Bs : Nat) (W : World) : KeepT Bs W W := ⟨Nat.le_refl _, fun _ _ h _ => h, rfl, rfl⟩
theorem KeepT.trans {Bs : Nat} {W W' W2 : World} (h : KeepT Bs W W') (k : KeepT Bs W' W2) : KeepT Bs W W2 := ⟨Nat.le_trans h.size k.size, fun i o h1 h2 => k.other i o (h.other i o h1 h2) h2, k.s1.trans h.s1, k.s2.trans h.s2⟩
theorem KeepT.below {Bs : Nat} {W W' : World} (h : Below W.heap.size W W') (hs : Bs + 1 < W.heap.size) : KeepT Bs W W' := ⟨h.size, fun k o hk _ => (h.block k (heap_lt hk)).trans hk, h.block _ (by omega), h.block _ hs⟩
theorem KeepT.chip {Bs : Nat} {W W' : World} (h : Fr B (· = p) W W') (hs : Bs + 1 < W.heap.size) (hp : p < Bs) (hc : ChipR B W p c) : KeepT Bs W W' := by
  obtain ⟨V, u, hv, _⟩ := hc
  refine ⟨h.size, fun k o hk ho => (h.block k (heap_lt hk) (.inr (.inl fun e => ?_))).trans hk, h.block _ (by omega) (.inr (.inl (by omega))), h.block _ hs (.inr (.inl (by omega)))⟩
  rw [e, show W.heap[p]? = _ from hv.blk] at hk
  cases hk
  cases ho
theorem KeepT.rowg {Bs : Nat} {W W' : World} {v : Value} {e : TypeId} {sz m : Nat} {xs : List Value} (hg : W.grownBy W' v.ownBlock) (ho : W.ownsRow bb e sz v m xs) (hbb : Bs + 1 < bb) (hs : Bs + 1 < W.heap.size) : KeepT Bs W W' := by
  have hty := own_tyB ho
  refine ⟨hg.size, fun k o hk hc => (hg.block k (heap_lt hk) fun e => ?_).trans hk, hg.block _ (by omega) (fun e => by have := (hty _ e.symm).1; omega), hg.block _ hs (fun e => by have := (hty _ e.symm).1; omega)⟩
  obtain ⟨_, cs, fz, h2⟩ := hty k e.symm
  rw [h2] at hk
  cases hk
  cases hc
theorem KeepT.set {Bs x T : Nat} {cs : Array Value} {W : World} (hb : Blk W x T cs) (hx : x < Bs) (u : Value) : KeepT Bs W (W.setCell ⟨x, 0, none⟩ u) :=
  ⟨by simp [World.setCell], fun k o hk ho => (Below.heap_setCell _ _ _ _ (fun e => by
    have e : k = x := e
    rw [e, show W.heap[x]? = _ from hb] at hk; cases hk; cases ho)).trans hk, Below.heap_setCell _ _ _ _ (fun e => by have e : Bs = x := e; omega), Below.heap_setCell _ _ _ _ (fun e => by have e : Bs + 1 = x := e; omega)⟩
end
theorem tab_seven {c : Chip} {l : List Ent} (hc : CWf c) (hd : c.down = false) {b : Nat} (hb : b < 24) (hbad : (c.b b).bad = false) (ht : tabF l = 0) (h : (tabWrite c b l).2 = 7) : (tabWrite c (b : Nat) l).1 = c.spoil b ∧ (c.b b).weak = true := by
  cases hw : (c.b b).weak
  · obtain ⟨c', n, e, _, _, g⟩ := tabWrite_calm hb hd hbad hw ht
    rw [e] at h
    rcases g with ⟨g, _⟩ | ⟨g, _⟩ <;> · simp only at h; omega
  · have := (lays_table ht).weak c b hc hd hb hbad hw
    exact ⟨by show (tabWrite c b l).1 = _; rw [show tabWrite c b l = _ from this], rfl⟩
theorem tab_zero {c : Chip} {l : List Ent} (hc : CWf c) (hd : c.down = false) {b : Nat} (hb : b < 24) (hbad : (c.b b).bad = false) (ht : tabF l = 0) (h : (tabWrite c b l).2 = 0) : (tabWrite c (b : Nat) l).1.down = false ∧ (tabWrite c (b : Nat) l).1.pend = none := by
  have hpn : c.pend = none := by have := hc.down; rw [hd] at this; simpa using this
  cases hw : (c.b b).weak
  · obtain ⟨c', n, e, _, _, g⟩ := tabWrite_calm hb hd hbad hw ht
    rw [e] at h ⊢
    rcases g with ⟨_, g1, g2, _⟩ | ⟨g, _⟩
    · exact ⟨g1, g2.trans hpn⟩
    · simp only at h; omega
  · have := (lays_table ht).weak c b hc hd hb hbad hw
    rw [show tabWrite c b l = _ from this] at h
    cases h
theorem own_form {w : World} {base : Nat} {e : TypeId} {v : Value} {n : Nat} {xs : List Value} (h : w.ownsRow base e 1 v n xs) : ∃ A c, v = .slice A n c := by
  rcases h.2 with ⟨rfl, h2⟩ | ⟨g, cap, cur, rfl, _⟩
  · have h1 := h.1
    rw [h2] at h1
    have : n = 0 := by simp at h1; omega
    subst this
    exact ⟨none, 0, rfl⟩
  · exact ⟨_, _, rfl⟩
theorem ints_one1 {x : Int} : ∀ u ∈ [Value.int .i64 x], u.oneCell' = true := by
  intro u hu
  simp at hu
  subst hu
  rfl
theorem cell_one (w : World) (x : Int) : ∀ (j : Nat) (u : Value), [Value.int .i64 x][j]? = some u → (w.alloc (.cells #[.int .i64 x] 3)).cell? ((Addr.mk w.heap.size 0 none).add j) = some u := by
  intro j u hu
  cases j with
  | zero =>
    simp at hu
    subst hu
    rw [addr_add]
    exact (Blk.new w 3 #[.int .i64 x]).cell 0
  | succ j => simp at hu
theorem Blk.grownO {w w' : World} {g T : Nat} {cs : Array Value} {base : Nat} {e : TypeId} {size n : Nat} {v : Value} {xs : List Value} (h : Blk w g T cs) (hg : w.grownBy w' v.ownBlock) (ho : w.ownsRow base e size v n xs) (hb : g < base) : Blk w' g T cs :=
  (hg.block g h.lt (fun e => by have := (own_tyB ho g e.symm).1; omega)).trans h
/-- One block more, noted. -/
theorem TbS.fini {B q p bb Bs : Nat} {vu : Value} {w W w5 w6 : World} {c : Chip} {out : List Int} {x : Int} {A A' : Option Addr} {cp cp' : Nat} (h : TbS B q p vu w bb c out w5) (hpd : c.pend = none) (h1 : Blk w5 (w.heap.size + 1 + 1 + 1 + 1) 72 #[.slice A out.length cp]) (h2 : w5.ownsRow bb 3 1 (.slice A out.length cp) out.length (out.map (.int .i64)))
    (hk : KeepT Bs W w5) (hown : w6.ownsRow bb 3 1 (.slice A' (out.length + 1) cp') (out.length + 1) (out.map (.int .i64) ++ [.int .i64 x])) (hg : (w5.alloc (.cells #[.int .i64 x] 3)).grownBy w6 (Value.slice A out.length cp).ownBlock) (hbb : Bs + 1 < bb ∧ bb ≤ w5.heap.size) (hBs : w.heap.size + 1 + 1 + 1 + 1 < Bs) :
    TbS B q p vu w bb c (out ++ [x]) (w6.setCell ⟨w.heap.size + 1 + 1 + 1 + 1, 0, none⟩ (.slice A' (out.length + 1) cp')) ∧ KeepT Bs W (w6.setCell ⟨w.heap.size + 1 + 1 + 1 + 1, 0, none⟩ (.slice A' (out.length + 1) cp')) := by
  have hb : Below w5.heap.size w5 (w5.alloc (.cells #[.int .i64 x] 3)) := (Below.refl _ _).alloc (Nat.le_refl _) _
  have h1' := h1.below hb h1.lt
  have h2' := own_below h2 hb
  refine ⟨(h.below hb).more hpd (by simp; omega) h1' h2' hown hg, ?_⟩
  have hs : Bs + 1 < w5.heap.size := by omega
  exact ((hk.trans (KeepT.below hb hs)).trans (KeepT.rowg hg h2' hbb.1 (by simp; omega))).trans (KeepT.set (h1'.grownO hg h2' (by omega)) hBs _)
theorem KeepT.others {Bs : Nat} {W W' : World} (h : KeepT Bs W W') : KeepsOthers W W' := ⟨h.size, h.other⟩
theorem TbS.res {B q p bb Bs : Nat} {vu : Value} {w W : World} {c : Chip} {out : List Int} (h : TbS B q p vu w bb c out W) (hB : w.heap.size + 1 + 1 + 1 + 1 < Bs) (u y : Value) : KeepT Bs W ((W.setCell ⟨w.heap.size + 1 + 1, 0, none⟩ u).setCell ⟨w.heap.size + 1 + 1 + 1, 0, none⟩ y) :=
  (KeepT.set h.b6 (by omega) u).trans (KeepT.set (h.b7.far (p := ⟨w.heap.size + 1 + 1, 0, none⟩) (by show w.heap.size + 1 + 1 + 1 ≠ w.heap.size + 1 + 1; omega) u) (by omega) y)
/-- Behind an error: what lies where. -/
structure TbR (B p : Nat) (w : World) (n : Nat) (c : Chip) (W : World) : Prop where
  b6 : Blk W (w.heap.size + 1 + 1) 72 #[.slice none 0 0]
  b7 : Blk W (w.heap.size + 1 + 1 + 1) 25 #[errV n]
  rep : ChipR B W p c
  fr : Fr B (· = p) w W
  hp : p < w.heap.size
  hB : B ≤ w.heap.size
theorem TbR.grown {B p n B0 : Nat} {w W W' : World} {c : Chip} {row : Option Nat} (h : TbR B p w n c W) (hg : W.grownBy W' row) (hr : ∀ r, row = some r → B0 ≤ r ∧ ∃ o : Obj, W.heap[r]? = some o ∧ o.isCells = false) (hB0 : w.heap.size ≤ B0) : TbR B p w n c W' := by
  have hf := fr_grown (B := B) hg (fun r e => ⟨Nat.le_trans (Nat.le_trans h.hB hB0) (hr r e).1, (hr r e).2⟩)
  exact ⟨blk_grown h.b6 hg hr, blk_grown h.b7 hg hr, h.rep.keep hf (fun e => by have := (hr p e).1; have := h.hp; omega), h.fr.trans' hf (fun k hk e => by have := (hr k e).1; omega), h.hp, h.hB⟩
theorem TbS.stop {B q p bb : Nat} {vu : Value} {w W : World} {c : Chip} {out : List Int} (h : TbS B q p vu w bb c out W) (n : Nat) : TbR B p w n c ((W.setCell ⟨w.heap.size + 1 + 1, 0, none⟩ (.slice none 0 0)).setCell ⟨w.heap.size + 1 + 1 + 1, 0, none⟩ (errV n)) := by
  have hB := h.hB
  have hp := h.hp
  have h6 := h.b6.set_ 0 (.slice none 0 0)
  have h7 : Blk (W.setCell ⟨w.heap.size + 1 + 1, 0, none⟩ (.slice none 0 0)) (w.heap.size + 1 + 1 + 1) 25 #[.nilIface] := h.b7.far (by show w.heap.size + 1 + 1 + 1 ≠ w.heap.size + 1 + 1; omega) _
  have r6 := chipR_farI h.rep h.b6 (by omega) (.slice none 0 0)
  have f6 := h.fr.setCell (p := ⟨w.heap.size + 1 + 1, 0, none⟩) (by show B ≤ w.heap.size + 1 + 1; omega) (.inr (by show w.heap.size ≤ w.heap.size + 1 + 1; omega)) (fun e => absurd e (by show ¬ w.heap.size + 1 + 1 < w.heap.size; omega)) (.slice none 0 0)
  exact ⟨h6.far (by show w.heap.size + 1 + 1 ≠ w.heap.size + 1 + 1 + 1; omega) _, h7.set_ 0 _, chipR_far r6 h7 (by omega) _, f6.setCell (by show B ≤ w.heap.size + 1 + 1 + 1; omega) (.inr (by show w.heap.size ≤ w.heap.size + 1 + 1 + 1; omega)) (fun e => absurd e (by show ¬ w.heap.size + 1 + 1 + 1 < w.heap.size; omega)) _, h.hp, h.hB⟩
theorem TbS.last {B q p bb : Nat} {vu : Value} {w W : World} {c : Chip} {out : List Int} (h : TbS B q p vu w bb c out W) {D : Nat} (hD : w.heap.size ≤ D) (hK : W.heap[D]? = some (.deferred (some []))) (ho : Obj.isCells (.deferred (some [])) = false) {A : Option Addr} {cp : Nat} (hown : W.ownsRow bb 3 1 (.slice A out.length cp) out.length (out.map (.int .i64))) (o' : Obj) :
    ChipR B (((W.setCell ⟨w.heap.size + 1 + 1, 0, none⟩ (.slice A out.length cp)).setCell ⟨w.heap.size + 1 + 1 + 1, 0, none⟩ .nilIface).putObj D o') p c ∧ Fr B (· = p) w (((W.setCell ⟨w.heap.size + 1 + 1, 0, none⟩ (.slice A out.length cp)).setCell ⟨w.heap.size + 1 + 1 + 1, 0, none⟩ .nilIface).putObj D o') ∧ Ints B (((W.setCell ⟨w.heap.size + 1 + 1, 0, none⟩ (.slice A out.length cp)).setCell ⟨w.heap.size + 1 + 1 + 1, 0, none⟩ .nilIface).putObj D o') (.slice A out.length cp) out ∧ (((W.setCell ⟨w.heap.size + 1 + 1, 0, none⟩ (.slice A out.length cp)).setCell ⟨w.heap.size + 1 + 1 + 1, 0, none⟩ .nilIface).putObj D o').cell? ⟨w.heap.size + 1 + 1, 0, none⟩ = some (.slice A out.length cp) ∧ (((W.setCell ⟨w.heap.size + 1 + 1, 0, none⟩ (.slice A out.length cp)).setCell ⟨w.heap.size + 1 + 1 + 1, 0, none⟩ .nilIface).putObj D o').cell? ⟨w.heap.size + 1 + 1 + 1, 0, none⟩ = some .nilIface ∧ ((W.setCell ⟨w.heap.size + 1 + 1, 0, none⟩ (.slice A out.length cp)).setCell ⟨w.heap.size + 1 + 1 + 1, 0, none⟩ .nilIface).heap[D]? = some (.deferred (some [])) := by
  have hB := h.hB
  have hp := h.hp
  have hbig := h.big
  have h6 := h.b6.set_ 0 (.slice A out.length cp)
  have h7 : Blk (W.setCell ⟨w.heap.size + 1 + 1, 0, none⟩ (.slice A out.length cp)) (w.heap.size + 1 + 1 + 1) 25 #[.nilIface] := h.b7.far (by show w.heap.size + 1 + 1 + 1 ≠ w.heap.size + 1 + 1; omega) _
  have r6 := chipR_farI h.rep h.b6 (by omega) (.slice A out.length cp)
  have f6 := h.fr.setCell (p := ⟨w.heap.size + 1 + 1, 0, none⟩) (by show B ≤ w.heap.size + 1 + 1; omega) (.inr (by show w.heap.size ≤ w.heap.size + 1 + 1; omega)) (fun e => absurd e (by show ¬ w.heap.size + 1 + 1 < w.heap.size; omega)) (.slice A out.length cp)
  have k6 : Blk ((W.setCell ⟨w.heap.size + 1 + 1, 0, none⟩ (.slice A out.length cp)).setCell ⟨w.heap.size + 1 + 1 + 1, 0, none⟩ .nilIface) (w.heap.size + 1 + 1) 72 #[.slice A out.length cp] := h6.far (by show w.heap.size + 1 + 1 ≠ w.heap.size + 1 + 1 + 1; omega) _
  have k7 : Blk ((W.setCell ⟨w.heap.size + 1 + 1, 0, none⟩ (.slice A out.length cp)).setCell ⟨w.heap.size + 1 + 1 + 1, 0, none⟩ .nilIface) (w.heap.size + 1 + 1 + 1) 25 #[.nilIface] := h7.set_ 0 _
  have r7 := chipR_far r6 h7 (by omega) .nilIface
  have f7 : Fr B (· = p) w ((W.setCell ⟨w.heap.size + 1 + 1, 0, none⟩ (.slice A out.length cp)).setCell ⟨w.heap.size + 1 + 1 + 1, 0, none⟩ .nilIface) := f6.setCell (by show B ≤ w.heap.size + 1 + 1 + 1; omega) (.inr (by show w.heap.size ≤ w.heap.size + 1 + 1 + 1; omega)) (fun e => absurd e (by show ¬ w.heap.size + 1 + 1 + 1 < w.heap.size; omega)) _
  have hne : ∀ {k T} {cs : Array Value}, Blk W k T cs → D ≠ k := fun hb e => by
    subst e
    rw [show W.heap[D]? = _ from hb] at hK
    cases hK
  have hK2 : ((W.setCell ⟨w.heap.size + 1 + 1, 0, none⟩ (.slice A out.length cp)).setCell ⟨w.heap.size + 1 + 1 + 1, 0, none⟩ .nilIface).heap[D]? = some (.deferred (some [])) := (Below.heap_setCell _ _ _ _ (hne h.b7)).trans ((Below.heap_setCell _ _ _ _ (hne h.b6)).trans hK)
  have how : ((W.setCell ⟨w.heap.size + 1 + 1, 0, none⟩ (.slice A out.length cp)).setCell ⟨w.heap.size + 1 + 1 + 1, 0, none⟩ .nilIface).ownsRow bb 3 1 (.slice A out.length cp) out.length (out.map (.int .i64)) := own_keep hown fun g hg => by
    have := (own_tyB hown g hg).1
    exact (Below.heap_setCell _ _ _ _ (fun e => by have e : g = w.heap.size + 1 + 1 + 1 := e; omega)).trans (Below.heap_setCell _ _ _ _ (fun e => by have e : g = w.heap.size + 1 + 1 := e; omega))
  have hg := grownBy_putObj' ((W.setCell ⟨w.heap.size + 1 + 1, 0, none⟩ (.slice A out.length cp)).setCell ⟨w.heap.size + 1 + 1 + 1, 0, none⟩ .nilIface) D o'
  have hr : ∀ r, some D = some r → w.heap.size ≤ r ∧ ∃ o : Obj, ((W.setCell ⟨w.heap.size + 1 + 1, 0, none⟩ (.slice A out.length cp)).setCell ⟨w.heap.size + 1 + 1 + 1, 0, none⟩ .nilIface).heap[r]? = some o ∧ o.isCells = false := fun r e => by cases e; exact ⟨hD, _, hK2, ho⟩
  have hf := fr_grown (B := B) hg (fun r e => ⟨Nat.le_trans hB (hr r e).1, (hr r e).2⟩)
  have hpD : ¬ some D = some p := fun e => by
    cases e
    omega
  have how2 : (((W.setCell ⟨w.heap.size + 1 + 1, 0, none⟩ (.slice A out.length cp)).setCell ⟨w.heap.size + 1 + 1 + 1, 0, none⟩ .nilIface).putObj D o').ownsRow bb 3 1 (.slice A out.length cp) out.length (out.map (.int .i64)) := own_keep how fun g hgg => by
    obtain ⟨_, cs, fz, hh⟩ := own_tyB how g hgg
    refine hg.block g (heap_lt hh) fun e => ?_
    cases e
    rw [hh] at hK2
    cases hK2
  refine ⟨r7.keep hf hpD, f7.trans' hf (fun k hk hm => by cases hm; omega), Rd.of_own how2, ?_, ?_, hK2⟩
  · rw [(blk_grown k6 hg hr).cell]; rfl
  · rw [(blk_grown k7 hg hr).cell]; rfl
set_option maxRecDepth 100000 in
set_option maxHeartbeats 8000000 in
theorem tables_any (B : Nat) (q p : Nat) (c : Chip) (s : SM) (F : List Nat) (v vu : Value) (l : List Ent) (used : List Int) (w : World) (h : StoreR B w q p s F) (hc : ChipR B w p c) (hl : Ents B w v l) (hu : Ints B w vu used) (hd : c.down = false) (hok : ∀ x ∈ parts 14 l, tabF x = 0) (hlen : l.length ≤ 1000) (hul : used.length ≤ 1000) :
    Calls Tryz.prog 104 #[.pointer (some ⟨q, 0, none⟩), v, vu] w fun e w' => ∃ vo, e = .returned (.tuple #[vo, errV (tablesM used (parts 14 l) c []).2.2]) ∧ Ints B w' vo (tablesM used (parts 14 l) c []).2.1 ∧ ChipR B w' p (tablesM used (parts 14 l) c []).1 ∧ Fr B (· = p) w w' := by
  have hB0 : B ≤ w.heap.size := Nat.le_of_lt (Nat.lt_of_le_of_lt h.base h.lt)
  have hpw := hc.lt
  have hqw := h.lt
  have hqp := h.apart hc q (by simp)
  obtain ⟨A, cp, rfl, hc1, hc2, _⟩ := hl.form
  obtain ⟨Au, cu, rfl, _, _, _⟩ := hu.form
  have hA : ∃ g o, 0 < l.length → A = some ⟨g, o, none⟩ := by
    rcases Nat.eq_zero_or_pos l.length with h0 | h0
    · exact ⟨0, 0, fun h => by omega⟩
    · obtain ⟨g, o, rfl, _⟩ := rd_at' hl.1 h0
      exact ⟨g, o, fun _ => rfl⟩
  obtain ⟨g, o, hA⟩ := hA
  have HL := Lib.hid hl
  have HU := Lib.hid hu
  have HOK := Lib.hid hok
  have HD := Lib.hid hd
  have HX0 : Hid (∀ W, Fr B (· = p) w W → W.cell? ⟨q, 0, none⟩ = some (.pointer (some ⟨p, 0, none⟩))) := by
    intro W hf
    obtain ⟨A1, c1, A2, c2, t, n, hk, _⟩ := h
    have := (hk.fr hf (.inr (.inl hqp))).cell 0
    simpa using this
  have hb5 : Below w.heap.size w (((((w.alloc (.cells #[.pointer (some ⟨q, 0, none⟩)] 44)).alloc (.cells #[.slice Au used.length cu] 72)).alloc (.cells #[.slice none 0 0] 72)).alloc (.cells #[.nilIface] 25)).alloc (.cells #[.slice none 0 0] 72)) := ((((((Below.refl _ _).alloc (Nat.le_refl _) _).alloc (by simp) _).alloc (by simp; omega) _).alloc (by simp; omega) _).alloc (by simp; omega) _)
  have HT0 : Hid (∀ bb, w.heap.size + 1 + 1 + 1 + 1 < bb → TbS B q p (.slice Au used.length cu) w bb c [] (((((w.alloc (.cells #[.pointer (some ⟨q, 0, none⟩)] 44)).alloc (.cells #[.slice Au used.length cu] 72)).alloc (.cells #[.slice none 0 0] 72)).alloc (.cells #[.nilIface] 25)).alloc (.cells #[.slice none 0 0] 72))) := by
    intro bb hbb
    have k3 : Blk (((((w.alloc (.cells #[.pointer (some ⟨q, 0, none⟩)] 44)).alloc (.cells #[.slice Au used.length cu] 72)).alloc (.cells #[.slice none 0 0] 72)).alloc (.cells #[.nilIface] 25)).alloc (.cells #[.slice none 0 0] 72)) w.heap.size 44 #[.pointer (some ⟨q, 0, none⟩)] := ((((Blk.new w _ _).alloc _).alloc _).alloc _).alloc _
    have k5 : Blk (((((w.alloc (.cells #[.pointer (some ⟨q, 0, none⟩)] 44)).alloc (.cells #[.slice Au used.length cu] 72)).alloc (.cells #[.slice none 0 0] 72)).alloc (.cells #[.nilIface] 25)).alloc (.cells #[.slice none 0 0] 72)) (w.heap.size + 1) 72 #[(.slice Au used.length cu)] := by
      have := (((Blk.new (w.alloc (.cells #[.pointer (some ⟨q, 0, none⟩)] 44)) 72 #[(.slice Au used.length cu)]).alloc (.cells #[.slice none 0 0] 72)).alloc (.cells #[.nilIface] 25)).alloc (.cells #[.slice none 0 0] 72)
      simpa using this
    have k6 : Blk (((((w.alloc (.cells #[.pointer (some ⟨q, 0, none⟩)] 44)).alloc (.cells #[.slice Au used.length cu] 72)).alloc (.cells #[.slice none 0 0] 72)).alloc (.cells #[.nilIface] 25)).alloc (.cells #[.slice none 0 0] 72)) (w.heap.size + 1 + 1) 72 #[.slice none 0 0] := by
      have := ((Blk.new ((w.alloc (.cells #[.pointer (some ⟨q, 0, none⟩)] 44)).alloc (.cells #[.slice Au used.length cu] 72)) 72 #[.slice none 0 0]).alloc (.cells #[.nilIface] 25)).alloc (.cells #[.slice none 0 0] 72)
      simpa using this
    have k7 : Blk (((((w.alloc (.cells #[.pointer (some ⟨q, 0, none⟩)] 44)).alloc (.cells #[.slice Au used.length cu] 72)).alloc (.cells #[.slice none 0 0] 72)).alloc (.cells #[.nilIface] 25)).alloc (.cells #[.slice none 0 0] 72)) (w.heap.size + 1 + 1 + 1) 25 #[.nilIface] := by
      have := (Blk.new (((w.alloc (.cells #[.pointer (some ⟨q, 0, none⟩)] 44)).alloc (.cells #[.slice Au used.length cu] 72)).alloc (.cells #[.slice none 0 0] 72)) 25 #[.nilIface]).alloc (.cells #[.slice none 0 0] 72)
      simpa using this
    have k8 : Blk (((((w.alloc (.cells #[.pointer (some ⟨q, 0, none⟩)] 44)).alloc (.cells #[.slice Au used.length cu] 72)).alloc (.cells #[.slice none 0 0] 72)).alloc (.cells #[.nilIface] 25)).alloc (.cells #[.slice none 0 0] 72)) (w.heap.size + 1 + 1 + 1 + 1) 72 #[.slice none 0 0] := by
      have := Blk.new ((((w.alloc (.cells #[.pointer (some ⟨q, 0, none⟩)] 44)).alloc (.cells #[.slice Au used.length cu] 72)).alloc (.cells #[.slice none 0 0] 72)).alloc (.cells #[.nilIface] 25)) 72 #[.slice none 0 0]
      simpa using this
    exact ⟨k3, k5, k6, k7, ⟨none, 0, k8, World.ownsRow_nil _ _ _ _⟩, hc.below hb5, .of_below hb5, hpw, hqw, hB0, hbb⟩
  have hsz5 : w.heap.size + 1 + 1 + 1 + 1 < (((((w.alloc (.cells #[.pointer (some ⟨q, 0, none⟩)] 44)).alloc (.cells #[.slice Au used.length cu] 72)).alloc (.cells #[.slice none 0 0] 72)).alloc (.cells #[.nilIface] 25)).alloc (.cells #[.slice none 0 0] 72)).heap.size := by simp
  clear h hc hl hu hd hok hb5
  refine (callsIn_wide (n := 6)).1 ?_
  refine callsIn_of_wp_marks Tryz.func104 rfl trivial ?_ rfl
  simp only [Tryz.ntmps104, List.size_toArray, List.length_cons, List.length_nil, Nat.reduceAdd, Nat.reduceSub, Array.replicate_succ, Array.replicate_zero, List.push_toArray, List.append_toArray, List.nil_append, List.cons_append]
  refine wpIn_wide.2 ?_
  go_wp2_with fail
  generalize hWL : (((((w.alloc (.cells #[.pointer (some ⟨q, 0, none⟩)] 44)).alloc (.cells #[.slice Au used.length cu] 72)).alloc (.cells #[.slice none 0 0] 72)).alloc (.cells #[.nilIface] 25)).alloc (.cells #[.slice none 0 0] 72)) = WL at *
  clear hWL
  refine (chunk_any A l.length cp 14 (by decide) WL).mono ?_
  rintro e10 w10 ⟨rfl, rfl⟩
  have hTL : TbS B q p (.slice Au used.length cu) w (WL.heap.size + 2) c [] ((WL.alloc (.cells #[(.slice A l.length cp)] 31)).alloc (.cells #[.int .i64 14] 3)) := by
    have h := HT0.out (WL.heap.size + 2) (by omega)
    exact (h.below ((Below.refl _ _).alloc (Nat.le_refl _) _)).below ((Below.refl _ _).alloc (Nat.le_refl _) _)
  have HTL := Lib.hid hTL
  have HBs : Blk ((WL.alloc (.cells #[(.slice A l.length cp)] 31)).alloc (.cells #[.int .i64 14] 3)) WL.heap.size 31 #[(.slice A l.length cp)] := (Blk.new WL _ _).alloc _
  have HBn : Blk ((WL.alloc (.cells #[(.slice A l.length cp)] 31)).alloc (.cells #[.int .i64 14] 3)) (WL.heap.size + 1) 3 #[.int .i64 (14 : Nat)] := by
    have := Blk.new (WL.alloc (.cells #[(.slice A l.length cp)] 31)) 3 #[.int .i64 14]
    simpa using this
  have hps : WL.heap.size + 2 ≤ ((WL.alloc (.cells #[(.slice A l.length cp)] 31)).alloc (.cells #[.int .i64 14] 3)).heap.size := by simp
  generalize hWW : ((WL.alloc (.cells #[(.slice A l.length cp)] 31)).alloc (.cells #[.int .i64 14] 3)) = WW at *
  generalize WL.heap.size = Bs at *
  clear hWW hTL HT0
  go_wp2_with fail
  refine (wpIn_wide (n := 6)).1 ?_
  refine wpIn_rangeFunc_ownF (n := 6) rfl (by decide) (gf := 162) (lb := #[.pointer (some ⟨Bs, 0, none⟩), .pointer (some ⟨Bs + 1, 0, none⟩)]) rfl trivial (enters_of Tryz.func162 (by kernel_rfl) rfl)
    (chunk_stops 5 (by decide) Bs (Bs + 1) g o l.length cp 14 A hA (by decide) (by decide) (by omega) hc1 hc2 WW HBs HBn) kpc_t (fun W k o o' hk _ _ _ => kpc_b (Bs := Bs) (Bn := Bs + 1) W k o' (by omega) (by omega)) (Below.refl _ _) (fun _ => rfl)
    (fun pre W => ∃ (c' : Chip) (out : List Int), (∀ ps, tablesM used (ckQs l pre ++ ps) c [] = tablesM used ps c' out) ∧ c'.down = false ∧ out.length ≤ 14 * pre.length ∧ TbS B q p (.slice Au used.length cu) w (Bs + 2) c' out W ∧ Bs + 2 ≤ W.heap.size)
    (fun cde pre W => cde = .ret ∧ ∃ (c' : Chip) (n : Nat), n ≠ 0 ∧ (∀ ps, tablesM used (ckQs l pre ++ ps) c [] = (c', [], n)) ∧ TbR B p w n c' W)
    (fun s A' B' row hs hg hr => by obtain ⟨c', out, h1, h2, h3, h4, h5⟩ := hs; exact ⟨c', out, h1, h2, h3, h4.grown hg hr (by omega), Nat.le_trans h5 hg.size⟩)
    (fun cde s A' B' row hs hg hr => by obtain ⟨h0, c', n, h1, h2, h3⟩ := hs; exact ⟨h0, c', n, h1, h2, h3.grown hg hr (by omega)⟩)
    ⟨c, [], fun ps => rfl, HD.out, by simp, HTL.out, by omega⟩ ?a1 ?assign ?body ?done ?stop
  case assign =>
    intro l0 x W K hK
    simp only [ckVal]
    gi_wp2
    exact hK
  case body =>
    rintro l0 pre ⟨k, hkx⟩ W ⟨c0, out, hst, hdn, hol, hT, hWs⟩ hpre
    obtain rfl := hA (by omega)
    obtain ⟨m, hm⟩ : ∃ m, min 14 (l.length - 14 * k) = m := ⟨_, rfl⟩
    have hen : ∀ W', Fr B (· = p) w W' → Ents B W' (.slice (some ⟨g, o + 14 * k * 3, none⟩) m m) (ckList 14 l k) := fun W' hf => by
      have := ents_chunk (nn := 14) (k := k) (HL.out.fr hf)
      rw [hm] at this
      exact this
    have HEN := Lib.hid hen
    have htf : tabF (ckList 14 l k) = 0 := by
      refine HOK.out _ (List.mem_map.2 ⟨k, ?_, rfl⟩)
      rw [List.mem_range]
      omega
    have HTF := Lib.hid htf
    have hst' : ∀ ps, tablesM used (ckQs l (pre ++ [⟨k, hkx⟩]) ++ ps) c [] = tablesM used (ckList 14 l k :: ps) c0 out := fun ps => by rw [ckQs_snoc, hst]
    have HST := Lib.hid hst'
    have hg0 : goods c0 < 25 := by have := goods_le c0; omega
    have HT1 := Lib.hid hT
    have HD0 := Lib.hid hdn
    have hol2 : out.length ≤ 14 * l.length := by have : 14 * pre.length ≤ 14 * l.length := Nat.mul_le_mul_left _ (by omega); omega
    simp only [hm]
    clear hm hen htf hst hst' hT hdn
    gi_wp2_with fail
    gi_loopg [10] 25 (fun gk b W' => ∃ c' : Chip, Hid (TbS B q p (.slice Au used.length cu) w (Bs + 2) c' out W') ∧ Hid (KeepT Bs W W') ∧ Hid (seek (fun c b => tabWrite c b (ckList 14 l k)) (used ++ out) gk c' = seek (fun c b => tabWrite c b (ckList 14 l k)) (used ++ out) 25 c0) ∧ goods c' < gk ∧ Hid (c'.down = false))
    case atStart => exact ⟨c0, HT1.out, KeepT.refl _ _, rfl, hg0, HD0.out⟩
    case round =>
      obtain ⟨c', hT2, hK2, hs2, hg2, hd2⟩ := hrel
      clear hg0 HD0
      obtain ⟨gn, rfl⟩ : ∃ gn, gk = gn + 1 := ⟨gk - 1, by omega⟩
      obtain ⟨Ao, co, hbo, hown⟩ := hT2.out.bo
      have y0 := hT2.out.b3.cell 0
      have y1 := hT2.out.b5.cell 0
      have y2 := hbo.cell 0
      simp at y0 y1 y2
      have y3 := HX0.out wr hT2.out.fr
      have hsw := hT2.out.fr.size
      have hkw := hK2.out.size
      have HSK : Hid (∀ W', Below wr.heap.size wr W' → W'.cell? ⟨w.heap.size, 0, none⟩ = some (.pointer (some ⟨q, 0, none⟩)) ∧ W'.cell? ⟨q, 0, none⟩ = some (.pointer (some ⟨p, 0, none⟩)) ∧ W'.cell? ⟨w.heap.size + 1, 0, none⟩ = some (.slice Au used.length cu) ∧ W'.cell? ⟨w.heap.size + 1 + 1 + 1 + 1, 0, none⟩ = some (.slice Ao out.length co)) := by
        intro W' hb
        have h := hT2.out.below hb
        have a0 := h.b3.cell 0
        have a1 := h.b5.cell 0
        have a2 := (hbo.below hb hbo.lt).cell 0
        simp at a0 a1 a2
        exact ⟨a0, HX0.out W' h.fr, a1, a2⟩
      have hbI : Below wr.heap.size wr (wr.alloc (.cells #[.slice Au used.length cu, .slice Ao out.length co] 72)).drew := ((Below.refl _ _).alloc (Nat.le_refl _) _).drew
      have hCC : Calls Tryz.prog 49 #[.slice (some ⟨wr.heap.size, 0, none⟩) 2 2] (wr.alloc (.cells #[.slice Au used.length cu, .slice Ao out.length co] 72)).drew fun e w3 => ∃ v3, e = .returned v3 ∧ Ints B w3 v3 (used ++ out) ∧ Below wr.heap.size wr w3 := by
        refine (concat_rd B _ _ _ used out _ (Blk.drewN (Blk.new wr 72 #[.slice Au used.length cu, .slice Ao out.length co]) 1) ((HU.out.fr hT2.out.fr).below hbI) (Ints.below (Rd.of_own hown) hbI) (by omega) (by omega)).mono ?_
        rintro e w3 ⟨v3, h1, h2, h3⟩
        exact ⟨v3, h1, h2, hbI.trans (h3.mono (by simp))⟩
      have HCC := Lib.hid hCC
      have HBI := Lib.hid hbI
      clear hCC hbI
      gi_wp2_with fail
      refine region_in (S := fun w' => w'.cell? ⟨w.heap.size, 0, none⟩ = some (.pointer (some ⟨q, 0, none⟩)) ∧ w'.cell? ⟨q, 0, none⟩ = some (.pointer (some ⟨p, 0, none⟩)) ∧ w'.cell? ⟨w.heap.size + 1, 0, none⟩ = some (.slice Au used.length cu) ∧ w'.cell? ⟨w.heap.size + 1 + 1 + 1 + 1, 0, none⟩ = some (.slice Ao out.length co)) (by kernel_rfl) (by kernel_rfl) ?_ ⟨y0, y3, y1, y2⟩ (fun hHeld => ?_)
      · rintro ⟨a, w, h⟩
        exact h
      refine wpAnyH_take (i := 0) (oi := ⟨some 15, _, _, _, _, _⟩) (v := .pointer (some ⟨q, 0, none⟩)) rfl (by kernel_rfl) (by kernel_rfl) (by kernel_rfl) (fun _ _ _ h => h) (Or.inl ⟨by rfl, ?_⟩) (by assumption) ?_
      · intro wS hSw
        go_simp
      simp only [Act.put, List.setIfInBounds_toArray, List.set_cons_zero, List.set_cons_succ]
      refine wpAnyH_take (i := 1) (oi := ⟨some 16, _, _, _, _, _⟩) (v := .pointer (some ⟨q, 0, none⟩)) rfl (by kernel_rfl) (by kernel_rfl) (by kernel_rfl) (fun _ _ _ h => h) (Or.inl ⟨by rfl, ?_⟩) (by assumption) ?_
      · intro wS hSw
        go_simp
      simp only [Act.put, List.setIfInBounds_toArray, List.set_cons_zero, List.set_cons_succ]
      refine wpAnyH_take (i := 2) (oi := ⟨some 17, _, _, _, _, _⟩) (v := .pointer (some ⟨q, 0, none⟩)) rfl (by kernel_rfl) (by kernel_rfl) (by kernel_rfl) (fun _ _ _ h => h) (Or.inl ⟨by rfl, ?_⟩) (by assumption) ?_
      · intro wS hSw
        go_simp
      simp only [Act.put, List.setIfInBounds_toArray, List.set_cons_zero, List.set_cons_succ]
      refine wpAnyH_take (i := 3) (oi := ⟨some 18, _, _, _, _, _⟩) (v := .pointer (some ⟨p, 0, none⟩)) rfl (by kernel_rfl) (by kernel_rfl) (by kernel_rfl) (fun _ _ _ h => h) (Or.inl ⟨by rfl, ?_⟩) (by assumption) ?_
      · intro wS hSw
        go_simp
      simp only [Act.put, List.setIfInBounds_toArray, List.set_cons_zero, List.set_cons_succ]
      refine wpAnyH_take (i := 4) (oi := ⟨some 19, _, _, _, _, _⟩) (v := .slice Au used.length cu) rfl (by kernel_rfl) (by kernel_rfl) (by kernel_rfl) (fun _ _ _ h => h) (Or.inl ⟨by rfl, ?_⟩) (by assumption) ?_
      · intro wS hSw
        go_simp
      simp only [Act.put, List.setIfInBounds_toArray, List.set_cons_zero, List.set_cons_succ]
      refine wpAnyH_take (i := 5) (oi := ⟨some 20, _, _, _, _, _⟩) (v := .slice Ao out.length co) rfl (by kernel_rfl) (by kernel_rfl) (by kernel_rfl) (fun _ _ _ h => h) (Or.inl ⟨by rfl, ?_⟩) (by assumption) ?_
      · intro wS hSw
        go_simp
      simp only [Act.put, List.setIfInBounds_toArray, List.set_cons_zero, List.set_cons_succ]
      refine wpAnyH_ready (rs := [6]) (by kernel_rfl) (by simp) ?_
      refine AllReadyH.cons (o := ⟨some 21, _, _, _, _, _⟩) rfl (fun K hK => ?_) AllReadyH.nil
      go_simp
      refine hK.out _ _ ?_ (fun hHeld => ?_)
      · exact HSK.out _ HBI.out
      clear hK K
      try simp only [Act.put, List.setIfInBounds_toArray, List.set_cons_zero, List.set_cons_succ]
      refine wpAnyH_ready (rs := [7]) (by kernel_rfl) (by simp) ?_
      refine AllReadyH.cons (o := ⟨some 22, _, _, _, _, _⟩) rfl (fun K hK => ?_) AllReadyH.nil
      go_simp
      refine HCC.out.mono ?_
      rintro e w3 ⟨v3, rfl, hi3, hb3⟩
      obtain ⟨A3, c3, hv3, _, _, _⟩ := hi3.form
      rw [List.length_append] at hv3
      subst hv3
      refine hK.out _ _ ?_ (fun hHeld => ?_)
      · exact HSK.out _ hb3
      clear hK K
      have HT3 := Lib.hid (hT2.out.below hb3)
      have HK3 := Lib.hid (hK2.out.trans (KeepT.below hb3 (by omega)))
      have HFR := Lib.hid (free_any B p c' _ (used ++ out) w3 HT3.out.rep hi3)
      have hbo3 := hbo.below hb3 hbo.lt
      have hown3 := own_below hown hb3
      have hs3 := hb3.size
      have HBO3 := Lib.hid hbo3
      have HOW3 := Lib.hid hown3
      clear hi3 hb3 hbo hown hbo3 hown3 HCC HBI HSK y0 y1 y2 y3
      try simp only [Act.put, List.setIfInBounds_toArray, List.set_cons_zero, List.set_cons_succ]
      have hsk := hs2.out
      rw [seek] at hsk
      obtain ⟨z0, z3, z1, z2⟩ := hHeld
      have hHeld : w3.cell? ⟨w.heap.size, 0, none⟩ = some (.pointer (some ⟨q, 0, none⟩)) ∧ w3.cell? ⟨q, 0, none⟩ = some (.pointer (some ⟨p, 0, none⟩)) ∧ w3.cell? ⟨w.heap.size + 1, 0, none⟩ = some (.slice Au used.length cu) ∧ w3.cell? ⟨w.heap.size + 1 + 1 + 1 + 1, 0, none⟩ = some (.slice Ao out.length co) := ⟨z0, z3, z1, z2⟩
      rcases freeM_spec c' (used ++ out) with ⟨hb, _⟩ | ⟨b, hb, b1, b2, b3, _⟩
      · rw [hb] at HFR hsk
        rw [if_pos (by omega)] at hsk
        have HX : Hid (∀ ps, tablesM used (ckQs l (pre ++ [⟨k, hkx⟩]) ++ ps) c [] = (c', [], 8)) := by
          intro ps
          rw [HST.out, tablesM, ← hsk]
          rfl
        clear hb hsk hs2
        refine wpAnyH_ready (rs := [8]) (by kernel_rfl) (by simp) ?_
        refine AllReadyH.cons (o := ⟨some 23, _, _, _, _, _⟩) rfl (fun K hK => ?_) AllReadyH.nil
        go_simp
        refine HFR.out.mono ?_
        rintro e w4 ⟨rfl, rfl⟩
        refine hK.out _ _ hHeld (fun _ => ?_)
        clear hK K
        try simp only [Act.put, List.setIfInBounds_toArray, List.set_cons_zero, List.set_cons_succ]
        refine wpAnyH_ready (rs := [9]) (by kernel_rfl) (by simp) ?_
        refine AllReadyH.cons (o := ⟨some 10, _, _, _, _, _⟩) rfl (fun K hK => ?_) AllReadyH.nil
        go_simp
        refine hK.out _ _ hHeld (fun _ => ?_)
        clear hK K HFR
        try simp only [Act.put, List.setIfInBounds_toArray, List.set_cons_zero, List.set_cons_succ]
        refine wpAnyH_done (by kernel_rfl) ?_ _
        have t1 : decide ((-1 : Int) < 0) = true := by decide
        have f6 := HT3.out.b6.frozen 0
        have f7 := HT3.out.b7.frozen 0
        have r6 := HT3.out.b6.cell 0
        have r7 := HT3.out.b7.cell 0
        have l6 := HT3.out.b6.lt
        have l7 := HT3.out.b7.lt
        simp at r6 r7
        clear hHeld z0 z1 z2 z3
        gi_wp2_with fail
        exact ⟨(HK3.out.trans (HT3.out.res (by omega) _ _)).others, rfl, c', 8, by decide, HX.out, HT3.out.stop 8⟩
      · rw [hb] at HFR hsk
        rw [if_neg (by omega)] at hsk
        have htw := twrite_any B p c' (b : Int) _ (ckList 14 l k) w3 HT3.out.rep (HEN.out w3 HT3.out.fr) HTF.out
        have h7 := tab_seven HT3.out.rep.wf hd2.out b2 b3 HTF.out
        have h0 := tab_zero HT3.out.rep.wf hd2.out b2 b3 HTF.out
        have HXE : Hid (∀ (c2 : Chip) (n : Nat), n ≠ 0 → (c2, (0 : Int), n) = seek (fun c b => tabWrite c b (ckList 14 l k)) (used ++ out) 25 c0 → ∀ ps, tablesM used (ckQs l (pre ++ [⟨k, hkx⟩]) ++ ps) c [] = (c2, [], n)) := by
          intro c2 n hn e ps
          rw [HST.out, tablesM, ← e]
          simp only
          rw [if_neg hn]
        have HX0' : Hid (∀ (c2 : Chip), (c2, (b : Int), 0) = seek (fun c b => tabWrite c b (ckList 14 l k)) (used ++ out) 25 c0 → ∀ ps, tablesM used (ckQs l (pre ++ [⟨k, hkx⟩]) ++ ps) c [] = tablesM used ps c2 (out ++ [(b : Int)])) := by
          intro c2 e ps
          rw [HST.out, tablesM, ← e]
          simp only
          rw [if_pos trivial]
        obtain ⟨⟨c2, n⟩, he⟩ : ∃ r, tabWrite c' (b : Int) (ckList 14 l k) = r := ⟨_, rfl⟩
        rw [he] at hsk htw h7 h0
        simp only at hsk h7 h0
        have t1 : decide ((b : Int) < 0) = false := decide_eq_false (by omega)
        have hgs := fun hw => goods_spoil (c := c') b2 b3 hw
        clear hb he hs2
        have HTK : Hid (Calls Tryz.prog 137 #[.pointer (some ⟨p, 0, none⟩), .int .i64 b, .slice (some ⟨g, o + 14 * k * 3, none⟩) m m] w3 fun e w5 => e = .returned (errV n) ∧ TbS B q p (.slice Au used.length cu) w (Bs + 2) c2 out w5 ∧ KeepT Bs W w5 ∧ Fr B (· = p) w3 w5) := by
          refine htw.mono ?_
          rintro e w5 ⟨h1, h2, h3⟩
          exact ⟨h1, HT3.out.chip h2 h3, HK3.out.trans (KeepT.chip h3 (by omega) (by omega) HT3.out.rep), h3⟩
        clear htw
        by_cases hn7 : n = 7
        · subst hn7
          rw [if_pos rfl] at hsk
          obtain ⟨h71, h72⟩ := h7 rfl
          subst h71
          have hg3 := hgs h72
          have HS := Lib.hid hsk
          have HDN : Hid ((c'.spoil b).down = false) := by rw [Hid, (spoil_rest c' b).1]; exact hd2.out
          rw [show errV 7 = .iface 39 (.int .i64 7) from rfl] at HTK
          clear hsk h7 h0 hgs h72
          refine wpAnyH_ready (rs := [8]) (by kernel_rfl) (by simp) ?_
          refine AllReadyH.cons (o := ⟨some 23, _, _, _, _, _⟩) rfl (fun K hK => ?_) AllReadyH.nil
          go_simp
          refine HFR.out.mono ?_
          rintro e w4 ⟨rfl, rfl⟩
          refine hK.out _ _ hHeld (fun _ => ?_)
          clear hK K
          try simp only [Act.put, List.setIfInBounds_toArray, List.set_cons_zero, List.set_cons_succ]
          refine wpAnyH_ready (rs := [9]) (by kernel_rfl) (by simp) ?_
          refine AllReadyH.cons (o := ⟨some 10, _, _, _, _, _⟩) rfl (fun K hK => ?_) AllReadyH.nil
          go_simp
          refine hK.out _ _ hHeld (fun _ => ?_)
          clear hK K HFR
          try simp only [Act.put, List.setIfInBounds_toArray, List.set_cons_zero, List.set_cons_succ]
          refine wpAnyH_done (by kernel_rfl) ?_ _
          clear hHeld z1 z2
          gi_wp2_with (refine ⟨trivial, ?_⟩; gi_at_call 137; refine (CallsIn.inRound l0 (callsIn_wide.2 HTK.out)).mono ?_; rintro e5 w5 ⟨rfl, ht5, hk5, hf5⟩; have HT5 := Lib.hid ht5; have HK5 := Lib.hid hk5; clear ht5 hk5 hf5)
          gi_roundg gn
          case measure => omega
          case rel => exact ⟨_, HT5, HK5, HS, by omega, HDN⟩
        · by_cases hn0 : n = 0
          · subst hn0
            rw [if_neg hn7, if_pos rfl] at hsk
            have HX := Lib.hid (HX0'.out c2 hsk)
            obtain ⟨hdn2, hpn2⟩ := h0 rfl
            have HDN := Lib.hid hdn2
            have HPN := Lib.hid hpn2
            rw [show errV 0 = .nilIface from rfl] at HTK
            obtain ⟨i0, hi, hz0, hz1, hz2⟩ := info_parts info_int
            clear hsk h7 h0 hgs hdn2 hpn2 hn7
            refine wpAnyH_ready (rs := [8]) (by kernel_rfl) (by simp) ?_
            refine AllReadyH.cons (o := ⟨some 23, _, _, _, _, _⟩) rfl (fun K hK => ?_) AllReadyH.nil
            go_simp
            refine HFR.out.mono ?_
            rintro e w4 ⟨rfl, rfl⟩
            refine hK.out _ _ hHeld (fun _ => ?_)
            clear hK K
            try simp only [Act.put, List.setIfInBounds_toArray, List.set_cons_zero, List.set_cons_succ]
            refine wpAnyH_ready (rs := [9]) (by kernel_rfl) (by simp) ?_
            refine AllReadyH.cons (o := ⟨some 10, _, _, _, _, _⟩) rfl (fun K hK => ?_) AllReadyH.nil
            go_simp
            refine hK.out _ _ hHeld (fun _ => ?_)
            clear hK K HFR
            try simp only [Act.put, List.setIfInBounds_toArray, List.set_cons_zero, List.set_cons_succ]
            refine wpAnyH_done (by kernel_rfl) ?_ _
            clear hHeld z1 z2
            gi_wp2_with (first
              | (refine ⟨trivial, ?_⟩; gi_at_call 137; refine (CallsIn.inRound l0 (callsIn_wide.2 HTK.out)).mono ?_; rintro e5 w5 ⟨rfl, ht5, hk5, hf5⟩; obtain ⟨A6, c6, hbo6, hown6⟩ := ht5.bo; have q8 := hbo6.cell 0; have q8f := hbo6.frozen 0; simp at q8; have HT5 := Lib.hid ht5; have HK5 := Lib.hid hk5; have HBO6 := Lib.hid hbo6; have HOW6 := Lib.hid hown6; have hs5 := hf5.size; clear ht5 hk5 hf5 hbo6 hown6)
              | (gi_at_builtin; refine wpListIn_append_own _ rfl (.tmp 36) (.tmp 38) 72 rfl (Bs + 2) 3 i0 (.int .i64 0) 1 8 Tryz.underlying72 hi hz0 hz1 hz2 rfl (by decide) _ _ _ rfl (own_alloc HOW6.out (.cells #[.int .i64 b] 3)) ⟨w5.heap.size, 0, none⟩ 1 1 [.int .i64 b] rfl rfl (cell_one w5 b) ints_one1 (by unfold maxLen; omega) (by omega) (by simp; omega) ?_; intro v6 w6 hown7 hg7 _; obtain ⟨A7, c7, rfl⟩ := own_form hown7; have hb7 := HBO6.out.alloc (.cells #[.int .i64 b] 3); have hb8 := hb7.grownO hg7 (own_alloc HOW6.out (.cells #[.int .i64 b] 3)) (by omega); have p8 := hb8.cell 0; have p8f := hb8.frozen 0; have p8l := hb8.lt; simp at p8; have HFI := Lib.hid (TbS.fini (x := b) HT5.out HPN.out HBO6.out HOW6.out HK5.out hown7 hg7 ⟨by omega, by omega⟩ (by omega)); clear hown7 hg7 hb7 hb8))
            clear hi hz0 hz1 hz2
            exact ⟨HFI.out.2.others, ⟨HFI.out.2.s1, HFI.out.2.s2⟩, c2, out ++ [(b : Int)], HX.out, HDN.out, by simp; omega, HFI.out.1, by have := HFI.out.2.size; omega⟩
          · rw [if_neg hn7, if_neg hn0] at hsk
            have HX := Lib.hid (HXE.out c2 n hn0 hsk)
            have he := errV_pos hn0
            have HSTP : Hid (∀ W', TbS B q p (.slice Au used.length cu) w (Bs + 2) c2 out W' → TbR B p w n c2 ((W'.setCell ⟨w.heap.size + 1 + 1, 0, none⟩ (.slice none 0 0)).setCell ⟨w.heap.size + 1 + 1 + 1, 0, none⟩ (.iface 39 (.int .i64 n)))) := fun W' h => by
              have := h.stop n
              rw [he] at this
              exact this
            rw [he] at HTK
            have t2 : (((n : Nat) : Int) == 7) = false := beq_eq_false_iff_ne.2 (by omega)
            have HN0 := Lib.hid hn0
            clear hsk h7 h0 hgs he hn0 hn7
            refine wpAnyH_ready (rs := [8]) (by kernel_rfl) (by simp) ?_
            refine AllReadyH.cons (o := ⟨some 23, _, _, _, _, _⟩) rfl (fun K hK => ?_) AllReadyH.nil
            go_simp
            refine HFR.out.mono ?_
            rintro e w4 ⟨rfl, rfl⟩
            refine hK.out _ _ hHeld (fun _ => ?_)
            clear hK K
            try simp only [Act.put, List.setIfInBounds_toArray, List.set_cons_zero, List.set_cons_succ]
            refine wpAnyH_ready (rs := [9]) (by kernel_rfl) (by simp) ?_
            refine AllReadyH.cons (o := ⟨some 10, _, _, _, _, _⟩) rfl (fun K hK => ?_) AllReadyH.nil
            go_simp
            refine hK.out _ _ hHeld (fun _ => ?_)
            clear hK K HFR
            try simp only [Act.put, List.setIfInBounds_toArray, List.set_cons_zero, List.set_cons_succ]
            refine wpAnyH_done (by kernel_rfl) ?_ _
            clear hHeld z1 z2
            gi_wp2_with (refine ⟨trivial, ?_⟩; gi_at_call 137; refine (CallsIn.inRound l0 (callsIn_wide.2 HTK.out)).mono ?_; rintro e5 w5 ⟨rfl, ht5, hk5, hf5⟩; have HT5 := Lib.hid ht5; have HK5 := Lib.hid hk5; have f6 := ht5.b6.frozen 0; have f7 := ht5.b7.frozen 0; have l6 := ht5.b6.lt; have l7 := ht5.b7.lt; have r6 := ht5.b6.cell 0; have r7 := ht5.b7.cell 0; simp at r6 r7; clear ht5 hk5 hf5)
            exact ⟨(HK5.out.trans (HT5.out.res (by omega) _ _)).others, rfl, c2, n, HN0.out, HX.out, HSTP.out _ HT5.out⟩
  case done =>
    rintro D xs W hD ⟨k, hk, rfl⟩ ⟨c', out, h1, h2, h3, h4, h5⟩ hK
    have hend : tablesM used (parts 14 l) c [] = (c', out, 0) := by
      have := h1 []
      rw [List.append_nil, ckQs, ck_parts, List.take_of_length_le (by rw [parts_len]; omega)] at this
      exact this
    have HEND := Lib.hid hend
    obtain ⟨A6, c6, hbo, hown⟩ := h4.bo
    have q8 := hbo.cell 0
    have r6 := h4.b6.cell 0
    have r7 := h4.b7.cell 0
    have f6 := h4.b6.frozen 0
    have f7 := h4.b7.frozen 0
    have l6 := h4.b6.lt
    have l7 := h4.b7.lt
    simp at q8 r6 r7
    have HTD := Lib.hid (h4.last (D := D) (by omega) hK rfl hown (.deferred none))
    clear hend h1 h4 hbo hown
    go_wp2_with fail
    have hc6 := HTD.out.2.2.2.1
    have hc7 := HTD.out.2.2.2.2.1
    refine ⟨by simp, .inl ⟨_, _, rfl, run_takeDeferred HTD.out.2.2.2.2.2, ?_⟩⟩
    refine ⟨.tuple #[.slice A6 out.length c6, .nilIface], by simp [results, Tryz.results104, go_sem, hc6, hc7], ?_⟩
    rw [HEND.out]
    exact ⟨_, rfl, HTD.out.2.2.1, HTD.out.1, HTD.out.2.1⟩
  case stop =>
    rintro D cde pre W hD ⟨k, rfl⟩ ⟨rfl, c', n, hn, hst, hR⟩ hK
    have hend : tablesM used (parts 14 l) c [] = (c', [], n) := by
      have := hst ((parts 14 l).drop k)
      rw [ckQs, ck_parts, List.take_append_drop] at this
      exact this
    have HEND := Lib.hid hend
    clear hend hst
    gi_wp2
    have hTD := hR.grown (grownBy_putObj' W D (.deferred none)) (fun r e => by cases e; exact ⟨hD, _, hK, rfl⟩) (by omega)
    have hc6 := hTD.b6.cell 0
    have hc7 := hTD.b7.cell 0
    simp at hc6 hc7
    refine ⟨by simp, .inl ⟨_, _, rfl, run_takeDeferred hK, ?_⟩⟩
    refine ⟨.tuple #[.slice none 0 0, errV n], by simp [results, Tryz.results104, go_sem, hc6, hc7], ?_⟩
    rw [HEND.out]
    exact ⟨_, rfl, Rd.nil _ _ _ _, hTD.rep, hTD.fr⟩
end Go.Proofs.YtaepdbkfaoiimabGreatDoor
