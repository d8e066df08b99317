/- Several texts of this proof, one behind the other: walks and plain laws that the statements rest on. Conditions: none but those that each lemma names. -/
import Derived.Test.YtaepdbkfaoiimabGreatMe
import Derived.Sort.LoopGhostIn
/- The contract of store.tables. Conditions: the parts are those of tables. -/
set_option linter.unusedVariables false
set_option linter.unusedSimpArgs false
namespace Go.Proofs.YtaepdbkfaoiimabGreat
open Go.RowKit Go.Shelf
attribute [local go_sem] Oper.semAt_some
attribute [local go_sem ↓] eql_err eql_nilerr neq_err neq_nilerr guard_err guard_nilerr guardn_err guardn_nilerr
theorem own_keep {w w' : World} {base : Nat} {e : TypeId} {size : Nat} {v : Value} {n : Nat} {xs : List Value} (h : w.ownsRow base e size v n xs) (hk : ∀ g, v.ownBlock = some g → w'.heap[g]? = w.heap[g]?) : w'.ownsRow base e size v n xs := by
  refine ⟨h.1, ?_⟩
  rcases h.2 with hn | ⟨g, cap, cur, h1, hg, hh, hrest⟩
  · exact .inl hn
  · exact .inr ⟨g, cap, cur, h1, hg, (hk g (by rw [h1]; rfl)).trans hh, hrest⟩
theorem own_tyB {w : World} {base : Nat} {e : TypeId} {size : Nat} {v : Value} {n : Nat} {xs : List Value} (h : w.ownsRow base e size v n xs) : ∀ g, v.ownBlock = some g → base ≤ g ∧ ∃ cs fz, w.heap[g]? = some (.cells cs e fz) := by
  intro g hg
  rcases h.2 with ⟨rfl, _⟩ | ⟨g', cap, cur, rfl, h1, h2, _⟩
  · cases hg
  · cases hg
    exact ⟨h1, cur, _, h2⟩
theorem heap_type {w : World} {g : Nat} {cs cs' : Array Value} {T T' : TypeId} {fz fz' : Nat × Nat} (h : w.heap[g]? = some (.cells cs T fz)) (k : w.heap[g]? = some (.cells cs' T' fz')) : T = T' := by
  rw [h] at k
  injection k with k
  injection k
theorem ChipR.grown {B p : Nat} {c : Chip} {w w' : World} {row : Option Nat} (h : ChipR B w p c) (hp : c.pend = none) (hg : w.grownBy w' row) (hr : ∀ g, row = some g → B ≤ g ∧ ∃ cs fz, w.heap[g]? = some (.cells cs 3 fz)) : ChipR B w' p c := by
  obtain ⟨V, u, hv, hu, hwf⟩ := h
  rw [hp] at hu
  refine ⟨V, u, ⟨?_, fun b hb => ?_, hv.base⟩, by rw [hp]; exact hu, hwf⟩
  · refine (hg.block p hv.blk.lt fun e => ?_).trans hv.blk
    obtain ⟨_, cs, fz, h2⟩ := hr p e.symm
    exact absurd (heap_type hv.blk h2) (by decide)
  · exact (hv.rows b hb).grown hg fun g e _ => by
      obtain ⟨h1, cs, fz, h2⟩ := hr g e
      exact ⟨h1, cs, _, fz, h2, by decide⟩
theorem Fr.grownR {B : Nat} {M : Nat → Prop} {w W W' : World} {row : Option Nat} (h : Fr B M w W) (hg : W.grownBy W' row) (hr : ∀ g, row = some g → w.heap.size ≤ g) : Fr B M w W' :=
  ⟨hg.os.trans h.os, hg.tape.trans h.tape, hg.output.trans h.output, Nat.le_trans h.size hg.size, fun k hk hc => (hg.block k (Nat.lt_of_lt_of_le hk h.size) (fun e => by have := hr k e.symm; omega)).trans (h.block k hk hc)⟩
/-- The parts that have been gone through. -/
theorem ck_parts (l : List Ent) : ∀ k, (ckUpto 14 l.length k).map (fun j => ckList 14 l j.1) = (parts 14 l).take k
  | 0 => rfl
  | k + 1 => by
    have hpl : (parts 14 l).length = (l.length + 13) / 14 := parts_len 14 l
    by_cases hk : 14 * k < l.length
    · have hlt : k < (parts 14 l).length := by rw [hpl]; omega
      rw [ckUpto_succ hk, List.map_append, ck_parts l k, List.take_succ_eq_append_getElem hlt]
      congr 1
      simp [parts, ckList]
    · have e : ckUpto 14 l.length (k + 1) = ckUpto 14 l.length k := by simp [ckUpto, List.range_succ, hk]
      rw [e, ck_parts l k, List.take_of_length_le (by rw [hpl]; omega), List.take_of_length_le (by rw [hpl]; omega)]
def ckQs (l : List Ent) (pre : List (Ck 14 l.length)) : List (List Ent) := pre.map (fun j => ckList 14 l j.1)
theorem ckQs_snoc (l : List Ent) (pre : List (Ck 14 l.length)) (k : Ck 14 l.length) (ps : List (List Ent)) : ckQs l (pre ++ [k]) ++ ps = ckQs l pre ++ (ckList 14 l k.1 :: ps) := by simp [ckQs]
theorem chipR_farI {B p x : Nat} {c : Chip} {W : World} {cs : Array Value} (h : ChipR B W p c) (hx : Blk W x 57 cs) (hB : B ≤ x) (y : Value) : ChipR B (W.setCell ⟨x, 0, none⟩ y) p c := by
  have far : ∀ {k T : Nat} {cs : Array Value}, Blk W k T cs → T ≠ 57 → Blk (W.setCell ⟨x, 0, none⟩ y) k T cs := fun {k T cs} hb hT => hb.far (fun e => by
    have e : k = x := e
    subst e
    have := hx
    rw [Blk, show W.heap[k]? = some (.cells _ T (0, 0)) from hb] at this
    cases this
    exact hT rfl) _
  obtain ⟨V, u, hv, hu, hw⟩ := h
  refine ⟨V, u, ⟨far hv.blk (by decide), fun b hb => (hv.rows b hb).far hx hB (by decide) _, hv.base⟩, ?_, hw⟩
  generalize c.pend = o at hu ⊢
  match o, hu with
  | none, hu => exact hu
  | some (.wr b d), ⟨qh, qd, bx, bn, bd, h1, h2, h3, h4, h5, h6⟩ => exact ⟨qh, qd, bx, bn, bd, h1, far h2 (by decide), far h3 (by decide), far h4 (by decide), far h5 (by decide), far h6 (by decide)⟩
  | some (.er b), ⟨qh, qd, bx, h1, h2, h3, h4⟩ => exact ⟨qh, qd, bx, h1, far h2 (by decide), far h3 (by decide), far h4 (by decide)⟩
/-- What lies where, while tables runs. -/
structure TbS (B q p : Nat) (vu : Value) (w : World) (bb : Nat) (c : Chip) (out : List Int) (W : World) : Prop where
  b3 : Blk W w.heap.size 26 #[.pointer (some ⟨q, 0, none⟩)]
  b5 : Blk W (w.heap.size + 1) 57 #[vu]
  b6 : Blk W (w.heap.size + 1 + 1) 57 #[.slice none 0 0]
  b7 : Blk W (w.heap.size + 1 + 1 + 1) 28 #[.nilIface]
  bo : ∃ A cp, Blk W (w.heap.size + 1 + 1 + 1 + 1) 57 #[.slice A out.length cp] ∧ W.ownsRow bb 3 1 (.slice A out.length cp) out.length (out.map (.int .i64))
  rep : ChipR B W p c
  fr : Fr B (· = p) w W
  hp : p < w.heap.size
  hq : q < w.heap.size
  hB : B ≤ w.heap.size
  big : w.heap.size + 1 + 1 + 1 + 1 < bb
section
variable {B q p bb B0 n : Nat} {vu : Value} {w W W' : World} {c c' : Chip} {out : List Int} {row : Option Nat}
theorem TbS.below (h : TbS B q p vu w bb c out W) (hb : Below W.heap.size W W') : TbS B q p vu w bb c out W' := by
  obtain ⟨A, cp, h1, h2⟩ := h.bo
  exact ⟨h.b3.below hb h.b3.lt, h.b5.below hb h.b5.lt, h.b6.below hb h.b6.lt, h.b7.below hb h.b7.lt, ⟨A, cp, h1.below hb h1.lt, own_below h2 hb⟩, h.rep.below hb, h.fr.trans (Fr.of_below hb) (fun _ _ => trivial), h.hp, h.hq, h.hB, h.big⟩
theorem TbS.drewN (h : TbS B q p vu w bb c out W) (n : Nat) : TbS B q p vu w bb c out (W.drewN n) := h.below (below_drewN' (Below.refl _ _) n)
theorem TbS.chip (h : TbS B q p vu w bb c out W) (hr : ChipR B W' p c') (hf : Fr B (· = p) W W') : TbS B q p vu w bb c' out W' := by
  obtain ⟨A, cp, h1, h2⟩ := h.bo
  have hp := h.hp
  have ne : ∀ k, w.heap.size ≤ k → ¬ k = p := fun k hk => by omega
  refine ⟨h.b3.fr hf (.inr (.inl (ne _ (by omega)))), h.b5.fr hf (.inr (.inl (ne _ (by omega)))), h.b6.fr hf (.inr (.inl (ne _ (by omega)))), h.b7.fr hf (.inr (.inl (ne _ (by omega)))), ⟨A, cp, h1.fr hf (.inr (.inl (ne _ (by omega)))), own_keep h2 fun g hg => ?_⟩, hr, h.fr.trans hf (fun _ _ => trivial), h.hp, h.hq, h.hB, h.big⟩
  obtain ⟨hb, cs, fz, hh⟩ := own_tyB h2 g hg
  have := h.big
  exact hf.block g (heap_lt hh) (.inr (.inl (ne g (by omega))))
theorem TbS.grown (h : TbS B q p vu w bb c out W) (hg : W.grownBy W' row) (hr : ∀ r, row = some r → B0 ≤ r ∧ ∃ o : Obj, W.heap[r]? = some o ∧ o.isCells = false) (hB0 : w.heap.size ≤ B0) : TbS B q p vu w bb c out W' := by
  obtain ⟨A, cp, h1, h2⟩ := h.bo
  have hf := fr_grown (B := B) hg (fun r e => ⟨Nat.le_trans (Nat.le_trans h.hB hB0) (hr r e).1, (hr r e).2⟩)
  refine ⟨blk_grown h.b3 hg hr, blk_grown h.b5 hg hr, blk_grown h.b6 hg hr, blk_grown h.b7 hg hr, ⟨A, cp, blk_grown h1 hg hr, own_keep h2 fun g hgg => ?_⟩, h.rep.keep hf (fun e => by have := (hr p e).1; have := h.hp; omega), h.fr.trans' hf (fun k hk e => by have := (hr k e).1; omega), h.hp, h.hq, h.hB, h.big⟩
  obtain ⟨hb, cs, fz, hh⟩ := own_tyB h2 g hgg
  refine hg.block g (heap_lt hh) fun e => ?_
  obtain ⟨_, o, h3, h4⟩ := hr g e.symm
  rw [hh] at h3
  cases h3
  cases h4
/-- A block more. -/
theorem TbS.more (h : TbS B q p vu w bb c out W) (hpd : c.pend = none) (hbb : bb ≤ W.heap.size) {A A' : Option Addr} {cp cp' : Nat} {x : Int} (h1 : Blk W (w.heap.size + 1 + 1 + 1 + 1) 57 #[.slice A out.length cp]) (h2 : W.ownsRow bb 3 1 (.slice A out.length cp) out.length (out.map (.int .i64)))
    (hown : W'.ownsRow bb 3 1 (.slice A' (out.length + 1) cp') (out.length + 1) (out.map (.int .i64) ++ [.int .i64 x])) (hg : W.grownBy W' (Value.slice A out.length cp).ownBlock) : TbS B q p vu w bb c (out ++ [x]) (W'.setCell ⟨w.heap.size + 1 + 1 + 1 + 1, 0, none⟩ (.slice A' (out.length + 1) cp')) := by
  have hbig := h.big
  have hB := h.hB
  have hp := h.hp
  have hty := own_tyB h2
  have ne : ∀ k, k < bb → k < W.heap.size → W'.heap[k]? = W.heap[k]? := fun k hk hlt => hg.block k hlt (fun e => by have := (hty k e.symm).1; omega)
  have hb : ∀ {k T} {cs : Array Value}, k < bb → Blk W k T cs → Blk W' k T cs := fun {k T cs} hk hb => (ne k hk hb.lt).trans hb
  have h1' := hb (by omega) h1
  have far : ∀ {k T} {cs : Array Value}, k ≠ w.heap.size + 1 + 1 + 1 + 1 → Blk W' k T cs → Blk (W'.setCell ⟨w.heap.size + 1 + 1 + 1 + 1, 0, none⟩ (.slice A' (out.length + 1) cp')) k T cs := fun {k T cs} hk hb => hb.far (by exact hk) _
  have hfr : Fr B (· = p) w W' := h.fr.grownR hg (fun g e => by have := (hty g e).1; omega)
  have hrep : ChipR B W' p c := h.rep.grown hpd hg (fun g e => by obtain ⟨a, b⟩ := hty g e; exact ⟨by omega, b⟩)
  refine ⟨far (by omega) (hb (by omega) h.b3), far (by omega) (hb (by omega) h.b5), far (by omega) (hb (by omega) h.b6), far (by omega) (hb (by omega) h.b7), ⟨A', cp', ?_, ?_⟩, ?_, ?_, h.hp, h.hq, h.hB, h.big⟩
  · have := h1'.set_ 0 (.slice A' (out.length + 1) cp')
    rw [List.length_append, List.length_singleton]
    exact this
  · rw [List.length_append, List.length_singleton, List.map_append]
    refine own_keep hown fun g hgg => ?_
    obtain ⟨hb', cs, fz, hh⟩ := own_tyB hown g hgg
    exact Below.heap_setCell _ _ _ _ (fun e => by have e : g = w.heap.size + 1 + 1 + 1 + 1 := e; omega)
  · exact chipR_farI hrep h1' (by omega) _
  · exact hfr.setCell (by show B ≤ w.heap.size + 1 + 1 + 1 + 1; omega) (.inr (by show w.heap.size ≤ w.heap.size + 1 + 1 + 1 + 1; omega)) (fun e => absurd e (by show ¬ w.heap.size + 1 + 1 + 1 + 1 < w.heap.size; omega)) _
/-- Nothing has turned but cells, and not the iterator's. -/
structure KeepT (Bs : Nat) (W W' : World) : Prop where
  size : W.heap.size ≤ W'.heap.size
  other : ∀ (k : Nat) (o : Obj), W.heap[k]? = some o → o.isCells = false → W'.heap[k]? = some o
  s1 : W'.heap[Bs]? = W.heap[Bs]?
  s2 : W'.heap[Bs + 1]? = W.heap[Bs + 1]?
theorem KeepT.refl (Bs : Nat) (W : World) : KeepT Bs W W := ⟨Nat.le_refl _, fun _ _ h _ => h, rfl, rfl⟩
theorem KeepT.trans {Bs : Nat} {W W' W2 : World} (h : KeepT Bs W W') (k : KeepT Bs W' W2) : KeepT Bs W W2 := ⟨Nat.le_trans h.size k.size, fun i o h1 h2 => k.other i o (h.other i o h1 h2) h2, k.s1.trans h.s1, k.s2.trans h.s2⟩
theorem KeepT.below {Bs : Nat} {W W' : World} (h : Below W.heap.size W W') (hs : Bs + 1 < W.heap.size) : KeepT Bs W W' := ⟨h.size, fun k o hk _ => (h.block k (heap_lt hk)).trans hk, h.block _ (by omega), h.block _ hs⟩
theorem KeepT.chip {Bs : Nat} {W W' : World} (h : Fr B (· = p) W W') (hs : Bs + 1 < W.heap.size) (hp : p < Bs) (hc : ChipR B W p c) : KeepT Bs W W' := by
  obtain ⟨V, u, hv, _⟩ := hc
  refine ⟨h.size, fun k o hk ho => (h.block k (heap_lt hk) (.inr (.inl fun e => ?_))).trans hk, h.block _ (by omega) (.inr (.inl (by omega))), h.block _ hs (.inr (.inl (by omega)))⟩
  rw [e, show W.heap[p]? = _ from hv.blk] at hk
  cases hk
  cases ho
theorem KeepT.rowg {Bs : Nat} {W W' : World} {v : Value} {e : TypeId} {sz m : Nat} {xs : List Value} (hg : W.grownBy W' v.ownBlock) (ho : W.ownsRow bb e sz v m xs) (hbb : Bs + 1 < bb) (hs : Bs + 1 < W.heap.size) : KeepT Bs W W' := by
  have hty := own_tyB ho
  refine ⟨hg.size, fun k o hk hc => (hg.block k (heap_lt hk) fun e => ?_).trans hk, hg.block _ (by omega) (fun e => by have := (hty _ e.symm).1; omega), hg.block _ hs (fun e => by have := (hty _ e.symm).1; omega)⟩
  obtain ⟨_, cs, fz, h2⟩ := hty k e.symm
  rw [h2] at hk
  cases hk
  cases hc
theorem KeepT.set {Bs x T : Nat} {cs : Array Value} {W : World} (hb : Blk W x T cs) (hx : x < Bs) (u : Value) : KeepT Bs W (W.setCell ⟨x, 0, none⟩ u) :=
  ⟨by simp [World.setCell], fun k o hk ho => (Below.heap_setCell _ _ _ _ (fun e => by
    have e : k = x := e
    rw [e, show W.heap[x]? = _ from hb] at hk; cases hk; cases ho)).trans hk, Below.heap_setCell _ _ _ _ (fun e => by have e : Bs = x := e; omega), Below.heap_setCell _ _ _ _ (fun e => by have e : Bs + 1 = x := e; omega)⟩
end
theorem tab_seven {c : Chip} {l : List Ent} (hc : CWf c) (hd : c.down = false) {b : Nat} (hb : b < 24) (hbad : (c.b b).bad = false) (ht : tabF l = 0) (h : (tabWrite c b l).2 = 7) : (tabWrite c (b : Nat) l).1 = c.spoil b ∧ (c.b b).weak = true := by
  cases hw : (c.b b).weak
  · obtain ⟨c', n, e, _, _, g⟩ := tabWrite_calm hb hd hbad hw ht
    rw [e] at h
    rcases g with ⟨g, _⟩ | ⟨g, _⟩ <;> · simp only at h; omega
  · have := (lays_table ht).weak c b hc hd hb hbad hw
    exact ⟨by show (tabWrite c b l).1 = _; rw [show tabWrite c b l = _ from this], rfl⟩
theorem tab_zero {c : Chip} {l : List Ent} (hc : CWf c) (hd : c.down = false) {b : Nat} (hb : b < 24) (hbad : (c.b b).bad = false) (ht : tabF l = 0) (h : (tabWrite c b l).2 = 0) : (tabWrite c (b : Nat) l).1.down = false ∧ (tabWrite c (b : Nat) l).1.pend = none := by
  have hpn : c.pend = none := by have := hc.down; rw [hd] at this; simpa using this
  cases hw : (c.b b).weak
  · obtain ⟨c', n, e, _, _, g⟩ := tabWrite_calm hb hd hbad hw ht
    rw [e] at h ⊢
    rcases g with ⟨_, g1, g2, _⟩ | ⟨g, _⟩
    · exact ⟨g1, g2.trans hpn⟩
    · simp only at h; omega
  · have := (lays_table ht).weak c b hc hd hb hbad hw
    rw [show tabWrite c b l = _ from this] at h
    cases h
theorem own_form {w : World} {base : Nat} {e : TypeId} {v : Value} {n : Nat} {xs : List Value} (h : w.ownsRow base e 1 v n xs) : ∃ A c, v = .slice A n c := by
  rcases h.2 with ⟨rfl, h2⟩ | ⟨g, cap, cur, rfl, _⟩
  · have h1 := h.1
    rw [h2] at h1
    have : n = 0 := by simp at h1; omega
    subst this
    exact ⟨none, 0, rfl⟩
  · exact ⟨_, _, rfl⟩
theorem ints_one1 {x : Int} : ∀ u ∈ [Value.int .i64 x], u.oneCell' = true := by
  intro u hu
  simp at hu
  subst hu
  rfl
theorem cell_one (w : World) (x : Int) : ∀ (j : Nat) (u : Value), [Value.int .i64 x][j]? = some u → (w.alloc (.cells #[.int .i64 x] 3)).cell? ((Addr.mk w.heap.size 0 none).add j) = some u := by
  intro j u hu
  cases j with
  | zero =>
    simp at hu
    subst hu
    rw [addr_add]
    exact (Blk.new w 3 #[.int .i64 x]).cell 0
  | succ j => simp at hu
theorem Blk.grownO {w w' : World} {g T : Nat} {cs : Array Value} {base : Nat} {e : TypeId} {size n : Nat} {v : Value} {xs : List Value} (h : Blk w g T cs) (hg : w.grownBy w' v.ownBlock) (ho : w.ownsRow base e size v n xs) (hb : g < base) : Blk w' g T cs :=
  (hg.block g h.lt (fun e => by have := (own_tyB ho g e.symm).1; omega)).trans h
/-- One block more, noted. -/
theorem TbS.fini {B q p bb Bs : Nat} {vu : Value} {w W w5 w6 : World} {c : Chip} {out : List Int} {x : Int} {A A' : Option Addr} {cp cp' : Nat} (h : TbS B q p vu w bb c out w5) (hpd : c.pend = none) (h1 : Blk w5 (w.heap.size + 1 + 1 + 1 + 1) 57 #[.slice A out.length cp]) (h2 : w5.ownsRow bb 3 1 (.slice A out.length cp) out.length (out.map (.int .i64)))
    (hk : KeepT Bs W w5) (hown : w6.ownsRow bb 3 1 (.slice A' (out.length + 1) cp') (out.length + 1) (out.map (.int .i64) ++ [.int .i64 x])) (hg : (w5.alloc (.cells #[.int .i64 x] 3)).grownBy w6 (Value.slice A out.length cp).ownBlock) (hbb : Bs + 1 < bb ∧ bb ≤ w5.heap.size) (hBs : w.heap.size + 1 + 1 + 1 + 1 < Bs) :
    TbS B q p vu w bb c (out ++ [x]) (w6.setCell ⟨w.heap.size + 1 + 1 + 1 + 1, 0, none⟩ (.slice A' (out.length + 1) cp')) ∧ KeepT Bs W (w6.setCell ⟨w.heap.size + 1 + 1 + 1 + 1, 0, none⟩ (.slice A' (out.length + 1) cp')) := by
  have hb : Below w5.heap.size w5 (w5.alloc (.cells #[.int .i64 x] 3)) := (Below.refl _ _).alloc (Nat.le_refl _) _
  have h1' := h1.below hb h1.lt
  have h2' := own_below h2 hb
  refine ⟨(h.below hb).more hpd (by simp; omega) h1' h2' hown hg, ?_⟩
  have hs : Bs + 1 < w5.heap.size := by omega
  exact ((hk.trans (KeepT.below hb hs)).trans (KeepT.rowg hg h2' hbb.1 (by simp; omega))).trans (KeepT.set (h1'.grownO hg h2' (by omega)) hBs _)
theorem KeepT.others {Bs : Nat} {W W' : World} (h : KeepT Bs W W') : KeepsOthers W W' := ⟨h.size, h.other⟩
theorem TbS.res {B q p bb Bs : Nat} {vu : Value} {w W : World} {c : Chip} {out : List Int} (h : TbS B q p vu w bb c out W) (hB : w.heap.size + 1 + 1 + 1 + 1 < Bs) (u y : Value) : KeepT Bs W ((W.setCell ⟨w.heap.size + 1 + 1, 0, none⟩ u).setCell ⟨w.heap.size + 1 + 1 + 1, 0, none⟩ y) :=
  (KeepT.set h.b6 (by omega) u).trans (KeepT.set (h.b7.far (p := ⟨w.heap.size + 1 + 1, 0, none⟩) (by show w.heap.size + 1 + 1 + 1 ≠ w.heap.size + 1 + 1; omega) u) (by omega) y)
/-- Behind an error: what lies where. -/
structure TbR (B p : Nat) (w : World) (n : Nat) (c : Chip) (W : World) : Prop where
  b6 : Blk W (w.heap.size + 1 + 1) 57 #[.slice none 0 0]
  b7 : Blk W (w.heap.size + 1 + 1 + 1) 28 #[errV n]
  rep : ChipR B W p c
  fr : Fr B (· = p) w W
  hp : p < w.heap.size
  hB : B ≤ w.heap.size
theorem TbR.grown {B p n B0 : Nat} {w W W' : World} {c : Chip} {row : Option Nat} (h : TbR B p w n c W) (hg : W.grownBy W' row) (hr : ∀ r, row = some r → B0 ≤ r ∧ ∃ o : Obj, W.heap[r]? = some o ∧ o.isCells = false) (hB0 : w.heap.size ≤ B0) : TbR B p w n c W' := by
  have hf := fr_grown (B := B) hg (fun r e => ⟨Nat.le_trans (Nat.le_trans h.hB hB0) (hr r e).1, (hr r e).2⟩)
  exact ⟨blk_grown h.b6 hg hr, blk_grown h.b7 hg hr, h.rep.keep hf (fun e => by have := (hr p e).1; have := h.hp; omega), h.fr.trans' hf (fun k hk e => by have := (hr k e).1; omega), h.hp, h.hB⟩
theorem TbS.stop {B q p bb : Nat} {vu : Value} {w W : World} {c : Chip} {out : List Int} (h : TbS B q p vu w bb c out W) (n : Nat) : TbR B p w n c ((W.setCell ⟨w.heap.size + 1 + 1, 0, none⟩ (.slice none 0 0)).setCell ⟨w.heap.size + 1 + 1 + 1, 0, none⟩ (errV n)) := by
  have hB := h.hB
  have hp := h.hp
  have h6 := h.b6.set_ 0 (.slice none 0 0)
  have h7 : Blk (W.setCell ⟨w.heap.size + 1 + 1, 0, none⟩ (.slice none 0 0)) (w.heap.size + 1 + 1 + 1) 28 #[.nilIface] := h.b7.far (by show w.heap.size + 1 + 1 + 1 ≠ w.heap.size + 1 + 1; omega) _
  have r6 := chipR_farI h.rep h.b6 (by omega) (.slice none 0 0)
  have f6 := h.fr.setCell (p := ⟨w.heap.size + 1 + 1, 0, none⟩) (by show B ≤ w.heap.size + 1 + 1; omega) (.inr (by show w.heap.size ≤ w.heap.size + 1 + 1; omega)) (fun e => absurd e (by show ¬ w.heap.size + 1 + 1 < w.heap.size; omega)) (.slice none 0 0)
  exact ⟨h6.far (by show w.heap.size + 1 + 1 ≠ w.heap.size + 1 + 1 + 1; omega) _, h7.set_ 0 _, chipR_far r6 h7 (by omega) _, f6.setCell (by show B ≤ w.heap.size + 1 + 1 + 1; omega) (.inr (by show w.heap.size ≤ w.heap.size + 1 + 1 + 1; omega)) (fun e => absurd e (by show ¬ w.heap.size + 1 + 1 + 1 < w.heap.size; omega)) _, h.hp, h.hB⟩
theorem TbS.last {B q p bb : Nat} {vu : Value} {w W : World} {c : Chip} {out : List Int} (h : TbS B q p vu w bb c out W) {D : Nat} (hD : w.heap.size ≤ D) (hK : W.heap[D]? = some (.deferred (some []))) (ho : Obj.isCells (.deferred (some [])) = false) {A : Option Addr} {cp : Nat} (hown : W.ownsRow bb 3 1 (.slice A out.length cp) out.length (out.map (.int .i64))) (o' : Obj) :
    ChipR B (((W.setCell ⟨w.heap.size + 1 + 1, 0, none⟩ (.slice A out.length cp)).setCell ⟨w.heap.size + 1 + 1 + 1, 0, none⟩ .nilIface).putObj D o') p c ∧ Fr B (· = p) w (((W.setCell ⟨w.heap.size + 1 + 1, 0, none⟩ (.slice A out.length cp)).setCell ⟨w.heap.size + 1 + 1 + 1, 0, none⟩ .nilIface).putObj D o') ∧ Ints B (((W.setCell ⟨w.heap.size + 1 + 1, 0, none⟩ (.slice A out.length cp)).setCell ⟨w.heap.size + 1 + 1 + 1, 0, none⟩ .nilIface).putObj D o') (.slice A out.length cp) out ∧ (((W.setCell ⟨w.heap.size + 1 + 1, 0, none⟩ (.slice A out.length cp)).setCell ⟨w.heap.size + 1 + 1 + 1, 0, none⟩ .nilIface).putObj D o').cell? ⟨w.heap.size + 1 + 1, 0, none⟩ = some (.slice A out.length cp) ∧ (((W.setCell ⟨w.heap.size + 1 + 1, 0, none⟩ (.slice A out.length cp)).setCell ⟨w.heap.size + 1 + 1 + 1, 0, none⟩ .nilIface).putObj D o').cell? ⟨w.heap.size + 1 + 1 + 1, 0, none⟩ = some .nilIface ∧ ((W.setCell ⟨w.heap.size + 1 + 1, 0, none⟩ (.slice A out.length cp)).setCell ⟨w.heap.size + 1 + 1 + 1, 0, none⟩ .nilIface).heap[D]? = some (.deferred (some [])) := by
  have hB := h.hB
  have hp := h.hp
  have hbig := h.big
  have h6 := h.b6.set_ 0 (.slice A out.length cp)
  have h7 : Blk (W.setCell ⟨w.heap.size + 1 + 1, 0, none⟩ (.slice A out.length cp)) (w.heap.size + 1 + 1 + 1) 28 #[.nilIface] := h.b7.far (by show w.heap.size + 1 + 1 + 1 ≠ w.heap.size + 1 + 1; omega) _
  have r6 := chipR_farI h.rep h.b6 (by omega) (.slice A out.length cp)
  have f6 := h.fr.setCell (p := ⟨w.heap.size + 1 + 1, 0, none⟩) (by show B ≤ w.heap.size + 1 + 1; omega) (.inr (by show w.heap.size ≤ w.heap.size + 1 + 1; omega)) (fun e => absurd e (by show ¬ w.heap.size + 1 + 1 < w.heap.size; omega)) (.slice A out.length cp)
  have k6 : Blk ((W.setCell ⟨w.heap.size + 1 + 1, 0, none⟩ (.slice A out.length cp)).setCell ⟨w.heap.size + 1 + 1 + 1, 0, none⟩ .nilIface) (w.heap.size + 1 + 1) 57 #[.slice A out.length cp] := h6.far (by show w.heap.size + 1 + 1 ≠ w.heap.size + 1 + 1 + 1; omega) _
  have k7 : Blk ((W.setCell ⟨w.heap.size + 1 + 1, 0, none⟩ (.slice A out.length cp)).setCell ⟨w.heap.size + 1 + 1 + 1, 0, none⟩ .nilIface) (w.heap.size + 1 + 1 + 1) 28 #[.nilIface] := h7.set_ 0 _
  have r7 := chipR_far r6 h7 (by omega) .nilIface
  have f7 : Fr B (· = p) w ((W.setCell ⟨w.heap.size + 1 + 1, 0, none⟩ (.slice A out.length cp)).setCell ⟨w.heap.size + 1 + 1 + 1, 0, none⟩ .nilIface) := f6.setCell (by show B ≤ w.heap.size + 1 + 1 + 1; omega) (.inr (by show w.heap.size ≤ w.heap.size + 1 + 1 + 1; omega)) (fun e => absurd e (by show ¬ w.heap.size + 1 + 1 + 1 < w.heap.size; omega)) _
  have hne : ∀ {k T} {cs : Array Value}, Blk W k T cs → D ≠ k := fun hb e => by
    subst e
    rw [show W.heap[D]? = _ from hb] at hK
    cases hK
  have hK2 : ((W.setCell ⟨w.heap.size + 1 + 1, 0, none⟩ (.slice A out.length cp)).setCell ⟨w.heap.size + 1 + 1 + 1, 0, none⟩ .nilIface).heap[D]? = some (.deferred (some [])) := (Below.heap_setCell _ _ _ _ (hne h.b7)).trans ((Below.heap_setCell _ _ _ _ (hne h.b6)).trans hK)
  have how : ((W.setCell ⟨w.heap.size + 1 + 1, 0, none⟩ (.slice A out.length cp)).setCell ⟨w.heap.size + 1 + 1 + 1, 0, none⟩ .nilIface).ownsRow bb 3 1 (.slice A out.length cp) out.length (out.map (.int .i64)) := own_keep hown fun g hg => by
    have := (own_tyB hown g hg).1
    exact (Below.heap_setCell _ _ _ _ (fun e => by have e : g = w.heap.size + 1 + 1 + 1 := e; omega)).trans (Below.heap_setCell _ _ _ _ (fun e => by have e : g = w.heap.size + 1 + 1 := e; omega))
  have hg := grownBy_putObj' ((W.setCell ⟨w.heap.size + 1 + 1, 0, none⟩ (.slice A out.length cp)).setCell ⟨w.heap.size + 1 + 1 + 1, 0, none⟩ .nilIface) D o'
  have hr : ∀ r, some D = some r → w.heap.size ≤ r ∧ ∃ o : Obj, ((W.setCell ⟨w.heap.size + 1 + 1, 0, none⟩ (.slice A out.length cp)).setCell ⟨w.heap.size + 1 + 1 + 1, 0, none⟩ .nilIface).heap[r]? = some o ∧ o.isCells = false := fun r e => by cases e; exact ⟨hD, _, hK2, ho⟩
  have hf := fr_grown (B := B) hg (fun r e => ⟨Nat.le_trans hB (hr r e).1, (hr r e).2⟩)
  have hpD : ¬ some D = some p := fun e => by
    cases e
    omega
  have how2 : (((W.setCell ⟨w.heap.size + 1 + 1, 0, none⟩ (.slice A out.length cp)).setCell ⟨w.heap.size + 1 + 1 + 1, 0, none⟩ .nilIface).putObj D o').ownsRow bb 3 1 (.slice A out.length cp) out.length (out.map (.int .i64)) := own_keep how fun g hgg => by
    obtain ⟨_, cs, fz, hh⟩ := own_tyB how g hgg
    refine hg.block g (heap_lt hh) fun e => ?_
    cases e
    rw [hh] at hK2
    cases hK2
  refine ⟨r7.keep hf hpD, f7.trans' hf (fun k hk hm => by cases hm; omega), Rd.of_own how2, ?_, ?_, hK2⟩
  · rw [(blk_grown k6 hg hr).cell]; rfl
  · rw [(blk_grown k7 hg hr).cell]; rfl
set_option maxRecDepth 100000 in
set_option maxHeartbeats 8000000 in
theorem tables_any (B : Nat) (q p : Nat) (c : Chip) (s : SM) (F : List Nat) (v vu : Value) (l : List Ent) (used : List Int) (w : World) (h : StoreR B w q p s F) (hc : ChipR B w p c) (hl : Ents B w v l) (hu : Ints B w vu used) (hd : c.down = false) (hok : ∀ x ∈ parts 14 l, tabF x = 0) (hlen : l.length ≤ 1000) (hul : used.length ≤ 1000) :
    Calls Tryz.prog 42 #[.pointer (some ⟨q, 0, none⟩), v, vu] w fun e w' => ∃ vo, e = .returned (.tuple #[vo, errV (tablesM used (parts 14 l) c []).2.2]) ∧ Ints B w' vo (tablesM used (parts 14 l) c []).2.1 ∧ ChipR B w' p (tablesM used (parts 14 l) c []).1 ∧ Fr B (· = p) w w' := by
  have hB0 : B ≤ w.heap.size := Nat.le_of_lt (Nat.lt_of_le_of_lt h.base h.lt)
  have hpw := hc.lt
  have hqw := h.lt
  have hqp := h.apart hc q (by simp)
  obtain ⟨A, cp, rfl, hc1, hc2, _⟩ := hl.form
  obtain ⟨Au, cu, rfl, _, _, _⟩ := hu.form
  have hA : ∃ g o, 0 < l.length → A = some ⟨g, o, none⟩ := by
    rcases Nat.eq_zero_or_pos l.length with h0 | h0
    · exact ⟨0, 0, fun h => by omega⟩
    · obtain ⟨g, o, rfl, _⟩ := rd_at' hl.1 h0
      exact ⟨g, o, fun _ => rfl⟩
  obtain ⟨g, o, hA⟩ := hA
  have HL := Lib.hid hl
  have HU := Lib.hid hu
  have HOK := Lib.hid hok
  have HD := Lib.hid hd
  have HX0 : Hid (∀ W, Fr B (· = p) w W → W.cell? ⟨q, 0, none⟩ = some (.pointer (some ⟨p, 0, none⟩))) := by
    intro W hf
    obtain ⟨A1, c1, A2, c2, t, n, hk, _⟩ := h
    have := (hk.fr hf (.inr (.inl hqp))).cell 0
    simpa using this
  have hb5 : Below w.heap.size w (((((w.alloc (.cells #[.pointer (some ⟨q, 0, none⟩)] 26)).alloc (.cells #[.slice Au used.length cu] 57)).alloc (.cells #[.slice none 0 0] 57)).alloc (.cells #[.nilIface] 28)).alloc (.cells #[.slice none 0 0] 57)) := ((((((Below.refl _ _).alloc (Nat.le_refl _) _).alloc (by simp) _).alloc (by simp; omega) _).alloc (by simp; omega) _).alloc (by simp; omega) _)
  have HT0 : Hid (∀ bb, w.heap.size + 1 + 1 + 1 + 1 < bb → TbS B q p (.slice Au used.length cu) w bb c [] (((((w.alloc (.cells #[.pointer (some ⟨q, 0, none⟩)] 26)).alloc (.cells #[.slice Au used.length cu] 57)).alloc (.cells #[.slice none 0 0] 57)).alloc (.cells #[.nilIface] 28)).alloc (.cells #[.slice none 0 0] 57))) := by
    intro bb hbb
    have k3 : Blk (((((w.alloc (.cells #[.pointer (some ⟨q, 0, none⟩)] 26)).alloc (.cells #[.slice Au used.length cu] 57)).alloc (.cells #[.slice none 0 0] 57)).alloc (.cells #[.nilIface] 28)).alloc (.cells #[.slice none 0 0] 57)) w.heap.size 26 #[.pointer (some ⟨q, 0, none⟩)] := ((((Blk.new w _ _).alloc _).alloc _).alloc _).alloc _
    have k5 : Blk (((((w.alloc (.cells #[.pointer (some ⟨q, 0, none⟩)] 26)).alloc (.cells #[.slice Au used.length cu] 57)).alloc (.cells #[.slice none 0 0] 57)).alloc (.cells #[.nilIface] 28)).alloc (.cells #[.slice none 0 0] 57)) (w.heap.size + 1) 57 #[(.slice Au used.length cu)] := by
      have := (((Blk.new (w.alloc (.cells #[.pointer (some ⟨q, 0, none⟩)] 26)) 57 #[(.slice Au used.length cu)]).alloc (.cells #[.slice none 0 0] 57)).alloc (.cells #[.nilIface] 28)).alloc (.cells #[.slice none 0 0] 57)
      simpa using this
    have k6 : Blk (((((w.alloc (.cells #[.pointer (some ⟨q, 0, none⟩)] 26)).alloc (.cells #[.slice Au used.length cu] 57)).alloc (.cells #[.slice none 0 0] 57)).alloc (.cells #[.nilIface] 28)).alloc (.cells #[.slice none 0 0] 57)) (w.heap.size + 1 + 1) 57 #[.slice none 0 0] := by
      have := ((Blk.new ((w.alloc (.cells #[.pointer (some ⟨q, 0, none⟩)] 26)).alloc (.cells #[.slice Au used.length cu] 57)) 57 #[.slice none 0 0]).alloc (.cells #[.nilIface] 28)).alloc (.cells #[.slice none 0 0] 57)
      simpa using this
    have k7 : Blk (((((w.alloc (.cells #[.pointer (some ⟨q, 0, none⟩)] 26)).alloc (.cells #[.slice Au used.length cu] 57)).alloc (.cells #[.slice none 0 0] 57)).alloc (.cells #[.nilIface] 28)).alloc (.cells #[.slice none 0 0] 57)) (w.heap.size + 1 + 1 + 1) 28 #[.nilIface] := by
      have := (Blk.new (((w.alloc (.cells #[.pointer (some ⟨q, 0, none⟩)] 26)).alloc (.cells #[.slice Au used.length cu] 57)).alloc (.cells #[.slice none 0 0] 57)) 28 #[.nilIface]).alloc (.cells #[.slice none 0 0] 57)
      simpa using this
    have k8 : Blk (((((w.alloc (.cells #[.pointer (some ⟨q, 0, none⟩)] 26)).alloc (.cells #[.slice Au used.length cu] 57)).alloc (.cells #[.slice none 0 0] 57)).alloc (.cells #[.nilIface] 28)).alloc (.cells #[.slice none 0 0] 57)) (w.heap.size + 1 + 1 + 1 + 1) 57 #[.slice none 0 0] := by
      have := Blk.new ((((w.alloc (.cells #[.pointer (some ⟨q, 0, none⟩)] 26)).alloc (.cells #[.slice Au used.length cu] 57)).alloc (.cells #[.slice none 0 0] 57)).alloc (.cells #[.nilIface] 28)) 57 #[.slice none 0 0]
      simpa using this
    exact ⟨k3, k5, k6, k7, ⟨none, 0, k8, World.ownsRow_nil _ _ _ _⟩, hc.below hb5, .of_below hb5, hpw, hqw, hB0, hbb⟩
  have hsz5 : w.heap.size + 1 + 1 + 1 + 1 < (((((w.alloc (.cells #[.pointer (some ⟨q, 0, none⟩)] 26)).alloc (.cells #[.slice Au used.length cu] 57)).alloc (.cells #[.slice none 0 0] 57)).alloc (.cells #[.nilIface] 28)).alloc (.cells #[.slice none 0 0] 57)).heap.size := by simp
  clear h hc hl hu hd hok hb5
  refine (callsIn_wide (n := 6)).1 ?_
  refine callsIn_of_wp_marks Tryz.func42 rfl trivial ?_ rfl
  simp only [Tryz.ntmps42, List.size_toArray, List.length_cons, List.length_nil, Nat.reduceAdd, Nat.reduceSub, Array.replicate_succ, Array.replicate_zero, List.push_toArray, List.append_toArray, List.nil_append, List.cons_append]
  refine wpIn_wide.2 ?_
  go_wp2_with fail
  generalize hWL : (((((w.alloc (.cells #[.pointer (some ⟨q, 0, none⟩)] 26)).alloc (.cells #[.slice Au used.length cu] 57)).alloc (.cells #[.slice none 0 0] 57)).alloc (.cells #[.nilIface] 28)).alloc (.cells #[.slice none 0 0] 57)) = WL at *
  clear hWL
  refine (chunk_any A l.length cp 14 (by decide) WL).mono ?_
  rintro e10 w10 ⟨rfl, rfl⟩
  have hTL : TbS B q p (.slice Au used.length cu) w (WL.heap.size + 2) c [] ((WL.alloc (.cells #[(.slice A l.length cp)] 37)).alloc (.cells #[.int .i64 14] 3)) := by
    have h := HT0.out (WL.heap.size + 2) (by omega)
    exact (h.below ((Below.refl _ _).alloc (Nat.le_refl _) _)).below ((Below.refl _ _).alloc (Nat.le_refl _) _)
  have HTL := Lib.hid hTL
  have HBs : Blk ((WL.alloc (.cells #[(.slice A l.length cp)] 37)).alloc (.cells #[.int .i64 14] 3)) WL.heap.size 37 #[(.slice A l.length cp)] := (Blk.new WL _ _).alloc _
  have HBn : Blk ((WL.alloc (.cells #[(.slice A l.length cp)] 37)).alloc (.cells #[.int .i64 14] 3)) (WL.heap.size + 1) 3 #[.int .i64 (14 : Nat)] := by
    have := Blk.new (WL.alloc (.cells #[(.slice A l.length cp)] 37)) 3 #[.int .i64 14]
    simpa using this
  have hps : WL.heap.size + 2 ≤ ((WL.alloc (.cells #[(.slice A l.length cp)] 37)).alloc (.cells #[.int .i64 14] 3)).heap.size := by simp
  generalize hWW : ((WL.alloc (.cells #[(.slice A l.length cp)] 37)).alloc (.cells #[.int .i64 14] 3)) = WW at *
  generalize WL.heap.size = Bs at *
  clear hWW hTL HT0
  go_wp2_with fail
  refine (wpIn_wide (n := 6)).1 ?_
  refine wpIn_rangeFunc_ownF (n := 6) rfl (by decide) (gf := 87) (lb := #[.pointer (some ⟨Bs, 0, none⟩), .pointer (some ⟨Bs + 1, 0, none⟩)]) rfl trivial (enters_of Tryz.func87 (by kernel_rfl) rfl)
    (chunk_stops 5 (by decide) Bs (Bs + 1) g o l.length cp 14 A hA (by decide) (by decide) (by omega) hc1 hc2 WW HBs HBn) kpc_t (fun W k o o' hk _ _ _ => kpc_b (Bs := Bs) (Bn := Bs + 1) W k o' (by omega) (by omega)) (Below.refl _ _) (fun _ => rfl)
    (fun pre W => ∃ (c' : Chip) (out : List Int), (∀ ps, tablesM used (ckQs l pre ++ ps) c [] = tablesM used ps c' out) ∧ c'.down = false ∧ out.length ≤ 14 * pre.length ∧ TbS B q p (.slice Au used.length cu) w (Bs + 2) c' out W ∧ Bs + 2 ≤ W.heap.size)
    (fun cde pre W => cde = .ret ∧ ∃ (c' : Chip) (n : Nat), n ≠ 0 ∧ (∀ ps, tablesM used (ckQs l pre ++ ps) c [] = (c', [], n)) ∧ TbR B p w n c' W)
    (fun s A' B' row hs hg hr => by obtain ⟨c', out, h1, h2, h3, h4, h5⟩ := hs; exact ⟨c', out, h1, h2, h3, h4.grown hg hr (by omega), Nat.le_trans h5 hg.size⟩)
    (fun cde s A' B' row hs hg hr => by obtain ⟨h0, c', n, h1, h2, h3⟩ := hs; exact ⟨h0, c', n, h1, h2, h3.grown hg hr (by omega)⟩)
    ⟨c, [], fun ps => rfl, HD.out, by simp, HTL.out, by omega⟩ ?a1 ?assign ?body ?done ?stop
  case assign =>
    intro l0 x W K hK
    simp only [ckVal]
    gi_wp2
    exact hK
  case body =>
    rintro l0 pre ⟨k, hkx⟩ W ⟨c0, out, hst, hdn, hol, hT, hWs⟩ hpre
    obtain rfl := hA (by omega)
    obtain ⟨m, hm⟩ : ∃ m, min 14 (l.length - 14 * k) = m := ⟨_, rfl⟩
    have hen : ∀ W', Fr B (· = p) w W' → Ents B W' (.slice (some ⟨g, o + 14 * k * 3, none⟩) m m) (ckList 14 l k) := fun W' hf => by
      have := ents_chunk (nn := 14) (k := k) (HL.out.fr hf)
      rw [hm] at this
      exact this
    have HEN := Lib.hid hen
    have htf : tabF (ckList 14 l k) = 0 := by
      refine HOK.out _ (List.mem_map.2 ⟨k, ?_, rfl⟩)
      rw [List.mem_range]
      omega
    have HTF := Lib.hid htf
    have hst' : ∀ ps, tablesM used (ckQs l (pre ++ [⟨k, hkx⟩]) ++ ps) c [] = tablesM used (ckList 14 l k :: ps) c0 out := fun ps => by rw [ckQs_snoc, hst]
    have HST := Lib.hid hst'
    have hg0 : goods c0 < 25 := by have := goods_le c0; omega
    have HT1 := Lib.hid hT
    have HD0 := Lib.hid hdn
    have hol2 : out.length ≤ 14 * l.length := by have : 14 * pre.length ≤ 14 * l.length := Nat.mul_le_mul_left _ (by omega); omega
    simp only [hm]
    clear hm hen htf hst hst' hT hdn
    gi_wp2_with fail
    gi_loopg [10] 25 (fun gk b W' => ∃ c' : Chip, Hid (TbS B q p (.slice Au used.length cu) w (Bs + 2) c' out W') ∧ Hid (KeepT Bs W W') ∧ Hid (seek (fun c b => tabWrite c b (ckList 14 l k)) (used ++ out) gk c' = seek (fun c b => tabWrite c b (ckList 14 l k)) (used ++ out) 25 c0) ∧ goods c' < gk ∧ Hid (c'.down = false))
    case atStart => exact ⟨c0, HT1.out, KeepT.refl _ _, rfl, hg0, HD0.out⟩
    case round =>
      obtain ⟨c', hT2, hK2, hs2, hg2, hd2⟩ := hrel
      clear hg0 HD0
      obtain ⟨gn, rfl⟩ : ∃ gn, gk = gn + 1 := ⟨gk - 1, by omega⟩
      obtain ⟨Ao, co, hbo, hown⟩ := hT2.out.bo
      have y0 := hT2.out.b3.cell 0
      have y1 := hT2.out.b5.cell 0
      have y2 := hbo.cell 0
      simp at y0 y1 y2
      have y3 := HX0.out wr hT2.out.fr
      have hsw := hT2.out.fr.size
      have hkw := hK2.out.size
      have HSK : Hid (∀ W', Below wr.heap.size wr W' → W'.cell? ⟨w.heap.size, 0, none⟩ = some (.pointer (some ⟨q, 0, none⟩)) ∧ W'.cell? ⟨q, 0, none⟩ = some (.pointer (some ⟨p, 0, none⟩)) ∧ W'.cell? ⟨w.heap.size + 1, 0, none⟩ = some (.slice Au used.length cu) ∧ W'.cell? ⟨w.heap.size + 1 + 1 + 1 + 1, 0, none⟩ = some (.slice Ao out.length co)) := by
        intro W' hb
        have h := hT2.out.below hb
        have a0 := h.b3.cell 0
        have a1 := h.b5.cell 0
        have a2 := (hbo.below hb hbo.lt).cell 0
        simp at a0 a1 a2
        exact ⟨a0, HX0.out W' h.fr, a1, a2⟩
      have hbI : Below wr.heap.size wr (wr.alloc (.cells #[.slice Au used.length cu, .slice Ao out.length co] 57)).drew := ((Below.refl _ _).alloc (Nat.le_refl _) _).drew
      have hCC : Calls Tryz.prog 25 #[.slice (some ⟨wr.heap.size, 0, none⟩) 2 2] (wr.alloc (.cells #[.slice Au used.length cu, .slice Ao out.length co] 57)).drew fun e w3 => ∃ v3, e = .returned v3 ∧ Ints B w3 v3 (used ++ out) ∧ Below wr.heap.size wr w3 := by
        refine (concat_rd B _ _ _ used out _ (Blk.drewN (Blk.new wr 57 #[.slice Au used.length cu, .slice Ao out.length co]) 1) ((HU.out.fr hT2.out.fr).below hbI) (Ints.below (Rd.of_own hown) hbI) (by omega) (by omega)).mono ?_
        rintro e w3 ⟨v3, h1, h2, h3⟩
        exact ⟨v3, h1, h2, hbI.trans (h3.mono (by simp))⟩
      have HCC := Lib.hid hCC
      have HBI := Lib.hid hbI
      clear hCC hbI
      gi_wp2_with fail
      refine region_in (S := fun w' => w'.cell? ⟨w.heap.size, 0, none⟩ = some (.pointer (some ⟨q, 0, none⟩)) ∧ w'.cell? ⟨q, 0, none⟩ = some (.pointer (some ⟨p, 0, none⟩)) ∧ w'.cell? ⟨w.heap.size + 1, 0, none⟩ = some (.slice Au used.length cu) ∧ w'.cell? ⟨w.heap.size + 1 + 1 + 1 + 1, 0, none⟩ = some (.slice Ao out.length co)) (by kernel_rfl) (by kernel_rfl) ?_ ⟨y0, y3, y1, y2⟩ (fun hHeld => ?_)
      · rintro ⟨a, w, h⟩
        exact h
      refine wpAnyH_take (i := 0) (oi := ⟨some 15, _, _, _, _, _⟩) (v := .pointer (some ⟨q, 0, none⟩)) rfl (by kernel_rfl) (by kernel_rfl) (by kernel_rfl) (fun _ _ _ h => h) (Or.inl ⟨by rfl, ?_⟩) (by assumption) ?_
      · intro wS hSw
        go_simp
      simp only [Act.put, List.setIfInBounds_toArray, List.set_cons_zero, List.set_cons_succ]
      refine wpAnyH_take (i := 1) (oi := ⟨some 16, _, _, _, _, _⟩) (v := .pointer (some ⟨q, 0, none⟩)) rfl (by kernel_rfl) (by kernel_rfl) (by kernel_rfl) (fun _ _ _ h => h) (Or.inl ⟨by rfl, ?_⟩) (by assumption) ?_
      · intro wS hSw
        go_simp
      simp only [Act.put, List.setIfInBounds_toArray, List.set_cons_zero, List.set_cons_succ]
      refine wpAnyH_take (i := 2) (oi := ⟨some 17, _, _, _, _, _⟩) (v := .pointer (some ⟨q, 0, none⟩)) rfl (by kernel_rfl) (by kernel_rfl) (by kernel_rfl) (fun _ _ _ h => h) (Or.inl ⟨by rfl, ?_⟩) (by assumption) ?_
      · intro wS hSw
        go_simp
      simp only [Act.put, List.setIfInBounds_toArray, List.set_cons_zero, List.set_cons_succ]
      refine wpAnyH_take (i := 3) (oi := ⟨some 18, _, _, _, _, _⟩) (v := .pointer (some ⟨p, 0, none⟩)) rfl (by kernel_rfl) (by kernel_rfl) (by kernel_rfl) (fun _ _ _ h => h) (Or.inl ⟨by rfl, ?_⟩) (by assumption) ?_
      · intro wS hSw
        go_simp
      simp only [Act.put, List.setIfInBounds_toArray, List.set_cons_zero, List.set_cons_succ]
      refine wpAnyH_take (i := 4) (oi := ⟨some 19, _, _, _, _, _⟩) (v := .slice Au used.length cu) rfl (by kernel_rfl) (by kernel_rfl) (by kernel_rfl) (fun _ _ _ h => h) (Or.inl ⟨by rfl, ?_⟩) (by assumption) ?_
      · intro wS hSw
        go_simp
      simp only [Act.put, List.setIfInBounds_toArray, List.set_cons_zero, List.set_cons_succ]
      refine wpAnyH_take (i := 5) (oi := ⟨some 20, _, _, _, _, _⟩) (v := .slice Ao out.length co) rfl (by kernel_rfl) (by kernel_rfl) (by kernel_rfl) (fun _ _ _ h => h) (Or.inl ⟨by rfl, ?_⟩) (by assumption) ?_
      · intro wS hSw
        go_simp
      simp only [Act.put, List.setIfInBounds_toArray, List.set_cons_zero, List.set_cons_succ]
      refine wpAnyH_ready (rs := [6]) (by kernel_rfl) (by simp) ?_
      refine AllReadyH.cons (o := ⟨some 21, _, _, _, _, _⟩) rfl (fun K hK => ?_) AllReadyH.nil
      go_simp
      refine hK.out _ _ ?_ (fun hHeld => ?_)
      · exact HSK.out _ HBI.out
      clear hK K
      try simp only [Act.put, List.setIfInBounds_toArray, List.set_cons_zero, List.set_cons_succ]
      refine wpAnyH_ready (rs := [7]) (by kernel_rfl) (by simp) ?_
      refine AllReadyH.cons (o := ⟨some 22, _, _, _, _, _⟩) rfl (fun K hK => ?_) AllReadyH.nil
      go_simp
      refine HCC.out.mono ?_
      rintro e w3 ⟨v3, rfl, hi3, hb3⟩
      obtain ⟨A3, c3, hv3, _, _, _⟩ := hi3.form
      rw [List.length_append] at hv3
      subst hv3
      refine hK.out _ _ ?_ (fun hHeld => ?_)
      · exact HSK.out _ hb3
      clear hK K
      have HT3 := Lib.hid (hT2.out.below hb3)
      have HK3 := Lib.hid (hK2.out.trans (KeepT.below hb3 (by omega)))
      have HFR := Lib.hid (free_any B p c' _ (used ++ out) w3 HT3.out.rep hi3)
      have hbo3 := hbo.below hb3 hbo.lt
      have hown3 := own_below hown hb3
      have hs3 := hb3.size
      have HBO3 := Lib.hid hbo3
      have HOW3 := Lib.hid hown3
      clear hi3 hb3 hbo hown hbo3 hown3 HCC HBI HSK y0 y1 y2 y3
      try simp only [Act.put, List.setIfInBounds_toArray, List.set_cons_zero, List.set_cons_succ]
      have hsk := hs2.out
      rw [seek] at hsk
      obtain ⟨z0, z3, z1, z2⟩ := hHeld
      have hHeld : w3.cell? ⟨w.heap.size, 0, none⟩ = some (.pointer (some ⟨q, 0, none⟩)) ∧ w3.cell? ⟨q, 0, none⟩ = some (.pointer (some ⟨p, 0, none⟩)) ∧ w3.cell? ⟨w.heap.size + 1, 0, none⟩ = some (.slice Au used.length cu) ∧ w3.cell? ⟨w.heap.size + 1 + 1 + 1 + 1, 0, none⟩ = some (.slice Ao out.length co) := ⟨z0, z3, z1, z2⟩
      rcases freeM_spec c' (used ++ out) with ⟨hb, _⟩ | ⟨b, hb, b1, b2, b3, _⟩
      · rw [hb] at HFR hsk
        rw [if_pos (by omega)] at hsk
        have HX : Hid (∀ ps, tablesM used (ckQs l (pre ++ [⟨k, hkx⟩]) ++ ps) c [] = (c', [], 8)) := by
          intro ps
          rw [HST.out, tablesM, ← hsk]
          rfl
        clear hb hsk hs2
        refine wpAnyH_ready (rs := [8]) (by kernel_rfl) (by simp) ?_
        refine AllReadyH.cons (o := ⟨some 23, _, _, _, _, _⟩) rfl (fun K hK => ?_) AllReadyH.nil
        go_simp
        refine HFR.out.mono ?_
        rintro e w4 ⟨rfl, rfl⟩
        refine hK.out _ _ hHeld (fun _ => ?_)
        clear hK K
        try simp only [Act.put, List.setIfInBounds_toArray, List.set_cons_zero, List.set_cons_succ]
        refine wpAnyH_ready (rs := [9]) (by kernel_rfl) (by simp) ?_
        refine AllReadyH.cons (o := ⟨some 10, _, _, _, _, _⟩) rfl (fun K hK => ?_) AllReadyH.nil
        go_simp
        refine hK.out _ _ hHeld (fun _ => ?_)
        clear hK K HFR
        try simp only [Act.put, List.setIfInBounds_toArray, List.set_cons_zero, List.set_cons_succ]
        refine wpAnyH_done (by kernel_rfl) ?_ _
        have t1 : decide ((-1 : Int) < 0) = true := by decide
        have f6 := HT3.out.b6.frozen 0
        have f7 := HT3.out.b7.frozen 0
        have r6 := HT3.out.b6.cell 0
        have r7 := HT3.out.b7.cell 0
        have l6 := HT3.out.b6.lt
        have l7 := HT3.out.b7.lt
        simp at r6 r7
        clear hHeld z0 z1 z2 z3
        gi_wp2_with fail
        exact ⟨(HK3.out.trans (HT3.out.res (by omega) _ _)).others, rfl, c', 8, by decide, HX.out, HT3.out.stop 8⟩
      · rw [hb] at HFR hsk
        rw [if_neg (by omega)] at hsk
        have htw := twrite_any B p c' (b : Int) _ (ckList 14 l k) w3 HT3.out.rep (HEN.out w3 HT3.out.fr) HTF.out
        have h7 := tab_seven HT3.out.rep.wf hd2.out b2 b3 HTF.out
        have h0 := tab_zero HT3.out.rep.wf hd2.out b2 b3 HTF.out
        have HXE : Hid (∀ (c2 : Chip) (n : Nat), n ≠ 0 → (c2, (0 : Int), n) = seek (fun c b => tabWrite c b (ckList 14 l k)) (used ++ out) 25 c0 → ∀ ps, tablesM used (ckQs l (pre ++ [⟨k, hkx⟩]) ++ ps) c [] = (c2, [], n)) := by
          intro c2 n hn e ps
          rw [HST.out, tablesM, ← e]
          simp only
          rw [if_neg hn]
        have HX0' : Hid (∀ (c2 : Chip), (c2, (b : Int), 0) = seek (fun c b => tabWrite c b (ckList 14 l k)) (used ++ out) 25 c0 → ∀ ps, tablesM used (ckQs l (pre ++ [⟨k, hkx⟩]) ++ ps) c [] = tablesM used ps c2 (out ++ [(b : Int)])) := by
          intro c2 e ps
          rw [HST.out, tablesM, ← e]
          simp only
          rw [if_pos trivial]
        obtain ⟨⟨c2, n⟩, he⟩ : ∃ r, tabWrite c' (b : Int) (ckList 14 l k) = r := ⟨_, rfl⟩
        rw [he] at hsk htw h7 h0
        simp only at hsk h7 h0
        have t1 : decide ((b : Int) < 0) = false := decide_eq_false (by omega)
        have hgs := fun hw => goods_spoil (c := c') b2 b3 hw
        clear hb he hs2
        have HTK : Hid (Calls Tryz.prog 70 #[.pointer (some ⟨p, 0, none⟩), .int .i64 b, .slice (some ⟨g, o + 14 * k * 3, none⟩) m m] w3 fun e w5 => e = .returned (errV n) ∧ TbS B q p (.slice Au used.length cu) w (Bs + 2) c2 out w5 ∧ KeepT Bs W w5 ∧ Fr B (· = p) w3 w5) := by
          refine htw.mono ?_
          rintro e w5 ⟨h1, h2, h3⟩
          exact ⟨h1, HT3.out.chip h2 h3, HK3.out.trans (KeepT.chip h3 (by omega) (by omega) HT3.out.rep), h3⟩
        clear htw
        by_cases hn7 : n = 7
        · subst hn7
          rw [if_pos rfl] at hsk
          obtain ⟨h71, h72⟩ := h7 rfl
          subst h71
          have hg3 := hgs h72
          have HS := Lib.hid hsk
          have HDN : Hid ((c'.spoil b).down = false) := by rw [Hid, (spoil_rest c' b).1]; exact hd2.out
          rw [show errV 7 = .iface 68 (.int .i64 7) from rfl] at HTK
          clear hsk h7 h0 hgs h72
          refine wpAnyH_ready (rs := [8]) (by kernel_rfl) (by simp) ?_
          refine AllReadyH.cons (o := ⟨some 23, _, _, _, _, _⟩) rfl (fun K hK => ?_) AllReadyH.nil
          go_simp
          refine HFR.out.mono ?_
          rintro e w4 ⟨rfl, rfl⟩
          refine hK.out _ _ hHeld (fun _ => ?_)
          clear hK K
          try simp only [Act.put, List.setIfInBounds_toArray, List.set_cons_zero, List.set_cons_succ]
          refine wpAnyH_ready (rs := [9]) (by kernel_rfl) (by simp) ?_
          refine AllReadyH.cons (o := ⟨some 10, _, _, _, _, _⟩) rfl (fun K hK => ?_) AllReadyH.nil
          go_simp
          refine hK.out _ _ hHeld (fun _ => ?_)
          clear hK K HFR
          try simp only [Act.put, List.setIfInBounds_toArray, List.set_cons_zero, List.set_cons_succ]
          refine wpAnyH_done (by kernel_rfl) ?_ _
          clear hHeld z1 z2
          gi_wp2_with (refine ⟨trivial, ?_⟩; gi_at_call 70; refine (CallsIn.inRound l0 (callsIn_wide.2 HTK.out)).mono ?_; rintro e5 w5 ⟨rfl, ht5, hk5, hf5⟩; have HT5 := Lib.hid ht5; have HK5 := Lib.hid hk5; clear ht5 hk5 hf5)
          gi_roundg gn
          case measure => omega
          case rel => exact ⟨_, HT5, HK5, HS, by omega, HDN⟩
        · by_cases hn0 : n = 0
          · subst hn0
            rw [if_neg hn7, if_pos rfl] at hsk
            have HX := Lib.hid (HX0'.out c2 hsk)
            obtain ⟨hdn2, hpn2⟩ := h0 rfl
            have HDN := Lib.hid hdn2
            have HPN := Lib.hid hpn2
            rw [show errV 0 = .nilIface from rfl] at HTK
            obtain ⟨i0, hi, hz0, hz1, hz2⟩ := info_parts info_int
            clear hsk h7 h0 hgs hdn2 hpn2 hn7
            refine wpAnyH_ready (rs := [8]) (by kernel_rfl) (by simp) ?_
            refine AllReadyH.cons (o := ⟨some 23, _, _, _, _, _⟩) rfl (fun K hK => ?_) AllReadyH.nil
            go_simp
            refine HFR.out.mono ?_
            rintro e w4 ⟨rfl, rfl⟩
            refine hK.out _ _ hHeld (fun _ => ?_)
            clear hK K
            try simp only [Act.put, List.setIfInBounds_toArray, List.set_cons_zero, List.set_cons_succ]
            refine wpAnyH_ready (rs := [9]) (by kernel_rfl) (by simp) ?_
            refine AllReadyH.cons (o := ⟨some 10, _, _, _, _, _⟩) rfl (fun K hK => ?_) AllReadyH.nil
            go_simp
            refine hK.out _ _ hHeld (fun _ => ?_)
            clear hK K HFR
            try simp only [Act.put, List.setIfInBounds_toArray, List.set_cons_zero, List.set_cons_succ]
            refine wpAnyH_done (by kernel_rfl) ?_ _
            clear hHeld z1 z2
            gi_wp2_with (first
              | (refine ⟨trivial, ?_⟩; gi_at_call 70; refine (CallsIn.inRound l0 (callsIn_wide.2 HTK.out)).mono ?_; rintro e5 w5 ⟨rfl, ht5, hk5, hf5⟩; obtain ⟨A6, c6, hbo6, hown6⟩ := ht5.bo; have q8 := hbo6.cell 0; have q8f := hbo6.frozen 0; simp at q8; have HT5 := Lib.hid ht5; have HK5 := Lib.hid hk5; have HBO6 := Lib.hid hbo6; have HOW6 := Lib.hid hown6; have hs5 := hf5.size; clear ht5 hk5 hf5 hbo6 hown6)
              | (gi_at_builtin; refine wpListIn_append_own _ rfl (.tmp 36) (.tmp 38) 57 rfl (Bs + 2) 3 i0 (.int .i64 0) 1 8 Tryz.underlying57 hi hz0 hz1 hz2 rfl (by decide) _ _ _ rfl (own_alloc HOW6.out (.cells #[.int .i64 b] 3)) ⟨w5.heap.size, 0, none⟩ 1 1 [.int .i64 b] rfl rfl (cell_one w5 b) ints_one1 (by unfold maxLen; omega) (by omega) (by simp; omega) ?_; intro v6 w6 hown7 hg7 _; obtain ⟨A7, c7, rfl⟩ := own_form hown7; have hb7 := HBO6.out.alloc (.cells #[.int .i64 b] 3); have hb8 := hb7.grownO hg7 (own_alloc HOW6.out (.cells #[.int .i64 b] 3)) (by omega); have p8 := hb8.cell 0; have p8f := hb8.frozen 0; have p8l := hb8.lt; simp at p8; have HFI := Lib.hid (TbS.fini (x := b) HT5.out HPN.out HBO6.out HOW6.out HK5.out hown7 hg7 ⟨by omega, by omega⟩ (by omega)); clear hown7 hg7 hb7 hb8))
            clear hi hz0 hz1 hz2
            exact ⟨HFI.out.2.others, ⟨HFI.out.2.s1, HFI.out.2.s2⟩, c2, out ++ [(b : Int)], HX.out, HDN.out, by simp; omega, HFI.out.1, by have := HFI.out.2.size; omega⟩
          · rw [if_neg hn7, if_neg hn0] at hsk
            have HX := Lib.hid (HXE.out c2 n hn0 hsk)
            have he := errV_pos hn0
            have HSTP : Hid (∀ W', TbS B q p (.slice Au used.length cu) w (Bs + 2) c2 out W' → TbR B p w n c2 ((W'.setCell ⟨w.heap.size + 1 + 1, 0, none⟩ (.slice none 0 0)).setCell ⟨w.heap.size + 1 + 1 + 1, 0, none⟩ (.iface 68 (.int .i64 n)))) := fun W' h => by
              have := h.stop n
              rw [he] at this
              exact this
            rw [he] at HTK
            have t2 : (((n : Nat) : Int) == 7) = false := beq_eq_false_iff_ne.2 (by omega)
            have HN0 := Lib.hid hn0
            clear hsk h7 h0 hgs he hn0 hn7
            refine wpAnyH_ready (rs := [8]) (by kernel_rfl) (by simp) ?_
            refine AllReadyH.cons (o := ⟨some 23, _, _, _, _, _⟩) rfl (fun K hK => ?_) AllReadyH.nil
            go_simp
            refine HFR.out.mono ?_
            rintro e w4 ⟨rfl, rfl⟩
            refine hK.out _ _ hHeld (fun _ => ?_)
            clear hK K
            try simp only [Act.put, List.setIfInBounds_toArray, List.set_cons_zero, List.set_cons_succ]
            refine wpAnyH_ready (rs := [9]) (by kernel_rfl) (by simp) ?_
            refine AllReadyH.cons (o := ⟨some 10, _, _, _, _, _⟩) rfl (fun K hK => ?_) AllReadyH.nil
            go_simp
            refine hK.out _ _ hHeld (fun _ => ?_)
            clear hK K HFR
            try simp only [Act.put, List.setIfInBounds_toArray, List.set_cons_zero, List.set_cons_succ]
            refine wpAnyH_done (by kernel_rfl) ?_ _
            clear hHeld z1 z2
            gi_wp2_with (refine ⟨trivial, ?_⟩; gi_at_call 70; refine (CallsIn.inRound l0 (callsIn_wide.2 HTK.out)).mono ?_; rintro e5 w5 ⟨rfl, ht5, hk5, hf5⟩; have HT5 := Lib.hid ht5; have HK5 := Lib.hid hk5; have f6 := ht5.b6.frozen 0; have f7 := ht5.b7.frozen 0; have l6 := ht5.b6.lt; have l7 := ht5.b7.lt; have r6 := ht5.b6.cell 0; have r7 := ht5.b7.cell 0; simp at r6 r7; clear ht5 hk5 hf5)
            exact ⟨(HK5.out.trans (HT5.out.res (by omega) _ _)).others, rfl, c2, n, HN0.out, HX.out, HSTP.out _ HT5.out⟩
  case done =>
    rintro D xs W hD ⟨k, hk, rfl⟩ ⟨c', out, h1, h2, h3, h4, h5⟩ hK
    have hend : tablesM used (parts 14 l) c [] = (c', out, 0) := by
      have := h1 []
      rw [List.append_nil, ckQs, ck_parts, List.take_of_length_le (by rw [parts_len]; omega)] at this
      exact this
    have HEND := Lib.hid hend
    obtain ⟨A6, c6, hbo, hown⟩ := h4.bo
    have q8 := hbo.cell 0
    have r6 := h4.b6.cell 0
    have r7 := h4.b7.cell 0
    have f6 := h4.b6.frozen 0
    have f7 := h4.b7.frozen 0
    have l6 := h4.b6.lt
    have l7 := h4.b7.lt
    simp at q8 r6 r7
    have HTD := Lib.hid (h4.last (D := D) (by omega) hK rfl hown (.deferred none))
    clear hend h1 h4 hbo hown
    go_wp2_with fail
    have hc6 := HTD.out.2.2.2.1
    have hc7 := HTD.out.2.2.2.2.1
    refine ⟨by simp, .inl ⟨_, _, rfl, run_takeDeferred HTD.out.2.2.2.2.2, ?_⟩⟩
    refine ⟨.tuple #[.slice A6 out.length c6, .nilIface], by simp [results, Tryz.results42, go_sem, hc6, hc7], ?_⟩
    rw [HEND.out]
    exact ⟨_, rfl, HTD.out.2.2.1, HTD.out.1, HTD.out.2.1⟩
  case stop =>
    rintro D cde pre W hD ⟨k, rfl⟩ ⟨rfl, c', n, hn, hst, hR⟩ hK
    have hend : tablesM used (parts 14 l) c [] = (c', [], n) := by
      have := hst ((parts 14 l).drop k)
      rw [ckQs, ck_parts, List.take_append_drop] at this
      exact this
    have HEND := Lib.hid hend
    clear hend hst
    gi_wp2
    have hTD := hR.grown (grownBy_putObj' W D (.deferred none)) (fun r e => by cases e; exact ⟨hD, _, hK, rfl⟩) (by omega)
    have hc6 := hTD.b6.cell 0
    have hc7 := hTD.b7.cell 0
    simp at hc6 hc7
    refine ⟨by simp, .inl ⟨_, _, rfl, run_takeDeferred hK, ?_⟩⟩
    refine ⟨.tuple #[.slice none 0 0, errV n], by simp [results, Tryz.results42, go_sem, hc6, hc7], ?_⟩
    rw [HEND.out]
    exact ⟨_, rfl, Rd.nil _ _ _ _, hTD.rep, hTD.fr⟩
end Go.Proofs.YtaepdbkfaoiimabGreat
/- The contract of table.Get. Conditions: the block holds a table. -/
set_option linter.unusedVariables false
set_option linter.unusedSimpArgs false
namespace Go.Proofs.YtaepdbkfaoiimabGreat
open Go.RowKit
attribute [local go_sem ↓] eql_err eql_nilerr neq_err neq_nilerr guard_err guard_nilerr guardn_err guardn_nilerr

def cmpv (a b : ByteArray) : Int := Lib.compareBytes a.data.toList b.data.toList
theorem cb_lt : ∀ x y : List UInt8, (Lib.compareBytes x y < 0 ↔ Op.bytesLess x y = true) ∧ (Lib.compareBytes x y = 0 ↔ x = y) ∧ (Lib.compareBytes x y = -1 ∨ Lib.compareBytes x y = 0 ∨ Lib.compareBytes x y = 1)
  | [], [] => by simp [Lib.compareBytes, Op.bytesLess]
  | [], _ :: _ => by simp [Lib.compareBytes, Op.bytesLess]
  | _ :: _, [] => by simp [Lib.compareBytes, Op.bytesLess]
  | a :: x, b :: y => by
    obtain ⟨h1, h2, h3⟩ := cb_lt x y
    rw [Lib.compareBytes]
    by_cases hab : a < b
    · rw [if_pos hab]
      have hne : a ≠ b := fun e => by subst e; exact absurd hab (UInt8.lt_irrefl a)
      simp [Op.bytesLess, hab, hne]
    · rw [if_neg hab]
      by_cases hba : b < a
      · rw [if_pos hba]
        have hne : a ≠ b := fun e => by subst e; exact absurd hba (UInt8.lt_irrefl a)
        simp [Op.bytesLess, hab, hne]
      · rw [if_neg hba]
        have he : a = b := UInt8.le_antisymm (UInt8.not_lt.1 hba) (UInt8.not_lt.1 hab)
        subst he
        refine ⟨by simp [Op.bytesLess, h1, hab], by simp [h2], h3⟩
theorem cmpv_lt (a b : ByteArray) : cmpv a b < 0 ↔ ltB a b = true := by
  unfold cmpv ltB
  rw [← ByteArray.toList_eq, ← ByteArray.toList_eq]
  exact (cb_lt _ _).1
theorem cmpv_eq (a b : ByteArray) : cmpv a b = 0 ↔ a = b := by
  unfold cmpv
  rw [← ByteArray.toList_eq, ← ByteArray.toList_eq]
  exact (cb_lt _ _).2.1.trans (toList_inj a b)
theorem rises_at {es : List Ent} (h : Rises es) {i j : Nat} {x y : Ent} (hij : i < j) (hx : es[i]? = some x) (hy : es[j]? = some y) : ltB x.k y.k = true := by
  have hj : j < es.length := by
    rcases Nat.lt_or_ge j es.length with h | h
    · exact h
    · rw [List.getElem?_eq_none h] at hy; cases hy
  have hi : i < es.length := by omega
  rw [List.getElem?_eq_getElem hi] at hx
  rw [List.getElem?_eq_getElem hj] at hy
  cases hx; cases hy
  exact List.pairwise_iff_getElem.1 h i j hi hj hij
theorem get1_any (x : Ent) (key : ByteArray) (w : World) :
    Calls Tryz.prog 74 #[.agg #[.string x.k, .string x.v, .bool x.g], .string key] w fun e w' => e = .returned (.int .i64 (cmpv x.k key)) ∧ Below w.heap.size w w' := by
  have HC := Lib.hid (fun w => Tryz.strings_Compare x.k key w)
  go_enter Tryz.func74, Tryz.ntmps74
  go_wp2_with (go_at_call 75; refine (HC.out _).mono ?_; rintro e2 w2 ⟨rfl, rfl⟩)
  go_ret
  exact ⟨rfl, (Below.refl _ _).alloc (Nat.le_refl _) _⟩
/-- Where a key stands in entries that rise, and whether it does. -/
structure BsR (es : List Ent) (key : ByteArray) (a : Nat) (is : Bool) : Prop where
  le : a ≤ es.length
  lo : ∀ i e, i < a → es[i]? = some e → ltB e.k key = true
  hi : ∀ i e, a ≤ i → es[i]? = some e → ltB e.k key = false
  is : is = true ↔ ∃ e, es[a]? = some e ∧ e.k = key
set_option maxRecDepth 20000 in
set_option maxHeartbeats 4000000 in
theorem bsf_any (B : Nat) (v : Value) (es : List Ent) (key : ByteArray) (w : World) (h : Ents B w v es) (hr : Rises es) (hn : es.length ≤ 1000000) :
    Calls Tryz.prog 73 #[v, .string key, .func (.func 74) #[] #[]] w fun e w' => ∃ a is, e = .returned (.tuple #[.int .i64 (a : Nat), .bool is]) ∧ BsR es key a is ∧ Below w.heap.size w w' := by
  obtain ⟨A, c, rfl, hc, hc2, hcell⟩ := h.form
  have HC := Lib.hid hcell
  have HRI := Lib.hid hr
  clear hcell h hr
  go_enter Tryz.func73, Tryz.ntmps73
  go_wp2_with fail
  go_loopw [9, 10] (fun i j wr => ∃ a d : Nat, a ≤ d ∧ d ≤ es.length ∧ i = .int .i64 a ∧ j = .int .i64 d ∧ Hid ((∀ i e, i < a → es[i]? = some e → ltB e.k key = true) ∧ (∀ i e, d ≤ i → es[i]? = some e → ltB e.k key = false)) ∧ Below w.heap.size w wr) (fun i j _ => (intOf j).toNat - (intOf i).toNat)
  case atStart => exact ⟨0, es.length, Nat.zero_le _, Nat.le_refl _, rfl, rfl, ⟨fun i e h => absurd h (by omega), fun i e h h2 => by rw [List.getElem?_eq_none h] at h2; cases h2⟩, Below.refl _ _⟩
  case round =>
    obtain ⟨a, d, had, hd, rfl, rfl, hinv, hbl⟩ := hrel
    by_cases hlt : a < d
    · have t1 : decide ((a : Int) < (d : Int)) = true := decide_eq_true (by omega)
      obtain ⟨m, hm⟩ : ∃ m : Nat, (a + d) / 2 = m := ⟨_, rfl⟩
      have hmn : m < es.length := by omega
      obtain ⟨x, hx, htk, _⟩ := getElem?_of_lt hmn
      obtain ⟨b, o, rfl, hb, c1, c2, c3⟩ := HC.out m x hx
      have d1 := (hbl.cell (p := ⟨b, o + m * 3, none⟩) hb).trans c1
      have d2 := (hbl.cell (p := ⟨b, o + m * 3 + 1, none⟩) hb).trans c2
      have d3 := (hbl.cell (p := ⟨b, o + m * 3 + 2, none⟩) hb).trans c3
      have hm2 : ((a : Int) + (d : Int)) / 2 = (m : Int) := by omega
      have HCM := Lib.hid (get1_any x key wr)
      clear htk c1 c2 c3
      have g1 : (0 : Int) ≤ (m : Int) := by omega
      have g2 : (m : Int) < (es.length : Int) := by omega
      have HX := Lib.hid hx
      have HBL := Lib.hid hbl
      clear hx
      have hinv := hinv.out
      by_cases hl : cmpv x.k key < 0
      · have hlo : Hid ((∀ i e, i < m + 1 → es[i]? = some e → ltB e.k key = true) ∧ (∀ i e, d ≤ i → es[i]? = some e → ltB e.k key = false)) := by
          refine ⟨fun i e hi he => ?_, hinv.2⟩
          rcases Nat.lt_or_ge i m with h | h
          · exact ltB_trans (rises_at HRI.out h he HX.out) ((cmpv_lt _ _).1 hl)
          · have : i = m := by omega
            subst this
            rw [HX.out] at he
            cases he
            exact (cmpv_lt _ _).1 hl
        have t2 : decide (cmpv x.k key < 0) = true := decide_eq_true hl
        generalize cmpv x.k key = cv at *
        clear hinv hbl
        go_wp2_with (go_at_call 74; refine HCM.out.mono ?_; rintro e2 w2 ⟨rfl, hb2⟩; have HB2 := Lib.hid (HBL.out.trans (hb2.mono HBL.out.size)); clear hb2)
        go_roundw
        case rel => exact ⟨m + 1, d, by omega, hd, by go_num, rfl, hlo, HB2.out⟩
        case measure => simp [intOf] <;> omega
      · have hlo : Hid ((∀ i e, i < a → es[i]? = some e → ltB e.k key = true) ∧ (∀ i e, m ≤ i → es[i]? = some e → ltB e.k key = false)) := by
          refine ⟨hinv.1, fun i e hi he => ?_⟩
          have hx0 : ltB x.k key = false := by
            cases hh : ltB x.k key
            · rfl
            · exact absurd ((cmpv_lt _ _).2 hh) hl
          rcases Nat.lt_or_ge m i with h | h
          · cases hh : ltB e.k key
            · rfl
            · have := ltB_trans (rises_at HRI.out h HX.out he) hh
              rw [hx0] at this
              cases this
          · have : i = m := by omega
            subst this
            rw [HX.out] at he
            cases he
            exact hx0
        have t2 : decide (cmpv x.k key < 0) = false := decide_eq_false hl
        generalize cmpv x.k key = cv at *
        clear hinv hbl
        go_wp2_with (go_at_call 74; refine HCM.out.mono ?_; rintro e2 w2 ⟨rfl, hb2⟩; have HB2 := Lib.hid (HBL.out.trans (hb2.mono HBL.out.size)); clear hb2)
        go_roundw
        case rel => exact ⟨a, m, by omega, by omega, rfl, by go_num, hlo, HB2.out⟩
        case measure => simp [intOf] <;> omega
    · have had2 : a = d := by omega
      subst had2
      have t1 : decide ((a : Int) < (a : Int)) = false := decide_eq_false (by omega)
      by_cases hlast : a < es.length
      · obtain ⟨x, hx, htk, _⟩ := getElem?_of_lt hlast
        obtain ⟨b, o, rfl, hb, c1, c2, c3⟩ := HC.out a x hx
        have d1 := (hbl.cell (p := ⟨b, o + a * 3, none⟩) hb).trans c1
        have d2 := (hbl.cell (p := ⟨b, o + a * 3 + 1, none⟩) hb).trans c2
        have d3 := (hbl.cell (p := ⟨b, o + a * 3 + 2, none⟩) hb).trans c3
        have HCM := Lib.hid (get1_any x key wr)
        have HX := Lib.hid hx
        have HBL := Lib.hid hbl
        clear htk c1 c2 c3 hx hbl
        have t3 : decide ((a : Int) < (es.length : Int)) = true := decide_eq_true (by omega)
        have g1 : (0 : Int) ≤ (a : Int) := by omega
        have g2 : (a : Int) < (es.length : Int) := by omega
        have HEND : Hid (BsR es key a (cmpv x.k key == 0)) := by
          refine ⟨hd, hinv.out.1, hinv.out.2, ?_⟩
          rw [beq_iff_eq, cmpv_eq, HX.out]
          exact ⟨fun h => ⟨x, rfl, h⟩, fun ⟨e, h1, h2⟩ => by cases h1; exact h2⟩
        generalize cmpv x.k key = cv at *
        go_wp2_with (go_at_call 74; refine HCM.out.mono ?_; rintro e2 w2 ⟨rfl, hb2⟩; have HB2 := Lib.hid (HBL.out.trans (hb2.mono HBL.out.size)); clear hb2)
        go_ret2
        exact ⟨a, _, rfl, HEND.out, HB2.out⟩
      · have t3 : decide ((a : Int) < (es.length : Int)) = false := decide_eq_false (by omega)
        have HEND : Hid (BsR es key a false) := by
          refine ⟨hd, hinv.out.1, hinv.out.2, ?_⟩
          rw [List.getElem?_eq_none (by omega)]
          exact ⟨fun h => (by cases h), fun ⟨e, h1, _⟩ => by cases h1⟩
        go_wp2_with fail
        go_ret2
        exact ⟨a, false, rfl, HEND.out, hbl⟩
/-- An entry or the zero one. -/
def entO : Option Ent → Value
  | some e => .agg #[.string e.k, .string e.v, .bool e.g]
  | none => .agg #[.string ByteArray.empty, .string ByteArray.empty, .bool false]
theorem getE_none {l : List Ent} {key : ByteArray} (h : ∀ e ∈ l, e.k ≠ key) : getE l key = none := by
  unfold getE
  rw [List.find?_eq_none]
  intro e he
  simpa using h e he
theorem rises_app {a b : List Ent} (h : Rises (a ++ b)) : Rises a ∧ Rises b ∧ ∀ x ∈ a, ∀ y ∈ b, ltB x.k y.k = true := List.pairwise_append.1 h
/-- One page is looked at. -/
theorem get_parts {ps : List (List Ent)} {l q : List Ent} {key : ByteArray} {k a : Nat} {is : Bool} (hl : ps.flatten = l) (hr : Rises l) (hq : ps[k]? = some q) (hne : q ≠ []) (hb : BsR q key a is) :
    (is = true → ∃ e, q[a]? = some e ∧ getE l key = some e) ∧
    (is = false → a = 0 → ∀ e ∈ (ps.drop k).flatten, ltB key e.k = true) ∧
    (is = false → a = q.length → ∀ e ∈ (ps.take (k + 1)).flatten, ltB e.k key = true) ∧
    (is = false → a ≠ 0 → a ≠ q.length → getE l key = none) := by
  have hk : k < ps.length := by
    rcases Nat.lt_or_ge k ps.length with h | h
    · exact h
    · rw [List.getElem?_eq_none h] at hq; cases hq
  have hqe : ps[k] = q := by rw [List.getElem?_eq_getElem hk] at hq; exact Option.some.inj hq
  have hsp : l = (ps.take k).flatten ++ (q ++ (ps.drop (k + 1)).flatten) := by
    rw [← hl]
    conv => lhs; rw [← List.take_append_drop k ps, List.drop_eq_getElem_cons hk, hqe]
    simp
  have hdr : (ps.drop k).flatten = q ++ (ps.drop (k + 1)).flatten := by rw [List.drop_eq_getElem_cons hk, hqe]; rfl
  have htk : (ps.take (k + 1)).flatten = (ps.take k).flatten ++ q := by rw [List.take_succ_eq_append_getElem hk, hqe]; simp
  rw [hsp] at hr
  obtain ⟨r1, r2, r3⟩ := rises_app hr
  obtain ⟨r4, r5, r6⟩ := rises_app r2
  obtain ⟨x0, q', rfl⟩ : ∃ x q', q = x :: q' := by cases q with | nil => exact absurd rfl hne | cons x q' => exact ⟨x, q', rfl⟩
  have hgt : ∀ e, is = false → ∀ i, a ≤ i → (x0 :: q')[i]? = some e → ltB key e.k = true := by
    intro e hi i hai he
    have h1 := hb.hi i e hai he
    cases hh : ltB key e.k
    · have := ltB_tri h1 hh
      exfalso
      rcases Nat.lt_or_ge a i with h2 | h2
      · have hai' : a < (x0 :: q').length := by
          have : i < (x0 :: q').length := by
            rcases Nat.lt_or_ge i (x0 :: q').length with h | h
            · exact h
            · rw [List.getElem?_eq_none h] at he; cases he
          omega
        have hy := List.getElem?_eq_getElem hai'
        have h3 := hb.hi a _ (Nat.le_refl _) hy
        have h4 := rises_at r4 h2 hy he
        rw [this] at h4
        rw [h4] at h3
        cases h3
      · have : i = a := by omega
        subst this
        have := hb.is.2 ⟨e, he, by assumption⟩
        rw [hi] at this
        cases this
    · rfl
  refine ⟨fun hi => ?_, fun hi ha => ?_, fun hi ha => ?_, fun hi h0 hn => ?_⟩
  · obtain ⟨e, he, hk⟩ := hb.is.1 hi
    refine ⟨e, he, ?_⟩
    rw [← hk, hsp]
    exact getE_of_mem hr (List.mem_append_right _ (List.mem_append_left _ (List.mem_of_getElem? he)))
  · subst ha
    rw [hdr]
    intro e he
    have hx := hgt x0 hi 0 (Nat.le_refl _) rfl
    rcases List.mem_append.1 he with he | he
    · obtain ⟨i, hi2, hie⟩ := List.getElem_of_mem he
      exact hgt e hi i (Nat.zero_le _) (by rw [List.getElem?_eq_getElem hi2, hie])
    · exact ltB_trans hx (r6 x0 (List.mem_cons_self) e he)
  · have hall : ∀ e ∈ (x0 :: q'), ltB e.k key = true := by
      intro e he
      obtain ⟨i, hi2, hie⟩ := List.getElem_of_mem he
      exact hb.lo i e (by omega) (by rw [List.getElem?_eq_getElem hi2, hie])
    rw [htk]
    intro e he
    rcases List.mem_append.1 he with he | he
    · exact ltB_trans (r3 e he x0 (List.mem_append_left _ List.mem_cons_self)) (hall x0 List.mem_cons_self)
    · exact hall e he
  · have hle := hb.le
    have hx := hb.lo 0 x0 (by omega) rfl
    have hal : a < (x0 :: q').length := by omega
    have hy := List.getElem?_eq_getElem hal
    have hy2 := hgt _ hi a (Nat.le_refl _) hy
    rw [hsp]
    refine getE_none fun e he hek => ?_
    rcases List.mem_append.1 he with he | he
    · have := ltB_trans (r3 e he x0 (List.mem_append_left _ List.mem_cons_self)) hx
      rw [hek, ltB_irrefl] at this; cases this
    · rcases List.mem_append.1 he with he | he
      · obtain ⟨i, hi2, hie⟩ := List.getElem_of_mem he
        rcases Nat.lt_or_ge i a with h | h
        · have := hb.lo i e h (by rw [List.getElem?_eq_getElem hi2, hie])
          rw [hek, ltB_irrefl] at this; cases this
        · have := hgt e hi i h (by rw [List.getElem?_eq_getElem hi2, hie])
          rw [hek, ltB_irrefl] at this; cases this
      · have := ltB_trans hy2 (r6 _ (List.mem_of_getElem? hy) e he)
        rw [hek, ltB_irrefl] at this; cases this
theorem ent3 {n g T : Nat} {w W : World} {x y z : Value} (hk : Blk W g T #[x, y, z]) (hb : Below n w W) (hn : n ≤ g) (hg : w.heap.size ≤ W.heap.size) (a b c : Value) :
    Below n w (((W.setCell ⟨g, 0, none⟩ a).setCell ⟨g, 1, none⟩ b).setCell ⟨g, 2, none⟩ c) ∧ (((W.setCell ⟨g, 0, none⟩ a).setCell ⟨g, 1, none⟩ b).setCell ⟨g, 2, none⟩ c).cell? ⟨g, 0, none⟩ = some a ∧
      (((W.setCell ⟨g, 0, none⟩ a).setCell ⟨g, 1, none⟩ b).setCell ⟨g, 2, none⟩ c).cell? ⟨g, 1, none⟩ = some b ∧ (((W.setCell ⟨g, 0, none⟩ a).setCell ⟨g, 1, none⟩ b).setCell ⟨g, 2, none⟩ c).cell? ⟨g, 2, none⟩ = some c := by
  have h := ((hk.set_ 0 a).set_ 1 b).set_ 2 c
  refine ⟨((hb.setCell (p := ⟨g, 0, none⟩) hn _).setCell (p := ⟨g, 1, none⟩) hn _).setCell (p := ⟨g, 2, none⟩) hn _, ?_, ?_, ?_⟩ <;> rw [h.cell] <;> rfl
theorem errV9 : errV 9 = .iface 68 (.int .i64 9) := rfl
theorem chunks_ne {l : List Ent} : ∀ q ∈ chunks2 l, q ≠ [] := by
  have key : ∀ (n : Nat) (l : List Ent), l.length ≤ n → ∀ q ∈ chunks2 l, q ≠ [] := by
    intro n
    induction n using Nat.strongRecOn with
    | _ n ih =>
      intro l hn q hq
      match l, hn, hq with
      | [], _, hq => cases hq
      | [a], _, hq => have := List.mem_singleton.1 hq; subst this; simp
      | a :: b :: l, hn, hq =>
        rcases List.mem_cons.1 hq with rfl | hq
        · simp
        · simp only [List.length_cons] at hn
          exact ih (n - 2) (by omega) l (by omega) q hq
  exact key _ l (Nat.le_refl _)
set_option maxRecDepth 20000 in
set_option maxHeartbeats 8000000 in
theorem tabget_any (B p b : Nat) (c : Chip) (l : List Ent) (key : ByteArray) (w : World) (h : ChipR B w p c) (hb : b < 24) (hd : c.down = false) (ht : TabAt c b l) (hks : key.size ≤ 9223372036854775807)
    (hmay : mayB (fOf (l.map Ent.k)) key = false → getE l key = none) :
    Calls Tryz.prog 47 #[.pointer (some ⟨p, 0, none⟩), .int .i64 b, .string key] w fun e w' => e = .returned (.tuple #[entO (getE l key), .bool (getE l key).isSome, .nilIface]) ∧ Below w.heap.size w w' := by
  have hB0 : B ≤ w.heap.size := by obtain ⟨V, u, hv, _⟩ := h; have := hv.base; have := hv.blk.lt; omega
  have hpart := tabF_parts ht.ok
  have hris := (chkT_rises hpart.2.2).1
  have hcl := chunks2_len l
  have hpn : (chunks2 l).length ≤ 7 := by omega
  have hpl : (c.b b).l.length = 1 + (chunks2 l).length := by rw [ht.pages]; simp [tabPages, rawPages]; omega
  have HA : Hid (∀ W, Below w.heap.size w W → ChipR B W p c) := fun W hb => h.below hb
  have HRD : Hid (∀ W, Below w.heap.size w W → Calls Tryz.prog 28 #[.pointer (some ⟨p, 0, none⟩), .int .i64 b, .int .i64 0] W fun e w' => e = .returned (.tuple #[.string (pad (bitsB (fOf (l.map Ent.k)))), .nilIface]) ∧ W = w') := by
    intro W hb'
    have := cread_any B p c b 0 W (h.below hb')
    rw [tab_read0 hb hd ht] at this
    exact this
  have HNX : Hid (∀ W, Below w.heap.size w W → Calls Tryz.prog 27 #[.pointer (some ⟨p, 0, none⟩), .int .i64 b] W fun e w' => e = .returned (.int .i64 (1 + (chunks2 l).length : Nat)) ∧ W = w') := by
    intro W hb'
    have := next_any B p c b W (h.below hb') (by omega) (by omega)
    rw [Int.toNat_natCast, hpl] at this
    exact this
  have HUB := Lib.hid (fun W => unbits_any (fOf (l.map Ent.k)) (fOf_lt _) W)
  have HMY := Lib.hid (fun W => may_any (fOf (l.map Ent.k)) key W hks (fOf_lt _))
  have HPG : Hid (∀ (k : Nat) (q : List Ent), (chunks2 l)[k]? = some q → ∀ W, Below w.heap.size w W → Calls Tryz.prog 51 #[.pointer (some ⟨p, 0, none⟩), .int .i64 b, .int .i64 ((k : Int) + 1)] W fun e w2 => ∃ v, e = .returned (.tuple #[v, .nilIface]) ∧ Ents w.heap.size w2 v q ∧ Below W.heap.size W w2) := by
    intro k q hq W hb'
    have hk : k < (chunks2 l).length := by
      rcases Nat.lt_or_ge k (chunks2 l).length with h | h
      · exact h
      · rw [List.getElem?_eq_none h] at hq; cases hq
    have hpr := tab_pageR hb (show k < 7 by omega) hd ht
    rw [show ((1 : Int) + (k : Int)) = (k : Int) + 1 from by omega, hq] at hpr
    refine (page_any B p c b ((k : Int) + 1) W (h.below hb')).mono ?_
    rintro e w2 ⟨v, rfl, hv, hb2⟩
    rw [hpr] at hv ⊢
    exact ⟨v, rfl, ⟨hv.1.mono hB0, hv.2⟩, hb2⟩
  have HPS : Hid ((chunks2 l).flatten = l) := chunks2_flatten l
  have HNE : Hid (∀ q ∈ chunks2 l, q ≠ [] ∧ Rises q ∧ q.length ≤ 2) := fun q hq => ⟨chunks_ne q hq, by
    obtain ⟨i, hi, hie⟩ := List.getElem_of_mem hq
    have hr := hris
    rw [← chunks2_flatten l, ← List.take_append_drop i (chunks2 l), List.flatten_append, List.drop_eq_getElem_cons hi, hie, List.flatten_cons] at hr
    exact (rises_app (rises_app hr).2.1).1, (chunks2_mem hq).1⟩
  have HRS := Lib.hid hris
  have HMN := Lib.hid hmay
  generalize chunks2 l = ps at *
  generalize pad (bitsB (fOf (l.map Ent.k))) = s0 at *
  generalize fOf (l.map Ent.k) = f0 at *
  have fin : ∀ (W : World) (tmps : Array Value) (o : Option Ent), getE l key = o → Below w.heap.size w W → W.cell? ⟨w.heap.size, 0, none⟩ = some (.string ((o.map Ent.k).getD ByteArray.empty)) → W.cell? ⟨w.heap.size, 1, none⟩ = some (.string ((o.map Ent.v).getD ByteArray.empty)) → W.cell? ⟨w.heap.size, 2, none⟩ = some (.bool ((o.map Ent.g).getD false)) →
      tmps[6]? = some (.pointer (some ⟨w.heap.size, 0, none⟩)) → tmps[7]? = some (.bool o.isSome) → tmps[8]? = some .nilIface →
      bodyPost Tryz.prog Tryz.f47 (fun e w' => e = .returned (.tuple #[entO (getE l key), .bool (getE l key).isSome, .nilIface]) ∧ Below w.heap.size w w') .ret { tmps := tmps, defers := [] } W := by
    intro W tmps o ho hb c0 c1 c2 t6 t7 t8
    rw [ho]
    refine bodyPost_ret (v := .tuple #[.agg #[.string ((o.map Ent.k).getD ByteArray.empty), .string ((o.map Ent.v).getD ByteArray.empty), .bool ((o.map Ent.g).getD false)], .bool o.isSome, .nilIface]) (by simp [results, Tryz.results47, go_sem, t6, t7, t8, c0, c1, c2]) rfl ⟨?_, hb⟩
    cases o <;> rfl
  have FIN := Lib.hid fin
  clear fin h hd ht hpart hris hmay hpl hcl
  go_enter Tryz.func47, Tryz.ntmps47
  have HB0 : Hid (Below w.heap.size w (w.alloc (.cells #[.string ByteArray.empty, .string ByteArray.empty, .bool false] 49))) := (Below.refl _ _).alloc (Nat.le_refl _) _
  have HE0 := Lib.hid (Blk.new w 49 #[.string ByteArray.empty, .string ByteArray.empty, .bool false])
  cases hm : mayB f0 key
  · have HGN := Lib.hid (HMN.out hm)
    rw [hm] at HMY
    go_wp2_with (first
      | (go_at_call 28; refine (HRD.out _ HB0.out).mono ?_; rintro e2 w2 ⟨rfl, rfl⟩)
      | (go_at_call 50; refine (HUB.out _).mono ?_; rintro e2 w2 ⟨rfl, n2, rfl⟩)
      | (go_at_call 72; refine (HMY.out _).mono ?_; rintro e2 w2 ⟨rfl, rfl⟩))
    have h3 := ent3 (HE0.out.drewN n2) (below_drewN HB0.out n2) (Nat.le_refl _) (by simp) (.string ByteArray.empty) (.string ByteArray.empty) (.bool false)
    exact FIN.out _ _ none HGN.out h3.1 h3.2.1 h3.2.2.1 h3.2.2.2 rfl rfl rfl
  · rw [hm] at HMY
    go_wp2_with (first
      | (go_at_call 28; refine (HRD.out _ HB0.out).mono ?_; rintro e2 w2 ⟨rfl, rfl⟩)
      | (go_at_call 50; refine (HUB.out _).mono ?_; rintro e2 w2 ⟨rfl, n2, rfl⟩)
      | (go_at_call 72; refine (HMY.out _).mono ?_; rintro e2 w2 ⟨rfl, rfl⟩)
      | (go_at_call 27; refine (HNX.out _ (below_drewN HB0.out _)).mono ?_; rintro e2 w2 ⟨rfl, rfl⟩))
    clear HRD HNX HUB HMY HMN
    go_loopw [13, 14] (fun i j wr => ∃ lo hi : Nat, lo ≤ hi ∧ hi ≤ ps.length ∧ i = .int .i64 ((lo + 1 : Nat) : Int) ∧ j = .int .i64 ((hi + 1 : Nat) : Int) ∧ Hid ((∀ e ∈ (ps.take lo).flatten, ltB e.k key = true) ∧ (∀ e ∈ (ps.drop hi).flatten, ltB key e.k = true)) ∧ Below w.heap.size w wr ∧ Hid (Blk wr w.heap.size 49 #[.string ByteArray.empty, .string ByteArray.empty, .bool false])) (fun i j _ => (intOf j).toNat - (intOf i).toNat)
    case atStart => exact ⟨0, ps.length, Nat.zero_le _, Nat.le_refl _, rfl, by congr 1; omega, ⟨fun e he => by simp at he, fun e he => by simp at he⟩, below_drewN HB0.out _, HE0.out.drewN _⟩
    case round =>
      obtain ⟨lo, hi, hle, hhi, rfl, rfl, hinv, hbl, hblk⟩ := hrel
      by_cases hlt : lo < hi
      · have t1 : decide (((lo + 1 : Nat) : Int) < ((hi + 1 : Nat) : Int)) = true := decide_eq_true (by omega)
        obtain ⟨m, hm⟩ : ∃ m : Nat, (lo + hi) / 2 = m := ⟨_, rfl⟩
        have hmm : ((lo : Int) + 1 + ((hi : Int) + 1)).tdiv 2 = (m : Int) + 1 := by
          rw [Int.tdiv_eq_ediv_of_nonneg (by omega)]
          omega
        have hmp : m < ps.length := by omega
        obtain ⟨q, hq⟩ : ∃ q, ps[m]? = some q := ⟨_, List.getElem?_eq_getElem hmp⟩
        obtain ⟨hqn, hqr, hq2⟩ := HNE.out q (List.mem_of_getElem? hq)
        have HP := Lib.hid (HPG.out m q hq wr hbl)
        have HPT := Lib.hid (fun a is (h : BsR q key a is) => get_parts HPS.out HRS.out hq hqn h)
        have HBS := Lib.hid (fun W v (hv : Ents w.heap.size W v q) => bsf_any w.heap.size v q key W hv hqr (by omega))
        have HBL := Lib.hid hbl
        have HQR := Lib.hid hqr
        clear hq hqn hqr hbl
        go_wp2_with (go_at_call 51; refine HP.out.mono ?_; rintro e3 w3 ⟨v3, rfl, hv3, hb3⟩; have HV3 := Lib.hid hv3; have HB3 := Lib.hid (HBL.out.trans (hb3.mono HBL.out.size)); have HK3 := Lib.hid (hblk.out.below hb3 hblk.out.lt); clear hb3 hv3)
        refine (HBS.out _ _ HV3.out).mono ?_
        rintro e4 w4 ⟨a, is, rfl, hbs, hb4⟩
        have HB4 := Lib.hid (HB3.out.trans (hb4.mono HB3.out.size))
        have hv4 := HV3.out.below hb4
        obtain ⟨A3, cp3, rfl, hcp3, hcp4, hcell3⟩ := hv4.form
        have HC4 := Lib.hid hcell3
        have hk4 := HK3.out.below hb4 HK3.out.lt
        have HK4 := Lib.hid hk4
        have HPR := Lib.hid (HPT.out a is hbs)
        have hal := hbs.le
        have q0 := hk4.cell 0
        have q1 := hk4.cell 1
        have q2 := hk4.cell 2
        have f0' := hk4.frozen 0
        have f1' := hk4.frozen 1
        have f2' := hk4.frozen 2
        simp at q0 q1 q2
        clear hb4 hbs hv4 hcell3 hk4 HPT HBS HP HPG HNE
        cases is
        · by_cases ha0 : a = 0
          · have t5 : (((a : Nat) : Int) == 0) = true := by rw [ha0]; rfl
            have hnew : Hid ((∀ e ∈ (ps.take lo).flatten, ltB e.k key = true) ∧ (∀ e ∈ (ps.drop m).flatten, ltB key e.k = true)) := ⟨hinv.out.1, HPR.out.2.1 rfl ha0⟩
            go_wp2_with fail
            go_roundw
            case rel => exact ⟨lo, m, by omega, by omega, by go_num, by go_num, hnew, HB4.out, HK4⟩
            case measure => simp [intOf] <;> omega
          · have t5 : (((a : Nat) : Int) == 0) = false := beq_eq_false_iff_ne.2 (by omega)
            by_cases han : a = q.length
            · have t6 : (((a : Nat) : Int) == ((q.length : Nat) : Int)) = true := by rw [han]; simp
              have hnew : Hid ((∀ e ∈ (ps.take (m + 1)).flatten, ltB e.k key = true) ∧ (∀ e ∈ (ps.drop hi).flatten, ltB key e.k = true)) := ⟨HPR.out.2.2.1 rfl han, hinv.out.2⟩
              go_wp2_with fail
              go_roundw
              case rel => exact ⟨m + 1, hi, by omega, by omega, by go_num, by go_num, hnew, HB4.out, HK4⟩
              case measure => simp [intOf] <;> omega
            · have t6 : (((a : Nat) : Int) == ((q.length : Nat) : Int)) = false := beq_eq_false_iff_ne.2 (by omega)
              have HGN := Lib.hid (HPR.out.2.2.2 rfl ha0 han)
              have h3 := Lib.hid (ent3 HK4.out HB4.out (Nat.le_refl _) HB4.out.size (.string ByteArray.empty) (.string ByteArray.empty) (.bool false))
              go_wp2_with fail
              exact FIN.out _ _ none HGN.out h3.out.1 h3.out.2.1 h3.out.2.2.1 h3.out.2.2.2 rfl rfl rfl
        · obtain ⟨e, he1, he2⟩ := HPR.out.1 rfl
          obtain ⟨b', o', rfl, hb', c1, c2, c3⟩ := HC4.out a e he1
          have HGN := Lib.hid he2
          have hal2 : a < q.length := by
            rcases Nat.lt_or_ge a q.length with h | h
            · exact h
            · rw [List.getElem?_eq_none h] at he1; cases he1
          have g1 : (0 : Int) ≤ (a : Int) := by omega
          have g2 : (a : Int) < (q.length : Int) := by omega
          have h3 := Lib.hid (ent3 HK4.out HB4.out (Nat.le_refl _) HB4.out.size (.string e.k) (.string e.v) (.bool e.g))
          clear he1 he2
          go_wp2_with fail
          exact FIN.out _ _ (some e) HGN.out h3.out.1 h3.out.2.1 h3.out.2.2.1 h3.out.2.2.2 rfl rfl rfl
      · have he : lo = hi := by omega
        subst he
        have t1 : decide (((lo + 1 : Nat) : Int) < ((lo + 1 : Nat) : Int)) = false := decide_eq_false (by omega)
        have HGN : Hid (getE l key = none) := by
          refine getE_none fun e he hek => ?_
          rw [← HPS.out, ← List.take_append_drop lo ps, List.flatten_append] at he
          rcases List.mem_append.1 he with he | he
          · have := hinv.out.1 e he
            rw [hek, ltB_irrefl] at this; cases this
          · have := hinv.out.2 e he
            rw [hek, ltB_irrefl] at this; cases this
        have q0 := hblk.out.cell 0
        have q1 := hblk.out.cell 1
        have q2 := hblk.out.cell 2
        have f0' := hblk.out.frozen 0
        have f1' := hblk.out.frozen 1
        have f2' := hblk.out.frozen 2
        simp at q0 q1 q2
        have h3 := Lib.hid (ent3 hblk.out hbl (Nat.le_refl _) hbl.size (.string ByteArray.empty) (.string ByteArray.empty) (.bool false))
        go_wp2_with fail
        exact FIN.out _ _ none HGN.out h3.out.1 h3.out.2.1 h3.out.2.2.1 h3.out.2.2.2 rfl rfl rfl
end Go.Proofs.YtaepdbkfaoiimabGreat
/- The contracts of store.Rows, Get. Conditions: none but those that each names. -/
set_option linter.unusedVariables false
set_option linter.unusedSimpArgs false
namespace Go.Proofs.YtaepdbkfaoiimabGreat
open Go.RowKit
attribute [local go_sem ↓] eql_err eql_nilerr neq_err neq_nilerr guard_err guard_nilerr guardn_err guardn_nilerr
theorem orbitQ (l : List ByteArray) : ∀ (n i : Nat), n.testBit i = true → (l.foldl (fun f s => f ||| spBits s) n).testBit i = true := by
  induction l with
  | nil => intro n i h; exact h
  | cons s l ih => intro n i h; exact ih _ _ (by rw [Nat.testBit_or, h, Bool.true_or])
theorem spaQ (s : ByteArray) : (spBits s).testBit (spA s) = true := by rw [spBits, Nat.testBit_or, Nat.testBit_two_pow_self, Bool.true_or]
theorem spbQ (s : ByteArray) : (spBits s).testBit (spB s) = true := by rw [spBits, Nat.testBit_or, Nat.testBit_two_pow_self, Bool.or_true]
theorem ormemQ (l : List ByteArray) (s : ByteArray) (h : s ∈ l) : ∀ (n i : Nat), (spBits s).testBit i = true → (l.foldl (fun f s => f ||| spBits s) n).testBit i = true := by
  induction l with
  | nil => cases h
  | cons a l ih =>
    intro n i hi
    rcases List.mem_cons.1 h with rfl | h
    · exact orbitQ l _ _ (by rw [Nat.testBit_or, hi, Bool.or_true])
    · exact ih h _ _ hi
theorem maymemQ (l : List ByteArray) (s : ByteArray) (h : s ∈ l) : mayB (fOf l) s = true := by
  rw [mayB, fOf, ormemQ l s h _ _ (spaQ s), ormemQ l s h _ _ (spbQ s)]; rfl
theorem maygetQ (l : List Ent) (key : ByteArray) (h : mayB (fOf (l.map Ent.k)) key = false) : getE l key = none := by
  cases hg : getE l key with
  | none => rfl
  | some e =>
    obtain ⟨h1, h2⟩ := getE_mem hg
    rw [← h2, maymemQ _ _ (List.mem_map.2 ⟨e, h1, rfl⟩)] at h
    cases h

theorem sum_tabs : ∀ (ls : List (List Ent)), (∀ l ∈ ls, tabF l = 0) → sumLen ls ≤ 14 * ls.length
  | [], _ => by simp [sumLen]
  | l :: ls, h => by
    have h1 := sum_tabs ls fun x hx => h x (by simp [hx])
    have h2 := (tabF_parts (h l (by simp))).2.1
    simp only [sumLen, List.map_cons, List.sum_cons, List.length_cons] at *
    omega
theorem sum_lists {c : Chip} {s : SM} (hi : Inv c s) : sumLen (s.mem :: s.tabs) ≤ 1000 ∧ s.tabs.length ≤ 8 := by
  have h1 := sum_tabs s.tabs (tabsAt_ok hi.body.tabs)
  have h2 := tabsAt_len hi.body.tabs
  have h3 := hi.body.nwl
  have h4 := hi.body.odl
  have h5 := Fallen.mem_len hi
  rw [List.length_append] at h2
  simp only [sumLen, List.map_cons, List.sum_cons] at *
  omega
set_option maxHeartbeats 1000000 in
theorem srows_any (B : Nat) (q p : Nat) (c : Chip) (s : SM) (F : List Nat) (w : World) (h : StoreR B w q p s F) (hc : ChipR B w p c) (hi : Inv c s) :
    Calls Tryz.prog 20 #[.pointer (some ⟨q, 0, none⟩)] w fun e w' => ∃ v, e = .returned (.tuple #[v, .nilIface]) ∧ Ents B w' v s.rows ∧ Below w.heap.size w w' := by
  have fin : ∀ (wr : World) (tmps : Array Value) (v : Value), Ents B wr v s.rows → Below w.heap.size w wr → tmps[2]? = some v → tmps[3]? = some .nilIface →
      bodyPost Tryz.prog Tryz.f20 (fun e w' => ∃ v, e = .returned (.tuple #[v, .nilIface]) ∧ Ents B w' v s.rows ∧ Below w.heap.size w w') .ret { tmps := tmps, defers := [] } wr := by
    intro wr tmps v hv hb t2 t3
    exact bodyPost_ret (v := .tuple #[v, .nilIface]) (by simp [results, Tryz.results20, go_sem, t2, t3]) rfl ⟨v, rfl, hv, hb⟩
  have FIN := Lib.hid fin
  have HL := Lib.hid (lists_any B q p c s F w h hc hi)
  obtain ⟨h1, h2⟩ := sum_lists hi
  have h3 := mergeAll_len (s.mem :: s.tabs)
  have HROW : Hid (liveE (mergeAll (s.mem :: s.tabs)) = s.rows) := rfl
  have h4 : (s.mem :: s.tabs).length ≤ 1000 := by rw [List.length_cons]; omega
  generalize s.mem :: s.tabs = ls at *
  clear fin h hc hi h2
  go_enter Tryz.func20, Tryz.ntmps20
  go_wp2_with fail
  refine HL.out.mono ?_
  rintro e w1 ⟨v1, rfl, hv1, hb1⟩
  have HM := Lib.hid (all_any B v1 ls w1 hv1 (by omega) (by omega))
  have HB1 := Lib.hid hb1
  clear hv1 hb1 HL
  go_wp2_with fail
  refine HM.out.mono ?_
  rintro e w2 ⟨v2, rfl, hv2, hb2⟩
  have HV := Lib.hid (live_any B v2 _ w2 hv2 (by omega))
  have HB2 := Lib.hid (HB1.out.trans (hb2.mono HB1.out.size))
  clear hv2 hb2 HM
  go_wp2_with fail
  refine HV.out.mono ?_
  rintro e w3 ⟨v3, rfl, hv3, hb3⟩
  rw [HROW.out] at hv3
  have HV3 := Lib.hid hv3
  have HB3 := Lib.hid (HB2.out.trans (hb3.mono HB2.out.size))
  clear hv3 hb3 HV
  go_wp2_with fail
  exact FIN.out _ _ _ HV3.out HB3.out rfl rfl
/-- The first list that has a key tells. -/
def firstE (ls : List (List Ent)) (key : ByteArray) : Option Ent := ls.findSome? (fun l => getE l key)
theorem firstE_eq (key : ByteArray) : ∀ {ls : List (List Ent)}, (∀ l ∈ ls, Rises l) → getE (mergeAll ls) key = firstE ls key
  | [], _ => rfl
  | l :: ls, h => by
    rw [get_mergeAll_cons (h l (by simp)) (fun x hx => h x (by simp [hx])), firstE_eq key (fun x hx => h x (by simp [hx]))]
    unfold firstE
    rw [List.findSome?_cons]
    cases getE l key <;> rfl
/-- What a key has. -/
def SM.get (s : SM) (key : ByteArray) : Option Ent := (getE s.mem key).or (firstE s.tabs key)
theorem SM.get_rows {c : Chip} {s : SM} (hi : Inv c s) (key : ByteArray) : getE s.rows key = (s.get key).filter (fun e => !e.g) := by
  unfold SM.get SM.rows
  rw [rows_get hi.body.mem hi.body.tab, firstE_eq key hi.body.tab]
theorem firstE_drop {ls : List (List Ent)} {k : Nat} {l : List Ent} (h : ls[k]? = some l) (key : ByteArray) : firstE (ls.drop k) key = (getE l key).or (firstE (ls.drop (k + 1)) key) := by
  have hk : k < ls.length := by
    rcases Nat.lt_or_ge k ls.length with h' | h'
    · exact h'
    · rw [List.getElem?_eq_none h'] at h; cases h
  rw [List.drop_eq_getElem_cons hk]
  rw [List.getElem?_eq_getElem hk] at h
  cases h
  unfold firstE
  rw [List.findSome?_cons]
  cases getE ls[k] key <;> rfl
/-- What is told of a key. -/
def toldV (o : Option Ent) : Value := .tuple #[.string (o.getD Ent.zero).v, .bool (o.isSome && !(o.getD Ent.zero).g), .nilIface]
theorem entO_val' (o : Option Ent) : entO o = (o.getD Ent.zero).val := by cases o <;> rfl
set_option maxRecDepth 20000 in
set_option maxHeartbeats 4000000 in
theorem sget_any (B : Nat) (q p : Nat) (c : Chip) (s : SM) (F : List Nat) (key : ByteArray) (w : World) (h : StoreR B w q p s F) (hc : ChipR B w p c) (hi : Inv c s) (hks : key.size ≤ 9223372036854775807) :
    Calls Tryz.prog 18 #[.pointer (some ⟨q, 0, none⟩), .string key] w fun e w' => e = .returned (toldV (s.get key)) ∧ Below w.heap.size w w' := by
  have fin : ∀ (wr : World) (tmps : Array Value) (o : Option Ent) (x y : Value), s.get key = o → Below w.heap.size w wr → toldV o = .tuple #[x, y, .nilIface] → tmps[4]? = some x → tmps[5]? = some y → tmps[6]? = some .nilIface →
      bodyPost Tryz.prog Tryz.f18 (fun e w' => e = .returned (toldV (s.get key)) ∧ Below w.heap.size w w') .ret { tmps := tmps, defers := [] } wr := by
    intro wr tmps o x y ho hb hx t4 t5 t6
    rw [ho]
    exact bodyPost_ret (v := toldV o) (by rw [hx]; simp [results, Tryz.results18, go_sem, t4, t5, t6]) rfl ⟨rfl, hb⟩
  have FIN := Lib.hid fin
  clear fin
  have hlt := h.lt
  have hn5 := hi.body.nwl
  have ho3 := hi.body.odl
  have hml := Fallen.mem_len hi
  have hrng := hi.body.rng
  have HUP := Lib.hid hi.up
  have HTB := Lib.hid hi.body.tabs
  have HCR := Lib.hid hc
  have HRN : Hid (∀ b ∈ s.m.nw ++ s.m.od, 2 ≤ b ∧ b < 24) := fun b hb => hrng b (by simp only [Man.all, List.mem_cons]; exact .inr hb)
  have hbl : (s.m.nw ++ s.m.od).length ≤ 8 := by rw [List.length_append]; omega
  have hBw : B ≤ w.heap.size := Nat.le_of_lt (Nat.lt_of_le_of_lt h.base hlt)
  obtain ⟨bs, hbs⟩ : ∃ bs, bs = s.m.nw ++ s.m.od := ⟨_, rfl⟩
  rw [← hbs] at HTB HRN hbl
  have HBS := Lib.hid hbs
  clear hbs
  obtain ⟨A1, c1, A2, c2, t, n, hk, hn, ho, ht, _, _⟩ := h
  have HN := Lib.hid hn
  have HO := Lib.hid ho
  have x0 := hk.cell 0
  have x3 := hk.cell 3
  have x4 := hk.cell 4
  have x6 := hk.cell 6
  simp at x0 x3 x4 x6
  have HC : Hid (∀ w' : World, Below w.heap.size w w' → (w'.cell? ⟨q, 3, none⟩ = some (.slice A1 s.m.nw.length c1) ∧ w'.cell? ⟨q, 4, none⟩ = some (.slice A2 s.m.od.length c2)) ∧ Below w.heap.size w w') := fun w' hb =>
    ⟨⟨(hb.cell (p := ⟨q, 3, none⟩) hlt).trans x3, (hb.cell (p := ⟨q, 4, none⟩) hlt).trans x4⟩, hb⟩
  have HC0 : Hid (∀ w' : World, Below w.heap.size w w' → w'.cell? ⟨q, 0, none⟩ = some (.pointer (some ⟨p, 0, none⟩))) := fun w' hb => (hb.cell (p := ⟨q, 0, none⟩) hlt).trans x0
  have HG := Lib.hid (tget_two B t s.mem F key w ht (by omega))
  have HGET : Hid (s.get key = (getE s.mem key).or (firstE s.tabs key)) := rfl
  clear hrng hi hc hk hn ho ht x0 x3 x4
  go_enter Tryz.func18, Tryz.ntmps18
  go_wp2_with fail
  refine HG.out.mono ?_
  rintro e w1 ⟨⟨x, hx, rfl⟩, hb1⟩
  have hs1 := hb1.size
  have HB2 : Hid (Below w.heap.size w (w1.alloc (.cells #[.string x.k, .string x.v, .bool x.g] 49))) := hb1.alloc hs1 _
  have HX := Lib.hid hx
  clear hx HG hb1
  cases hg : getE s.mem key with
  | some e0 =>
    rw [hg] at HX HGET
    have HXE : Hid (x = e0) := HX.out
    have HGE : Hid (s.get key = some e0) := HGET.out
    clear hg HX HGET
    simp only [Option.isSome_some]
    go_wp2_with fail
    go_quiet (fail)
    go_wp2_with fail
    exact FIN.out _ _ _ (.string x.v) (.bool (!x.g)) HGE.out (below_drewN' HB2.out _) (by rw [HXE.out]; rfl) rfl rfl rfl
  | none =>
    rw [hg, Option.none_or] at HGET
    clear hg HX
    simp only [Option.isSome_none]
    have hsz2 : (w1.alloc (.cells #[.string x.k, .string x.v, .bool x.g] 49)).heap.size = w1.heap.size + 1 := by simp
    have hCC := concat_store (q := q) (p := p) (F := F) HN.out HO.out HB2.out (by omega) (by omega)
    rw [hsz2, ← HBS.out] at hCC
    have HCC := Lib.hid hCC
    have HB2D : Hid (Below w.heap.size w (w1.alloc (.cells #[.string x.k, .string x.v, .bool x.g] 49)).drew) := HB2.out.drew
    clear hCC hsz2
    go_wp2_with fail
    go_region_held3 (fun w' => (w'.cell? ⟨q, 3, none⟩ = some (.slice A1 s.m.nw.length c1) ∧ w'.cell? ⟨q, 4, none⟩ = some (.slice A2 s.m.od.length c2)) ∧ Below w.heap.size w w')
      ((first | exact HC.out _ HB2D.out | exact HC.out _ hB3 | exact HC.out _ (HB2.out.alloc HB2.out.size _).drew))
      ((first | (go_at_call 25; refine HCC.out.mono ?_; rintro e w3 ⟨v3, rfl, hi3, hB3, hBW⟩; obtain ⟨A3, c3, rfl, k5, k6, kc⟩ := hi3.form)))
    have HI3 := Lib.hid hi3
    have HB3 := Lib.hid hB3
    have HTL : Hid (bs.length = s.tabs.length) := tabsAt_len HTB.out
    clear hi3 hB3 kc hBW HC HN HO HB2 HB2D HCC
    go_wp2_with fail
    go_loopw [42] (fun i wr => ∃ (k : Nat), k ≤ bs.length ∧ i = .int .i64 (k : Int) ∧ Hid (s.get key = firstE (s.tabs.drop k) key) ∧ Hid (Ints B wr (.slice A3 bs.length c3) bs) ∧ Below w.heap.size w wr) (fun i _ => bs.length - (intOf i).toNat)
    case atStart => exact ⟨0, Nat.zero_le _, rfl, by rw [Hid, HGET.out]; rfl, HI3.out, HB3.out⟩
    case round =>
      obtain ⟨k, hk, rfl, hge, hi4, hbl4⟩ := hrel
      clear HI3 HB3 HGET
      by_cases hlt : k < bs.length
      · obtain ⟨b, hb, _, _⟩ := getElem?_of_lt hlt
        obtain ⟨l, hl, htab⟩ := tabsAt_at HTB.out k b hb
        have hbr := HRN.out b (List.mem_of_getElem? hb)
        obtain ⟨bn, rfl⟩ := Int.eq_ofNat_of_zero_le (show 0 ≤ b by omega)
        rw [Int.toNat_natCast] at htab
        obtain ⟨A4, c4, e4, _, _, hcell⟩ := hi4.out.form
        obtain ⟨bb, oo, rfl, hbb, y1⟩ := hcell k _ hb
        cases e4
        have hT := tabget_any B p bn c l key wr (HCR.out.below hbl4) (by omega) HUP.out htab hks (maygetQ _ _)
        rw [entO_val'] at hT
        have HGN : Hid (s.get key = (getE l key).or (firstE (s.tabs.drop (k + 1)) key)) := by rw [Hid, hge.out, firstE_drop hl]
        have x0 := HC0.out wr hbl4
        have HB4 := Lib.hid hbl4
        have hs4 := hbl4.size
        have g1 : (0 : Int) ≤ (k : Int) := by omega
        have g2 : (k : Int) < (bs.length : Int) := by omega
        obtain ⟨y, hy⟩ : ∃ y, y = (getE l key).getD Ent.zero := ⟨_, rfl⟩
        rw [← hy, show y.val = .agg #[.string y.k, .string y.v, .bool y.g] from rfl] at hT
        cases hgl : getE l key with
        | some e0 =>
          rw [hgl] at hT hy HGN
          have HXE : Hid (y = e0) := hy
          have HGE : Hid (s.get key = some e0) := HGN.out
          have HT := Lib.hid hT
          clear hb hl htab hcell hbr hbl4 hT hgl hy HGN hge
          go_wp2_with fail
          refine HT.out.mono ?_
          rintro e5 w5 ⟨rfl, hb5⟩
          have hbE : Below w.heap.size w (w5.alloc (.cells #[.string y.k, .string y.v, .bool y.g] 49)) := (HB4.out.trans (hb5.mono hs4)).alloc (Nat.le_trans hs4 hb5.size) _
          have HBE := Lib.hid hbE
          clear hb5 hbE HT
          simp only [Option.isSome_some]
          go_wp2_with fail
          go_quiet (fail)
          go_wp2_with fail
          exact FIN.out _ _ _ (.string y.v) (.bool (!y.g)) HGE.out (below_drewN' HBE.out _) (by rw [HXE.out]; rfl) rfl rfl rfl
        | none =>
          rw [hgl] at hT hy HGN
          have HGE : Hid (s.get key = firstE (s.tabs.drop (k + 1)) key) := by rw [Hid, HGN.out, Option.none_or]
          have HT := Lib.hid hT
          clear hb hl htab hcell hbr hbl4 hT hgl hy HGN hge
          go_wp2_with fail
          refine HT.out.mono ?_
          rintro e5 w5 ⟨rfl, hb5⟩
          have hb5' : Below wr.heap.size wr (w5.alloc (.cells #[.string y.k, .string y.v, .bool y.g] 49)) := hb5.alloc hb5.size _
          have HBE := Lib.hid (HB4.out.trans (hb5'.mono hs4))
          have HI5 := Lib.hid (hi4.out.below hb5')
          clear hb5 hb5' HT
          simp only [Option.isSome_none]
          go_wp2_with fail
          go_roundw
          case rel => exact ⟨k + 1, by omega, by go_num, HGE, HI5, HBE.out⟩
          case measure => simp [intOf] <;> omega
      · have g2 : decide ((k : Int) < (bs.length : Int)) = false := decide_eq_false (by omega)
        have HGE : Hid (s.get key = none) := by
          have := HTL.out
          rw [Hid, hge.out, List.drop_eq_nil_of_le (by omega)]
          rfl
        go_wp2_with fail
        exact FIN.out _ _ none (.string ByteArray.empty) (.bool false) HGE.out hbl4 rfl rfl rfl rfl
end Go.Proofs.YtaepdbkfaoiimabGreat
/- The contracts of store.Compact, few, flush, Flush. Conditions: the store is sound. -/
set_option linter.unusedVariables false
set_option linter.unusedSimpArgs false
namespace Go.Proofs.YtaepdbkfaoiimabGreat
open Go.RowKit
attribute [local go_sem ↓] eql_err eql_nilerr neq_err neq_nilerr guard_err guard_nilerr guardn_err guardn_nilerr
/-- What a function of the store leaves, that answers an error. -/
def SPost (B q p : Nat) (F : List Nat) (w : World) (r : Chip × SM × Nat) (e : Ending) (w' : World) : Prop :=
  e = .returned (errV r.2.2) ∧ ChipR B w' p r.1 ∧ (∃ F', StoreR B w' q p r.2.1 F' ∧ ∀ b ∈ F', b ∈ F ∨ w.heap.size ≤ b) ∧ Fr B (· ∈ q :: p :: F) w w'
theorem Lss.cut {B : Nat} {w : World} {b o n c : Nat} {y : List Ent} {ys : List (List Ent)} (h : Lss B w (.slice (some ⟨b, o, none⟩) n c) (y :: ys)) :
    Lss B w (.slice (if c = 1 then some ⟨b, o, none⟩ else some ⟨b, o + 1, none⟩) ys.length (c - 1)) ys := by
  obtain ⟨vs, h1, ⟨h2, A, c', h3, h4, h5, h6⟩, h7⟩ := h
  simp only [List.length_cons] at h1 h2 h3 h4 h6
  injection h3 with e1 e2 e3
  subst e1; subst e3
  obtain ⟨x, vs, rfl⟩ : ∃ x vs', vs = x :: vs' := by
    cases vs with
    | nil => simp at h1
    | cons x vs => exact ⟨x, vs, rfl⟩
  have h1 : vs.length = ys.length := by simpa using h1
  have h2 : vs.length + 1 = (ys.length + 1) * 1 := by simpa using h2
  refine ⟨vs, by omega, ⟨by omega, _, _, rfl, by omega, by omega, fun hn => ?_⟩, fun i u l hu hl => h7 (i + 1) u l hu hl⟩
  rw [if_neg (by omega)]
  obtain ⟨b', o', e, hk, hb, hc⟩ := h6 (by omega)
  injection e with e
  injection e with eb eo
  subst eb; subst eo
  refine ⟨_, _, rfl, hk, hb, fun j u hu => ?_⟩
  rw [Nat.add_assoc, Nat.add_comm 1 j]
  exact hc (j + 1) u hu
theorem Lss.cut1 {B : Nat} {w : World} {b o n : Nat} {y : List Ent} {ys : List (List Ent)} (h : Lss B w (.slice (some ⟨b, o, none⟩) n 1) (y :: ys)) :
    Lss B w (.slice (some ⟨b, o, none⟩) ys.length 0) ys := by
  have := h.cut
  rw [if_pos rfl] at this
  exact this
theorem Lss.cut2 {B : Nat} {w : World} {b o n c : Nat} {y : List Ent} {ys : List (List Ent)} (h : Lss B w (.slice (some ⟨b, o, none⟩) n c) (y :: ys)) (hc : c ≠ 1) :
    Lss B w (.slice (some ⟨b, o + 1, none⟩) ys.length (c - 1)) ys := by
  have := h.cut
  rw [if_neg hc] at this
  exact this
theorem tablesM_len (used : List Int) : ∀ (ps : List (List Ent)) (c : Chip) (out : List Int), (tablesM used ps c out).2.1.length ≤ out.length + ps.length
  | [], c, out => by rw [tablesM]; simp
  | x :: ps, c, out => by
    rw [tablesM]
    split
    · have := tablesM_len used ps (seek (fun c b => tabWrite c b x) (used ++ out) 25 c).1 (out ++ [(seek (fun c b => tabWrite c b x) (used ++ out) 25 c).2.1])
      rw [List.length_append] at this
      simp at this ⊢
      omega
    · simp
theorem comp_ok {c c1 c2 : Chip} {s s2 : SM} {o : List Int} {n : Nat} (h1 : tablesM s.m.all (parts 14 (liveE (mergeAll s.tabs))) c [] = (c1, o, 0)) (h2 : noteM c1 s ⟨0, s.m.log, [], o⟩ = (c2, s2, n)) :
    compM c s = (c2, if n = 0 then { s2 with tabs := parts 14 (liveE (mergeAll s.tabs)) } else s2, n) := by
  unfold compM
  rw [h1]
  simp only
  rw [if_neg (by simp), h2]
  simp only
  by_cases hn : n = 0
  · subst hn; rw [if_pos rfl, if_pos rfl]
  · rw [if_neg hn, if_neg hn]
theorem comp_bad {c c1 : Chip} {s : SM} {o : List Int} {n : Nat} (h1 : tablesM s.m.all (parts 14 (liveE (mergeAll s.tabs))) c [] = (c1, o, n)) (hn : n ≠ 0) : compM c s = (c1, s, n) := by
  unfold compM
  rw [h1]
  simp only
  rw [if_pos hn]
theorem StoreR.tabs {B q p : Nat} {w : World} {s : SM} {F : List Nat} (h : StoreR B w q p s F) (t : List (List Ent)) : StoreR B w q p { s with tabs := t } F := h
theorem StoreR.ite {B q p : Nat} {w : World} {s : SM} {F : List Nat} {P : Prop} [Decidable P] (h : StoreR B w q p s F) (t : List (List Ent)) : StoreR B w q p (if P then { s with tabs := t } else s) F := by split <;> exact h
set_option maxRecDepth 20000 in
set_option maxHeartbeats 4000000 in
theorem compact_any (B : Nat) (q p : Nat) (c : Chip) (s : SM) (F : List Nat) (w : World) (h : StoreR B w q p s F) (hc : ChipR B w p c) (hi : Inv c s) :
    Calls Tryz.prog 16 #[.pointer (some ⟨q, 0, none⟩)] w (SPost B q p F w (compM c s)) := by
  have hB0 : B ≤ w.heap.size := Nat.le_of_lt (Nat.lt_of_le_of_lt h.base h.lt)
  have hlt := h.lt
  obtain ⟨hsum, htl⟩ := sum_lists hi
  have hsum2 : sumLen s.tabs ≤ 1000 := by simp only [sumLen, List.map_cons, List.sum_cons] at hsum ⊢; omega
  have hml := mergeAll_len s.tabs
  have hll := liveE_len (mergeAll s.tabs)
  have hpl : (parts 14 (liveE (mergeAll s.tabs))).length ≤ 100 := by rw [parts_len]; omega
  have hnl := hi.body.nwl
  have hol := hi.body.odl
  have hat := hi.head.at_
  have hal : s.m.all.length ≤ 9 := by simp [Man.all]; omega
  have hep0 := (fault_zero.1 hi.body.fault).1
  have hep1 := (fault_zero.1 hi.body.fault).2.1
  have HLI := Lib.hid (lists_any B q p c s F w h hc hi)
  have HS := Lib.hid h
  have HC := Lib.hid hc
  have HUP := Lib.hid hi.up
  have HOK := Lib.hid (parts_ok (rises_live (rises_mergeAll hi.body.tab)) (faults_live hi.body))
  have hlen := tablesM_len s.m.all (parts 14 (liveE (mergeAll s.tabs))) c []
  have hcok := fun c1 c2 s2 o n => comp_ok (c := c) (c1 := c1) (c2 := c2) (s := s) (s2 := s2) (o := o) (n := n)
  have hcbad := fun c1 o n => comp_bad (c := c) (c1 := c1) (s := s) (o := o) (n := n)
  have hx2 : w.cell? ⟨q, 2, none⟩ = some (.int .i64 s.m.log) := by
    obtain ⟨A1, c1, A2, c2, t, n, hk, _⟩ := h
    have := hk.cell 2
    simpa using this
  have HX2 : Hid (∀ W, Fr B (· = p) w W → W.cell? ⟨q, 2, none⟩ = some (.int .i64 s.m.log)) := by
    intro W hf
    obtain ⟨A1, c1, A2, c2, t, n, hk, _⟩ := h.fr hf (h.apart hc)
    have := hk.cell 2
    simpa using this
  generalize hL : liveE (mergeAll s.tabs) = L at *
  have HMA : Hid (liveE (mergeAll s.tabs) = L) := hL
  generalize hT : tablesM s.m.all (parts 14 L) c [] = T at *
  have HT : Hid (tablesM s.m.all (parts 14 L) c [] = T) := hT
  obtain ⟨c1, o, n1⟩ := T
  simp only at hlen
  clear hi h hc hL hT hx2
  go_enter Tryz.func16, Tryz.ntmps16
  go_wp2_with fail
  refine HLI.out.mono ?_
  rintro e w1 ⟨v1, rfl, hv1, hb1⟩
  obtain ⟨A1, k1, rfl, g1, g2, hcell⟩ := hv1.form
  obtain ⟨bb, oo, u, rfl, _⟩ := hcell 0 s.mem rfl
  have HB1 := Lib.hid hb1
  have hk1 : 1 ≤ k1 := by simp at g1; omega
  by_cases hk2 : k1 = 1
  · subst hk2
    have HALL := Lib.hid (all_any B _ s.tabs w1 hv1.cut1 (by omega) (by omega))
    clear hcell hv1 hb1 HLI g1
    rw [List.length_cons]
    go_wp2_with fail
    refine HALL.out.mono ?_
    rintro e w2 ⟨v2, rfl, hv2, hb2⟩
    have HLV := Lib.hid (live_any B v2 _ w2 hv2 (by omega))
    have HB2 := Lib.hid (HB1.out.trans (hb2.mono HB1.out.size))
    clear hv2 hb2 HALL HB1
    go_wp2_with fail
    refine HLV.out.mono ?_
    rintro e w3 ⟨v3, rfl, hv3, hb3⟩
    rw [HMA.out] at hv3
    have HV3 := Lib.hid hv3
    have HB3 := Lib.hid (HB2.out.trans (hb3.mono HB2.out.size))
    have HU := Lib.hid (used_any B q p s F w3 (HS.out.below HB3.out) (by omega) (by omega))
    clear hv3 hb3 HLV HB2
    go_wp2_with fail
    refine HU.out.mono ?_
    rintro e w4 ⟨v4, rfl, hu4, hb4⟩
    have HB4 := Lib.hid (HB3.out.trans (hb4.mono HB3.out.size))
    have HTB := Lib.hid (tables_any B q p c s F v3 v4 L s.m.all w4 (HS.out.below HB4.out) (HC.out.below HB4.out) (HV3.out.below hb4) hu4 HUP.out HOK.out (by omega) (by omega))
    rw [HT.out] at HTB
    simp only at HTB
    have HF4 : Hid (Fr B (· ∈ q :: p :: F) w w4) := Fr.of_below HB4.out
    have HS4 := Lib.hid (HS.out.below HB4.out)
    have HC4 := Lib.hid (HC.out.below HB4.out)
    clear hu4 hb4 HU HV3 HB3
    by_cases hn : n1 = 0
    · subst hn
      rw [show errV 0 = Value.nilIface from rfl] at HTB
      have hol2 : o.length ≤ 100 := by simp at hlen; omega
      have HCOK := Lib.hid (fun c2 s2 n => hcok c1 c2 s2 o n)
      clear hcok hcbad hlen
      go_wp2_with fail
      refine HTB.out.mono ?_
      rintro e w5 ⟨vo, rfl, ho5, hc5, hf5⟩
      obtain ⟨A5, k5, rfl, _, _, kX⟩ := ho5.form
      have hs5 := HS4.out.chip HC4.out hf5
      have x2 := HX2.out w5 ((Fr.of_below HB4.out).trans' hf5 (fun _ _ h => h))
      have HF5 : Hid (Fr B (· ∈ q :: p :: F) w w5) := HF4.out.trans' hf5 (fun b _ e => by subst e; simp)
      have HNT := Lib.hid (snote_any B q p c1 s F (.agg #[.int .i64 0, .int .i64 s.m.log, .slice none 0 0, .slice A5 o.length k5]) ⟨0, s.m.log, [], o⟩ w5 hs5 hc5 ⟨_, _, rfl, Rd.nil _ _ _ _, ho5⟩ (by simp) (by simpa using (by omega : o.length ≤ 1000)) hat (by omega) (by omega))
      clear kX ho5 hc5 hf5 hs5 HTB
      generalize hN : noteM c1 s ⟨0, s.m.log, [], o⟩ = N at *
      obtain ⟨c2, s2, n2⟩ := N
      have HCM := Lib.hid (HCOK.out c2 s2 n2 trivial (by rw [← hN]))
      simp only at HNT
      clear hN
      go_wp2_with fail
      refine HNT.out.mono ?_
      rintro e w6 ⟨rfl, hc6, hs6, hf6⟩
      have HFIN : Hid (ChipR B w6 p c2 ∧ StoreR B w6 q p s2 F ∧ Fr B (· ∈ q :: p :: F) w w6) := ⟨hc6, hs6, HF5.out.trans' hf6 (fun b _ e => by rcases e with rfl | rfl <;> simp)⟩
      clear hc6 hs6 hf6 HNT
      go_wp2_with fail
      go_ret
      rw [HCM.out]
      exact ⟨rfl, HFIN.out.1, ⟨F, HFIN.out.2.1.ite _, fun b hb => .inl hb⟩, HFIN.out.2.2⟩
    · have he := errV_pos hn
      rw [he] at HTB
      have HE := Lib.hid he
      have HCM := Lib.hid (hcbad c1 o n1 rfl hn)
      clear hcok hcbad hn he
      go_wp2_with fail
      refine HTB.out.mono ?_
      rintro e w5 ⟨vo, rfl, ho5, hc5, hf5⟩
      have hs5 := HS4.out.chip HC4.out hf5
      have HFIN : Hid (ChipR B w5 p c1 ∧ StoreR B w5 q p s F ∧ Fr B (· ∈ q :: p :: F) w w5) := ⟨hc5, hs5, HF4.out.trans' hf5 (fun b _ e => by subst e; simp)⟩
      clear ho5 hc5 hf5 hs5 HTB
      go_wp2_with fail
      go_ret
      rw [HCM.out]
      exact ⟨by rw [HE.out]; rfl, HFIN.out.1, ⟨F, HFIN.out.2.1, fun b hb => .inl hb⟩, HFIN.out.2.2⟩
  · have HALL := Lib.hid (all_any B _ s.tabs w1 (hv1.cut2 hk2) (by omega) (by omega))
    clear hcell hv1 hb1 HLI g1
    rw [List.length_cons]
    go_wp2_with fail
    refine HALL.out.mono ?_
    rintro e w2 ⟨v2, rfl, hv2, hb2⟩
    have HLV := Lib.hid (live_any B v2 _ w2 hv2 (by omega))
    have HB2 := Lib.hid (HB1.out.trans (hb2.mono HB1.out.size))
    clear hv2 hb2 HALL HB1
    go_wp2_with fail
    refine HLV.out.mono ?_
    rintro e w3 ⟨v3, rfl, hv3, hb3⟩
    rw [HMA.out] at hv3
    have HV3 := Lib.hid hv3
    have HB3 := Lib.hid (HB2.out.trans (hb3.mono HB2.out.size))
    have HU := Lib.hid (used_any B q p s F w3 (HS.out.below HB3.out) (by omega) (by omega))
    clear hv3 hb3 HLV HB2
    go_wp2_with fail
    refine HU.out.mono ?_
    rintro e w4 ⟨v4, rfl, hu4, hb4⟩
    have HB4 := Lib.hid (HB3.out.trans (hb4.mono HB3.out.size))
    have HTB := Lib.hid (tables_any B q p c s F v3 v4 L s.m.all w4 (HS.out.below HB4.out) (HC.out.below HB4.out) (HV3.out.below hb4) hu4 HUP.out HOK.out (by omega) (by omega))
    rw [HT.out] at HTB
    simp only at HTB
    have HF4 : Hid (Fr B (· ∈ q :: p :: F) w w4) := Fr.of_below HB4.out
    have HS4 := Lib.hid (HS.out.below HB4.out)
    have HC4 := Lib.hid (HC.out.below HB4.out)
    clear hu4 hb4 HU HV3 HB3
    by_cases hn : n1 = 0
    · subst hn
      rw [show errV 0 = Value.nilIface from rfl] at HTB
      have hol2 : o.length ≤ 100 := by simp at hlen; omega
      have HCOK := Lib.hid (fun c2 s2 n => hcok c1 c2 s2 o n)
      clear hcok hcbad hlen
      go_wp2_with fail
      refine HTB.out.mono ?_
      rintro e w5 ⟨vo, rfl, ho5, hc5, hf5⟩
      obtain ⟨A5, k5, rfl, _, _, kX⟩ := ho5.form
      have hs5 := HS4.out.chip HC4.out hf5
      have x2 := HX2.out w5 ((Fr.of_below HB4.out).trans' hf5 (fun _ _ h => h))
      have HF5 : Hid (Fr B (· ∈ q :: p :: F) w w5) := HF4.out.trans' hf5 (fun b _ e => by subst e; simp)
      have HNT := Lib.hid (snote_any B q p c1 s F (.agg #[.int .i64 0, .int .i64 s.m.log, .slice none 0 0, .slice A5 o.length k5]) ⟨0, s.m.log, [], o⟩ w5 hs5 hc5 ⟨_, _, rfl, Rd.nil _ _ _ _, ho5⟩ (by simp) (by simpa using (by omega : o.length ≤ 1000)) hat (by omega) (by omega))
      clear kX ho5 hc5 hf5 hs5 HTB
      generalize hN : noteM c1 s ⟨0, s.m.log, [], o⟩ = N at *
      obtain ⟨c2, s2, n2⟩ := N
      have HCM := Lib.hid (HCOK.out c2 s2 n2 trivial (by rw [← hN]))
      simp only at HNT
      clear hN
      go_wp2_with fail
      refine HNT.out.mono ?_
      rintro e w6 ⟨rfl, hc6, hs6, hf6⟩
      have HFIN : Hid (ChipR B w6 p c2 ∧ StoreR B w6 q p s2 F ∧ Fr B (· ∈ q :: p :: F) w w6) := ⟨hc6, hs6, HF5.out.trans' hf6 (fun b _ e => by rcases e with rfl | rfl <;> simp)⟩
      clear hc6 hs6 hf6 HNT
      go_wp2_with fail
      go_ret
      rw [HCM.out]
      exact ⟨rfl, HFIN.out.1, ⟨F, HFIN.out.2.1.ite _, fun b hb => .inl hb⟩, HFIN.out.2.2⟩
    · have he := errV_pos hn
      rw [he] at HTB
      have HE := Lib.hid he
      have HCM := Lib.hid (hcbad c1 o n1 rfl hn)
      clear hcok hcbad hn he
      go_wp2_with fail
      refine HTB.out.mono ?_
      rintro e w5 ⟨vo, rfl, ho5, hc5, hf5⟩
      have hs5 := HS4.out.chip HC4.out hf5
      have HFIN : Hid (ChipR B w5 p c1 ∧ StoreR B w5 q p s F ∧ Fr B (· ∈ q :: p :: F) w w5) := ⟨hc5, hs5, HF4.out.trans' hf5 (fun b _ e => by subst e; simp)⟩
      clear ho5 hc5 hf5 hs5 HTB
      go_wp2_with fail
      go_ret
      rw [HCM.out]
      exact ⟨by rw [HE.out]; rfl, HFIN.out.1, ⟨F, HFIN.out.2.1, fun b hb => .inl hb⟩, HFIN.out.2.2⟩
end Go.Proofs.YtaepdbkfaoiimabGreat
/- The contracts of store.few, flush. Conditions: the store is sound. -/
set_option linter.unusedVariables false
set_option linter.unusedSimpArgs false
namespace Go.Proofs.YtaepdbkfaoiimabGreat
open Go.RowKit
attribute [local go_sem ↓] eql_err eql_nilerr neq_err neq_nilerr guard_err guard_nilerr guardn_err guardn_nilerr
theorem SPost.refl {B q p : Nat} {F : List Nat} {w : World} {c : Chip} {s : SM} (h : StoreR B w q p s F) (hc : ChipR B w p c) : SPost B q p F w (c, s, 0) (.returned .nilIface) w :=
  ⟨rfl, hc, ⟨F, h, fun b hb => .inl hb⟩, Fr.refl _ _ _⟩
set_option maxRecDepth 20000 in
set_option maxHeartbeats 4000000 in
theorem few_any (B : Nat) (q p : Nat) (c : Chip) (s : SM) (F : List Nat) (w : World) (h : StoreR B w q p s F) (hc : ChipR B w p c) (hi : Inv c s) :
    Calls Tryz.prog 39 #[.pointer (some ⟨q, 0, none⟩)] w (SPost B q p F w (fewM c s)) := by
  have HCO := Lib.hid (compact_any B q p c s F w h hc hi)
  have HRE := Lib.hid (SPost.refl h hc)
  obtain ⟨A1, c1, A2, c2, t, n, hk, _⟩ := h
  have x3 := hk.cell 3
  simp at x3
  clear hk hc hi
  by_cases h3 : s.m.nw.length < 3
  · have HF : Hid (fewM c s = (c, s, 0)) := if_pos h3
    have t9 : decide ((s.m.nw.length : Int) < 3) = true := decide_eq_true (by omega)
    clear h3 HCO
    go_enter Tryz.func39, Tryz.ntmps39
    go_wp2_with fail
    go_ret
    rw [HF.out]
    exact HRE.out
  · have HF : Hid (fewM c s = compM c s) := if_neg h3
    have t9 : decide ((s.m.nw.length : Int) < 3) = false := decide_eq_false (by omega)
    rw [← HF.out] at HCO
    clear h3 HF HRE
    go_enter Tryz.func39, Tryz.ntmps39
    go_wp2_with fail
    refine HCO.out.mono ?_
    rintro e w1 ⟨rfl, hr⟩
    have HR := Lib.hid hr
    clear hr HCO
    go_wp2_with fail
    go_ret
    exact ⟨rfl, HR.out⟩
theorem lay_facts {c : Chip} {s : SM} (h : Inv c s) : ∀ c1 o n1, tablesM s.m.all (parts 14 s.mem) c [] = (c1, o, n1) → n1 = 0 → c1.down = false ∧ o.length ≤ 3 := by
  intro c1 o n1 he hn
  have hb := h.body
  have hml := Fallen.mem_len h
  obtain ⟨es, hlog⟩ := hb.log
  have hpl : (parts 14 s.mem).length ≤ 3 := by rw [parts_len]; omega
  obtain ⟨c1', o', n1', e1, w1, x1, f1, g1⟩ := tables_calm s.m.all (parts 14 s.mem) c [] h.wf h.up hb.weak (by
    have := hb.odl
    have := hb.nwl
    simp [Man.all]; omega) (parts_ok hb.mem hlog.fault)
  have hlen := tablesM_len s.m.all (parts 14 s.mem) c []
  rw [he] at e1 hlen
  simp only [List.length_nil] at hlen
  cases e1
  rcases g1 with ⟨_, d1, _⟩ | ⟨h9, _⟩
  · exact ⟨d1, by omega⟩
  · omega
theorem lay_bad1 {c c1 : Chip} {s : SM} {o : List Int} {n : Nat} (h1 : tablesM s.m.all (parts 14 s.mem) c [] = (c1, o, n)) (hn : n ≠ 0) : layM c s = (c1, s, n) := by
  unfold layM
  rw [h1]
  simp only
  rw [if_pos hn]
theorem lay_bad2 {c c1 c2 : Chip} {s : SM} {o : List Int} {b : Int} {n : Nat} (h1 : tablesM s.m.all (parts 14 s.mem) c [] = (c1, o, 0)) (h2 : blankM (s.m.all ++ o) c1 = (c2, b, n)) (hn : n ≠ 0) : layM c s = (c2, s, n) := by
  unfold layM
  rw [h1]
  simp only
  rw [if_neg (by simp), h2]
  simp only
  rw [if_pos hn]
theorem lay_ok {c c1 c2 c3 : Chip} {s s3 : SM} {o : List Int} {b : Int} {n : Nat} (h1 : tablesM s.m.all (parts 14 s.mem) c [] = (c1, o, 0)) (h2 : blankM (s.m.all ++ o) c1 = (c2, b, 0)) (h3 : noteM c2 s ⟨0, b, o ++ s.m.nw, s.m.od⟩ = (c3, s3, n)) :
    layM c s = (c3, if n = 0 then { s3 with mem := [], tabs := parts 14 s.mem ++ s.tabs } else s3, n) := by
  unfold layM
  rw [h1]
  simp only
  rw [if_neg (by simp), h2]
  simp only
  rw [if_neg (by simp), h3]
  simp only
  by_cases hn : n = 0
  · subst hn; rw [if_pos rfl, if_pos rfl]
  · rw [if_neg hn, if_neg hn]
/-- What is at hand is another tower. -/
theorem store_mem {B q p t' : Nat} {w : World} {s : SM} {F F' : List Nat} {c : Chip} (h : StoreR B w q p s F) (hc : ChipR B w p c) (ht : Tower B w t' [] F') (hF : q ∉ F') (tb : List (List Ent)) :
    StoreR B (w.setCell ⟨q, 6, none⟩ (.pointer (some ⟨t', 0, none⟩))) q p { s with mem := [], tabs := tb } F' ∧ ChipR B (w.setCell ⟨q, 6, none⟩ (.pointer (some ⟨t', 0, none⟩))) p c ∧ Fr B (· = q) w (w.setCell ⟨q, 6, none⟩ (.pointer (some ⟨t', 0, none⟩))) := by
  have hqp := h.apart hc q (by simp)
  obtain ⟨A1, c1, A2, c2, t, n, hk, hn, ho, _, hB, _⟩ := h
  have hmut : ∃ cs T fz, w.heap[q]? = some (.cells cs T fz) ∧ mutT T = true := ⟨_, _, _, hk, by decide⟩
  have hf : Fr B (· = q) w (w.setCell ⟨q, 6, none⟩ (.pointer (some ⟨t', 0, none⟩))) := (Fr.refl B (· = q) w).setCell (p := ⟨q, 6, none⟩) hB (.inl rfl) (fun _ => hmut) _
  exact ⟨⟨A1, c1, A2, c2, t', n, hk.set_ 6 _, hn.fr hf, ho.fr hf, ht.fr hf (fun b hb e => hF (e ▸ hb)), hB, hF⟩, hc.keep hf (fun e => hqp e.symm), hf⟩
set_option maxRecDepth 20000 in
set_option maxHeartbeats 4000000 in
theorem lay_any (B : Nat) (q p : Nat) (c : Chip) (s : SM) (F : List Nat) (w : World) (h : StoreR B w q p s F) (hc : ChipR B w p c) (hi : Inv c s) :
    Calls Tryz.prog 40 #[.pointer (some ⟨q, 0, none⟩)] w (SPost B q p F w (layM c s)) := by
  have hlt := h.lt
  have hqB := h.base
  have hqp := h.apart hc q (by simp)
  have hml := Fallen.mem_len hi
  have hnl := hi.body.nwl
  have hol := hi.body.odl
  have hat := hi.head.at_
  have hal : s.m.all.length ≤ 9 := by simp [Man.all]; omega
  have hep0 := (fault_zero.1 hi.body.fault).1
  have hep1 := (fault_zero.1 hi.body.fault).2.1
  have hfacts := lay_facts hi
  have HUP := Lib.hid hi.up
  obtain ⟨es, hlog⟩ := hi.body.log
  have HOK := Lib.hid (parts_ok hi.body.mem hlog.fault)
  have hb1 := fun c1 o n => lay_bad1 (c := c) (c1 := c1) (s := s) (o := o) (n := n)
  have hb2 := fun c1 c2 o b n => lay_bad2 (c := c) (c1 := c1) (c2 := c2) (s := s) (o := o) (b := b) (n := n)
  have hb3 := fun c1 c2 c3 s3 o b n => lay_ok (c := c) (c1 := c1) (c2 := c2) (c3 := c3) (s := s) (s3 := s3) (o := o) (b := b) (n := n)
  have HS := Lib.hid h
  have HC := Lib.hid hc
  obtain ⟨A1, c1', A2, c2', t, n, hk, hn, ho, ht, hqF0, hqF⟩ := h
  have HTA := Lib.hid (tall_any B t s.mem F w ht (by omega))
  have x6 := hk.cell 6
  simp at x6
  generalize hT : tablesM s.m.all (parts 14 s.mem) c [] = T at *
  obtain ⟨c1, o, n1⟩ := T
  have HT : Hid (tablesM s.m.all (parts 14 s.mem) c [] = (c1, o, n1)) := hT
  have HFA := Lib.hid (hfacts c1 o n1 rfl)
  have HB1 := Lib.hid (hb1 c1 o n1 rfl)
  have HB2 := Lib.hid (fun c2 b n => hb2 c1 c2 o b n)
  have HB3 := Lib.hid (fun c2 c3 s3 b n => hb3 c1 c2 c3 s3 o b n)
  have HK := Lib.hid (And.intro hk (And.intro hn ho))
  clear hi hc hk hn ho ht hfacts hb1 hb2 hb3 hT hlog
  go_enter Tryz.func40, Tryz.ntmps40
  go_wp2_with fail
  refine HTA.out.mono ?_
  rintro e w1 ⟨v1, rfl, hv1, hw1⟩
  have HV1 := Lib.hid hv1
  have HW1 := Lib.hid hw1
  have HU := Lib.hid (used_any B q p s F w1 (HS.out.below hw1) (by omega) (by omega))
  clear hv1 hw1 HTA x6
  go_wp2_with fail
  refine HU.out.mono ?_
  rintro e w4 ⟨v4, rfl, hu4, hb4⟩
  have HB4 := Lib.hid (HW1.out.trans (hb4.mono HW1.out.size))
  have HTB := Lib.hid (tables_any B q p c s F v1 v4 s.mem s.m.all w4 (HS.out.below HB4.out) (HC.out.below HB4.out) (HV1.out.below hb4) hu4 HUP.out HOK.out (by omega) (by omega))
  rw [HT.out] at HTB
  simp only at HTB
  have HF4 : Hid (Fr B (· ∈ q :: p :: F) w w4) := Fr.of_below HB4.out
  have HS4 := Lib.hid (HS.out.below HB4.out)
  have HC4 := Lib.hid (HC.out.below HB4.out)
  clear hu4 hb4 HU HV1 HW1
  by_cases hn : n1 = 0
  case neg =>
    have he := errV_pos hn
    rw [he] at HTB
    have HE := Lib.hid he
    have HCM := Lib.hid (HB1.out hn)
    clear hn he
    go_wp2_with fail
    refine HTB.out.mono ?_
    rintro e w5 ⟨vo, rfl, ho5, hc5, hf5⟩
    have hs5 := HS4.out.chip HC4.out hf5
    have HFIN : Hid (ChipR B w5 p c1 ∧ StoreR B w5 q p s F ∧ Fr B (· ∈ q :: p :: F) w w5) := ⟨hc5, hs5, HF4.out.trans' hf5 (fun b _ e => by subst e; simp)⟩
    clear ho5 hc5 hf5 hs5 HTB
    go_wp2_with fail
    go_ret
    rw [HCM.out]
    exact ⟨by rw [HE.out]; rfl, HFIN.out.1, ⟨F, HFIN.out.2.1, fun b hb => .inl hb⟩, HFIN.out.2.2⟩
  subst hn
  obtain ⟨hd1, hol3⟩ := HFA.out rfl
  have HD1 := Lib.hid hd1
  rw [show errV 0 = Value.nilIface from rfl] at HTB
  clear hd1 HB1 HFA
  go_wp2_with fail
  refine HTB.out.mono ?_
  rintro e w5 ⟨vo, rfl, ho5, hc5, hf5⟩
  obtain ⟨A5, k5, rfl, _, _, kX⟩ := ho5.form
  have HS5 := Lib.hid (HS4.out.chip HC4.out hf5)
  have HF5 : Hid (Fr B (· ∈ q :: p :: F) w w5) := HF4.out.trans' hf5 (fun b _ e => by subst e; simp)
  have HC5 := Lib.hid hc5
  have HO5 := Lib.hid ho5
  have HK5 : Hid (∀ w', Fr B (· = p) w5 w' → (w'.cell? ⟨q, 0, none⟩ = some (.pointer (some ⟨p, 0, none⟩)) ∧ Fr B (· = p) w5 w')) := by
    intro w' hf
    have hf0 : Fr B (· = p) w w' := ((Fr.of_below HB4.out).trans' hf5 (fun _ _ h => h)).trans' hf (fun _ _ h => h)
    have h0 := (HK.out.1.fr hf0 (.inr (.inl hqp))).cell 0
    simp at h0
    exact ⟨h0, hf⟩
  have HU5 := Lib.hid (used_any B q p s F w5.drew (HS5.out.drewN 1) (by omega) (by omega))
  have HF0 : Hid (Fr B (· = p) w5 w5.drew) := (Fr.refl _ _ _).drewN 1
  clear kX ho5 hc5 hf5 HTB HS4 HC4 HF4 HB4
  generalize hBL : blankM (s.m.all ++ o) c1 = BL at *
  obtain ⟨c2, b2, n2⟩ := BL
  have HBL : Hid (blankM (s.m.all ++ o) c1 = (c2, b2, n2)) := hBL
  have HB2' := Lib.hid (HB2.out c2 b2 n2)
  clear hBL
  by_cases hn2 : n2 = 0
  case neg =>
    have he := errV_pos hn2
    have HE := Lib.hid he
    have HCM := Lib.hid (HB2'.out trivial rfl hn2)
    clear he hn2
    go_wp2_with fail
    go_region_held3 (fun w' => (w'.cell? ⟨q, 0, none⟩ = some (.pointer (some ⟨p, 0, none⟩)) ∧ Fr B (· = p) w5 w'))
      ((first
        | exact HK5.out _ hF8
        | exact HK5.out _ hF7
        | exact HK5.out _ (Fr.alloc hF6 _)
        | exact HK5.out _ hF6
        | exact HK5.out _ HF0.out))
      ((first
        | (go_at_call 44; refine HU5.out.mono ?_; rintro e w6 ⟨v6, rfl, hu6, hb6⟩; obtain ⟨A6, k6, rfl, _, _, kX⟩ := hu6.form; have hF6 : Fr B (· = p) w5 w6 := HF0.out.trans' (Fr.of_below (B := B) (M := (· = p)) hb6) (fun _ _ h => h))
        | (go_at_call 25; refine (concat_rd B w6.heap.size _ _ s.m.all o _ (Blk.new w6 _ _) (hu6.below ((Below.refl _ _).alloc (Nat.le_refl _) _)) ((HO5.out.fr hF6).below ((Below.refl _ _).alloc (Nat.le_refl _) _)) (by omega) (by omega)).mono ?_; rintro e w7 ⟨v7, rfl, hu7, hb7⟩; have hF7 : Fr B (· = p) w5 w7 := (Fr.alloc hF6 _).trans' (Fr.of_below (B := B) (M := (· = p)) hb7) (fun _ _ h => h))
        | (go_at_call 56; refine (blank_any B p c1 v7 (s.m.all ++ o) w7 ((((HC5.out.drewN 1).below hb6).below ((Below.refl _ _).alloc (Nat.le_refl _) _)).below hb7) hu7 HD1.out).mono ?_; rw [HBL.out]; rintro e w8 ⟨rfl, hc8, hf8⟩; rw [HE.out]; have hF8 : Fr B (· = p) w5 w8 := hF7.trans' hf8 (fun _ _ h => h))))
    have HFIN : Hid (ChipR B w8 p c2 ∧ StoreR B w8 q p s F ∧ Fr B (· ∈ q :: p :: F) w w8) := ⟨hc8, HS5.out.chip HC5.out hF8, HF5.out.trans' hF8 (fun b _ e => by subst e; simp)⟩
    clear hc8 hf8 hF8 hF7 hF6 hb7 hb6 hu6 hu7
    go_wp2_with fail
    go_ret
    rw [HCM.out]
    exact ⟨by rw [HE.out]; rfl, HFIN.out.1, ⟨F, HFIN.out.2.1, fun b hb => .inl hb⟩, HFIN.out.2.2⟩
  subst hn2
  go_wp2_with fail
  go_region_held3 (fun w' => (w'.cell? ⟨q, 0, none⟩ = some (.pointer (some ⟨p, 0, none⟩)) ∧ Fr B (· = p) w5 w'))
    ((first
      | exact HK5.out _ hF8
      | exact HK5.out _ hF7
      | exact HK5.out _ (Fr.alloc hF6 _)
      | exact HK5.out _ hF6
      | exact HK5.out _ HF0.out))
    ((first
      | (go_at_call 44; refine HU5.out.mono ?_; rintro e w6 ⟨v6, rfl, hu6, hb6⟩; obtain ⟨A6, k6, rfl, _, _, kX⟩ := hu6.form; have hF6 : Fr B (· = p) w5 w6 := HF0.out.trans' (Fr.of_below (B := B) (M := (· = p)) hb6) (fun _ _ h => h))
      | (go_at_call 25; refine (concat_rd B w6.heap.size _ _ s.m.all o _ (Blk.new w6 _ _) (hu6.below ((Below.refl _ _).alloc (Nat.le_refl _) _)) ((HO5.out.fr hF6).below ((Below.refl _ _).alloc (Nat.le_refl _) _)) (by omega) (by omega)).mono ?_; rintro e w7 ⟨v7, rfl, hu7, hb7⟩; have hF7 : Fr B (· = p) w5 w7 := (Fr.alloc hF6 _).trans' (Fr.of_below (B := B) (M := (· = p)) hb7) (fun _ _ h => h))
      | (go_at_call 56; refine (blank_any B p c1 v7 (s.m.all ++ o) w7 ((((HC5.out.drewN 1).below hb6).below ((Below.refl _ _).alloc (Nat.le_refl _) _)).below hb7) hu7 HD1.out).mono ?_; rw [HBL.out]; rintro e w8 ⟨rfl, hc8, hf8⟩; rw [show errV 0 = Value.nilIface from rfl]; have hF8 : Fr B (· = p) w5 w8 := hF7.trans' hf8 (fun _ _ h => h))))
  have HS8 := Lib.hid (HS5.out.chip HC5.out hF8)
  have HC8 := Lib.hid hc8
  have HF8 : Hid (Fr B (· ∈ q :: p :: F) w w8) := HF5.out.trans' hF8 (fun b _ e => by subst e; simp)
  have HO8 := Lib.hid (HO5.out.fr hF8)
  clear hc8 hf8 hF8 hF7 hF6 hb7 hb6 hu6 hu7 HK5 HU5 HF0 HF5 HC5 HO5 HS5 HK
  obtain ⟨A1, c1', A2, c2', t, n, hk8, hn8, ho8, _, _, _⟩ := HS8.out
  have x3 := hk8.cell 3
  have x4 := hk8.cell 4
  simp at x3 x4
  have hq8 := hk8.lt
  have HN8 := Lib.hid hn8
  have HO8' := Lib.hid ho8
  have HX8 : Hid (∀ W, Below w8.heap.size w8 W → q < W.heap.size ∧ W.cell? ⟨q, 3, none⟩ = some (.slice A1 s.m.nw.length c1') ∧ W.cell? ⟨q, 4, none⟩ = some (.slice A2 s.m.od.length c2')) := by
    intro W hW
    have h := hk8.below hW hk8.lt
    have y3 := h.cell 3
    have y4 := h.cell 4
    simp at y3 y4
    exact ⟨h.lt, y3, y4⟩
  clear hk8 hn8 ho8
  have HB8 : Hid (Below w8.heap.size w8 (w8.alloc (.cells #[.slice A5 o.length k5, .slice A1 s.m.nw.length c1'] 57)).drew) := ((Below.refl _ _).alloc (Nat.le_refl _) _).drew
  have HCC := Lib.hid (concat_rd B w8.heap.size (.slice A5 o.length k5) (.slice A1 s.m.nw.length c1') o s.m.nw (w8.alloc (.cells #[.slice A5 o.length k5, .slice A1 s.m.nw.length c1'] 57)).drew ((Blk.new w8 57 #[.slice A5 o.length k5, .slice A1 s.m.nw.length c1']).drewN 1) (HO8.out.below HB8.out) (HN8.out.below HB8.out) (by omega) (by omega))
  generalize hN : noteM c2 s ⟨0, b2, o ++ s.m.nw, s.m.od⟩ = N at *
  obtain ⟨c3, s3, n3⟩ := N
  have HN : Hid (noteM c2 s ⟨0, b2, o ++ s.m.nw, s.m.od⟩ = (c3, s3, n3)) := hN
  have HCM := Lib.hid (HB3.out c2 c3 s3 b2 n3 trivial rfl HN.out)
  have hle : (o ++ s.m.nw).length = o.length + s.m.nw.length := List.length_append
  have HLE := Lib.hid hle
  have HL2 : Hid ((o ++ s.m.nw).length ≤ 1000 ∧ s.m.od.length ≤ 1000 ∧ 0 ≤ s.m.ep ∧ s.m.ep ≤ 1000000) := ⟨by omega, by omega, by omega, by omega⟩
  clear hN hle
  by_cases hn3 : n3 = 0
  · subst hn3
    go_wp2_with fail
    go_region_with (first
      | (go_at_call 25; refine HCC.out.mono ?_; rintro e w9 ⟨v9, rfl, hu9, hb9⟩; obtain ⟨A9, k9, rfl, _, _, kX⟩ := hu9.form; obtain ⟨hl9, z3, z4⟩ := HX8.out w9 (HB8.out.trans (hb9.mono HB8.out.size)); rw [HLE.out] at hu9 ⊢)
      | (go_at_call 45; refine (snote_any B q p c2 s F _ ⟨0, b2, o ++ s.m.nw, s.m.od⟩ w9 (HS8.out.below (HB8.out.trans (hb9.mono HB8.out.size))) (HC8.out.below (HB8.out.trans (hb9.mono HB8.out.size))) ⟨_, _, rfl, hu9, HO8'.out.below (HB8.out.trans (hb9.mono HB8.out.size))⟩ HL2.out.1 HL2.out.2.1 hat HL2.out.2.2.1 HL2.out.2.2.2).mono ?_; rw [HN.out]; rintro e w10 ⟨rfl, hc10, hs10, hf10⟩; rw [show errV 0 = Value.nilIface from rfl]))
    all_goals
      have HS10 := Lib.hid hs10
      have HC10 := Lib.hid hc10
      have hw9 := HB8.out.trans (hb9.mono HB8.out.size)
      have HF10 : Hid (Fr B (· ∈ q :: p :: F) w w10) := (HF8.out.trans' (Fr.of_below (B := B) (M := (· ∈ q :: p :: F)) hw9) (fun _ _ h => h)).trans' hf10 (fun b _ e => by rcases e with rfl | rfl <;> simp)
      clear hs10 hc10 hf10 hu9 hb9 kX z3 z4 hl9 hw9
      have HTN := Lib.hid (tnew_any B w10 (Nat.le_of_lt (Nat.lt_of_le_of_lt HS10.out.base HS10.out.lt)))
      go_wp2_with fail
      refine HTN.out.mono ?_
      rintro e w11 ⟨⟨rfl, ht11⟩, hb11⟩
      have hs11 := HS10.out.below hb11
      have hc11 := HC10.out.below hb11
      have HQ : Hid (q ∉ [w10.heap.size]) := fun hm => by have h1 := HS10.out.lt; rw [List.mem_singleton] at hm; omega
      have HFS := Lib.hid (store_mem hs11 hc11 ht11 HQ.out (parts 14 s.mem ++ s.tabs))
      have HF11 : Hid (Fr B (· ∈ q :: p :: F) w w11) := HF10.out.trans' (Fr.of_below (B := B) (M := (· ∈ q :: p :: F)) hb11) (fun _ _ h => h)
      obtain ⟨A7, c7, A8, c8, t7, n7, hk11, _⟩ := hs11
      have y6 := hk11.cell 6
      have f6 := hk11.frozen 6
      simp at y6
      have HW10 : Hid (w.heap.size ≤ w10.heap.size) := HF10.out.size
      clear hk11 hc11 ht11 hb11 HTN
      go_wp2_with fail
      go_ret
      rw [HCM.out]
      exact ⟨rfl, HFS.out.2.1, ⟨_, HFS.out.1, fun b hb => by simp at hb; subst hb; exact .inr HW10.out⟩, HF11.out.trans' HFS.out.2.2 (fun b _ e => by subst e; simp)⟩
  · have he := errV_pos hn3
    have HE := Lib.hid he
    clear he
    go_wp2_with fail
    go_region_with (first
      | (go_at_call 25; refine HCC.out.mono ?_; rintro e w9 ⟨v9, rfl, hu9, hb9⟩; obtain ⟨A9, k9, rfl, _, _, kX⟩ := hu9.form; obtain ⟨hl9, z3, z4⟩ := HX8.out w9 (HB8.out.trans (hb9.mono HB8.out.size)); rw [HLE.out] at hu9 ⊢)
      | (go_at_call 45; refine (snote_any B q p c2 s F _ ⟨0, b2, o ++ s.m.nw, s.m.od⟩ w9 (HS8.out.below (HB8.out.trans (hb9.mono HB8.out.size))) (HC8.out.below (HB8.out.trans (hb9.mono HB8.out.size))) ⟨_, _, rfl, hu9, HO8'.out.below (HB8.out.trans (hb9.mono HB8.out.size))⟩ HL2.out.1 HL2.out.2.1 hat HL2.out.2.2.1 HL2.out.2.2.2).mono ?_; rw [HN.out]; rintro e w10 ⟨rfl, hc10, hs10, hf10⟩; rw [HE.out]))
    all_goals
      have HS10 := Lib.hid hs10
      have HC10 := Lib.hid hc10
      have hw9 := HB8.out.trans (hb9.mono HB8.out.size)
      have HF10 : Hid (Fr B (· ∈ q :: p :: F) w w10) := (HF8.out.trans' (Fr.of_below (B := B) (M := (· ∈ q :: p :: F)) hw9) (fun _ _ h => h)).trans' hf10 (fun b _ e => by rcases e with rfl | rfl <;> simp)
      clear hs10 hc10 hf10 hu9 hb9 kX z3 z4 hl9 hw9
      have HN3 := Lib.hid hn3
      clear hn3
      go_wp2_with fail
      go_ret
      rw [HCM.out]
      refine ⟨by rw [HE.out]; rfl, HC10.out, ⟨F, ?_, fun b hb => .inl hb⟩, HF10.out⟩
      simp only
      rw [if_neg HN3.out]
      exact HS10.out
end Go.Proofs.YtaepdbkfaoiimabGreat
/- The contracts of store.Flush, Check, room. Conditions: the store is sound. -/
set_option linter.unusedVariables false
set_option linter.unusedSimpArgs false
namespace Go.Proofs.YtaepdbkfaoiimabGreat
open Go.RowKit
attribute [local go_sem ↓] eql_err eql_nilerr neq_err neq_nilerr guard_err guard_nilerr guardn_err guardn_nilerr
theorem SPost.step {B q p : Nat} {F F1 : List Nat} {w w1 w2 : World} {r : Chip × SM × Nat} {e : Ending} (hf : Fr B (· ∈ q :: p :: F) w w1) (hF : ∀ b ∈ F1, b ∈ F ∨ w.heap.size ≤ b) (h : SPost B q p F1 w1 r e w2) : SPost B q p F w r e w2 := by
  obtain ⟨he, hc, ⟨F2, hs, hF2⟩, hf2⟩ := h
  refine ⟨he, hc, ⟨F2, hs, fun b hb => (hF2 b hb).elim (hF b) (fun h => .inr (Nat.le_trans hf.size h))⟩, hf.trans' hf2 (fun b hb hm => ?_)⟩
  rcases List.mem_cons.1 hm with rfl | hm
  · simp
  · rcases List.mem_cons.1 hm with rfl | hm
    · simp
    · rcases hF b hm with h | h
      · simp [h]
      · omega
theorem flush_1 {c c1 : Chip} {s s1 : SM} {n : Nat} (h : fewM c s = (c1, s1, n)) (hn : n ≠ 0) : flushM c s = (c1, s1, n) := by
  unfold flushM
  rw [h]
  simp only
  rw [if_pos hn]
theorem flush_2 {c c1 c2 : Chip} {s s1 s2 : SM} {n : Nat} (h : fewM c s = (c1, s1, 0)) (h2 : layM c1 s1 = (c2, s2, n)) (hn : n ≠ 0) : flushM c s = (c2, s2, n) := by
  unfold flushM
  rw [h]
  simp only
  rw [if_neg (by simp), h2]
  simp only
  rw [if_pos hn]
theorem flush_3 {c c1 c2 : Chip} {s s1 s2 : SM} (h : fewM c s = (c1, s1, 0)) (h2 : layM c1 s1 = (c2, s2, 0)) : flushM c s = fewM c2 s2 := by
  unfold flushM
  rw [h]
  simp only
  rw [if_neg (by simp), h2]
  simp only
  rw [if_neg (by simp)]
set_option maxRecDepth 20000 in
set_option maxHeartbeats 4000000 in
theorem flush_any (B : Nat) (q p : Nat) (c : Chip) (s : SM) (F : List Nat) (w : World) (h : StoreR B w q p s F) (hc : ChipR B w p c) (hi : Inv c s) (hep : s.m.ep + 3 ≤ 100000) :
    Calls Tryz.prog 15 #[.pointer (some ⟨q, 0, none⟩)] w (SPost B q p F w (flushM c s)) := by
  obtain ⟨c1, s1, n1, e1, _, g1⟩ := few_calm hi (by omega)
  have h1 := few_any B q p c s F w h hc hi
  rw [e1] at h1
  have hx1 := flush_1 e1
  have hx2 := fun c2 s2 n => flush_2 (c := c) (c1 := c1) (c2 := c2) (s := s) (s1 := s1) (s2 := s2) (n := n)
  have hx3 := fun c2 s2 => flush_3 (c := c) (c1 := c1) (c2 := c2) (s := s) (s1 := s1) (s2 := s2)
  by_cases hn : n1 = 0
  case neg =>
    have HE := Lib.hid (errV_pos hn)
    have HX := Lib.hid (hx1 hn)
    have H1 := Lib.hid h1
    clear hx1 hx2 hx3 hn h1 g1 e1 hi h hc
    go_enter Tryz.func15, Tryz.ntmps15
    go_wp2_with fail
    refine H1.out.mono ?_
    rintro e w1 ⟨rfl, hr⟩
    have HR := Lib.hid hr
    clear hr H1
    simp only
    rw [HE.out]
    go_wp2_with fail
    go_ret
    rw [HX.out]
    exact ⟨by rw [HE.out]; rfl, HR.out⟩
  subst hn
  rcases g1 with ⟨_, hi1, hrw1, hep1, hep2, _, _, hnw1, _⟩ | ⟨h9, _⟩
  case inr => omega
  obtain ⟨c2, s2, n2, e2, _, g2⟩ := lay_calm hi1 (by omega) hnw1
  have HL := Lib.hid (fun w F h hc => lay_any B q p c1 s1 F w h hc hi1)
  rw [e2] at HL
  have H1 := Lib.hid h1
  by_cases hn2 : n2 = 0
  case neg =>
    have HE := Lib.hid (errV_pos hn2)
    have HX := Lib.hid (hx2 c2 s2 n2 e1 e2 hn2)
    clear hx1 hx2 hx3 hn2 h1 g2 e1 e2 hi hi1 h hc
    go_enter Tryz.func15, Tryz.ntmps15
    go_wp2_with fail
    refine H1.out.mono ?_
    rintro e w1 ⟨rfl, hc1, ⟨F1, hs1, hF1⟩, hf1⟩
    have HF1 := Lib.hid (And.intro hf1 hF1)
    have HL1 := Lib.hid (HL.out w1 F1 hs1 hc1)
    clear hc1 hs1 hF1 hf1 H1 HL
    simp only
    rw [show errV 0 = Value.nilIface from rfl]
    go_wp2_with fail
    refine HL1.out.mono ?_
    rintro e w2 ⟨rfl, hr⟩
    have HR := Lib.hid hr
    clear hr HL1
    simp only
    rw [HE.out]
    go_wp2_with fail
    go_ret
    rw [HX.out]
    exact SPost.step HF1.out.1 HF1.out.2 ⟨by rw [HE.out]; rfl, HR.out⟩
  subst hn2
  rcases g2 with ⟨_, hi2, hrw2, hep3, _⟩ | ⟨h9, _⟩
  case inr => omega
  have HX := Lib.hid (hx3 c2 s2 e1 e2)
  have HW := Lib.hid (fun w F h hc => few_any B q p c2 s2 F w h hc hi2)
  clear hx1 hx2 hx3 h1 e1 e2 hi hi1 hi2 h hc
  go_enter Tryz.func15, Tryz.ntmps15
  go_wp2_with fail
  refine H1.out.mono ?_
  rintro e w1 ⟨rfl, hc1, ⟨F1, hs1, hF1⟩, hf1⟩
  have HF1 := Lib.hid (And.intro hf1 hF1)
  have HL1 := Lib.hid (HL.out w1 F1 hs1 hc1)
  clear hc1 hs1 hF1 hf1 H1 HL
  simp only
  rw [show errV 0 = Value.nilIface from rfl]
  go_wp2_with fail
  refine HL1.out.mono ?_
  rintro e w2 ⟨rfl, hc2, ⟨F2, hs2, hF2⟩, hf2⟩
  have HF2 := Lib.hid (And.intro hf2 hF2)
  have HW2 := Lib.hid (HW.out w2 F2 hs2 hc2)
  clear hc2 hs2 hF2 hf2 HL1 HW
  simp only
  rw [show errV 0 = Value.nilIface from rfl]
  go_wp2_with fail
  refine HW2.out.mono ?_
  rintro e w3 ⟨rfl, hr⟩
  have HR := Lib.hid hr
  clear hr HW2
  go_wp2_with fail
  go_ret
  rw [HX.out]
  exact SPost.step HF1.out.1 HF1.out.2 (SPost.step HF2.out.1 HF2.out.2 ⟨rfl, HR.out⟩)
set_option maxRecDepth 20000 in
set_option maxHeartbeats 4000000 in
theorem room_any (B : Nat) (q p : Nat) (c : Chip) (s : SM) (F : List Nat) (w : World) (h : StoreR B w q p s F) (hc : ChipR B w p c) (hi : Inv c s) (hep : s.m.ep + 3 ≤ 100000) :
    Calls Tryz.prog 37 #[.pointer (some ⟨q, 0, none⟩)] w (SPost B q p F w (roomM c s)) := by
  have hrg := hi.body.rng s.m.log (by simp [Man.all])
  have HNX := Lib.hid (next_any B p c s.m.log w.drew (hc.drewN 1) (by omega) (by omega))
  have HFL := Lib.hid (flush_any B q p c s F w.drew (h.drewN 1) (hc.drewN 1) hi hep)
  have HRE : Hid (SPost B q p F w (c, s, 0) (.returned .nilIface) w.drew) := ⟨rfl, hc.drewN 1, ⟨F, h.drewN 1, fun b hb => .inl hb⟩, (Fr.refl _ _ _).drewN 1⟩
  obtain ⟨A1, c1, A2, c2, t, n, hk, _⟩ := h
  have x0 := hk.cell 0
  have x2 := hk.cell 2
  simp at x0 x2
  have HS : Hid (w.drew.cell? ⟨q, 0, none⟩ = some (.pointer (some ⟨p, 0, none⟩)) ∧ w.drew.cell? ⟨q, 2, none⟩ = some (.int .i64 s.m.log)) := ⟨x0, x2⟩
  have HF0 : Hid (Fr B (· ∈ q :: p :: F) w w.drew) := (Fr.refl _ _ _).drewN 1
  clear hk hc hi
  by_cases h8 : (c.b s.m.log.toNat).l.length < 8
  · have HR : Hid (roomM c s = (c, s, 0)) := if_pos h8
    have t13 : decide (((c.b s.m.log.toNat).l.length : Int) < 8) = true := decide_eq_true (by omega)
    clear h8 HFL
    go_enter Tryz.func37, Tryz.ntmps37
    go_wp2_with fail
    go_region_held3 (fun w' => w'.cell? ⟨q, 0, none⟩ = some (.pointer (some ⟨p, 0, none⟩)) ∧ w'.cell? ⟨q, 2, none⟩ = some (.int .i64 s.m.log))
      ((first | exact HS.out | assumption))
      ((first | (go_at_call 27; refine HNX.out.mono ?_; rintro e w2 ⟨rfl, rfl⟩)))
    go_wp2_with fail
    go_ret
    rw [HR.out]
    exact HRE.out
  · have HR : Hid (roomM c s = flushM c s) := if_neg h8
    have t13 : decide (((c.b s.m.log.toNat).l.length : Int) < 8) = false := decide_eq_false (by omega)
    clear h8 HRE
    go_enter Tryz.func37, Tryz.ntmps37
    go_wp2_with fail
    go_region_held3 (fun w' => w'.cell? ⟨q, 0, none⟩ = some (.pointer (some ⟨p, 0, none⟩)) ∧ w'.cell? ⟨q, 2, none⟩ = some (.int .i64 s.m.log))
      ((first | exact HS.out | assumption))
      ((first | (go_at_call 27; refine HNX.out.mono ?_; rintro e w2 ⟨rfl, rfl⟩)))
    go_wp2_with fail
    refine HFL.out.mono ?_
    rintro e w1 ⟨rfl, hr⟩
    have HRR := Lib.hid hr
    clear hr HFL
    go_wp2_with fail
    go_ret
    rw [HR.out]
    exact SPost.step HF0.out (fun b hb => .inl hb) ⟨rfl, HRR.out⟩
end Go.Proofs.YtaepdbkfaoiimabGreat
/- The contract of store.Check. Conditions: the store is sound. -/
set_option linter.unusedVariables false
set_option linter.unusedSimpArgs false
namespace Go.Proofs.YtaepdbkfaoiimabGreat
open Go.RowKit
attribute [local go_sem ↓] eql_err eql_nilerr neq_err neq_nilerr guard_err guard_nilerr guardn_err guardn_nilerr
theorem rows_rise {c : Chip} {s : SM} (h : Inv c s) : Rises s.rows := by
  unfold SM.rows rowsOf
  exact rises_live (rises_mergeAll (fun l hl => by
    rcases List.mem_cons.1 hl with rfl | hl
    · exact h.body.mem
    · exact h.body.tab l hl))
set_option maxRecDepth 20000 in
set_option maxHeartbeats 4000000 in
theorem scheck_any (B : Nat) (q p : Nat) (c : Chip) (s : SM) (F : List Nat) (v : Value) (l : List Ent) (w : World) (h : StoreR B w q p s F) (hc : ChipR B w p c) (hi : Inv c s) (hl : Ents B w v l) :
    Calls Tryz.prog 11 #[.pointer (some ⟨q, 0, none⟩), v] w fun e w' => e = .returned (errV (checkM s l)) ∧ Below w.heap.size w w' := by
  obtain ⟨A, cp, rfl, hc1, hc2, _⟩ := hl.form
  have HL := Lib.hid hl
  by_cases hn : l.length = 0 ∨ 4 < l.length
  · have HF : Hid (checkM s l = 2) := if_pos hn
    clear h hc hi hl
    by_cases h0 : l.length = 0
    · have t12 : ((l.length : Int) == 0) = true := by rw [beq_iff_eq]; omega
      clear hn
      go_enter Tryz.func11, Tryz.ntmps11
      go_wp2_with fail
      go_ret
      exact ⟨by rw [HF.out]; rfl, Below.refl _ _⟩
    · have t12 : ((l.length : Int) == 0) = false := by rw [beq_eq_false_iff_ne]; omega
      have t16 : decide ((4 : Int) < (l.length : Int)) = true := decide_eq_true (by omega)
      clear hn
      go_enter Tryz.func11, Tryz.ntmps11
      go_wp2_with fail
      go_ret
      exact ⟨by rw [HF.out]; rfl, Below.refl _ _⟩
  have HC0 : Hid (checkM s l = if bytesF l ≠ 0 then bytesF l else if 40 < (liveE (l.foldl putE s.rows)).length then 8 else 0) := if_neg hn
  have t12 : ((l.length : Int) == 0) = false := by rw [beq_eq_false_iff_ne]; omega
  have t16 : decide ((4 : Int) < (l.length : Int)) = false := decide_eq_false (by omega)
  have hl4 : l.length ≤ 4 := by omega
  have HBY := Lib.hid (bytes_any B _ l w hl (by omega))
  clear hn
  by_cases hb : bytesF l = 0
  case neg =>
    have HF : Hid (checkM s l = bytesF l) := by rw [Hid, HC0.out, if_pos hb]
    have he : errV (bytesF l) = .iface 68 (.int .i64 (bytesF l)) := if_neg hb
    have HE := Lib.hid he
    rw [he] at HBY
    clear h hc hi hl hb he HC0
    go_enter Tryz.func11, Tryz.ntmps11
    go_wp2_with fail
    refine HBY.out.mono ?_
    rintro e w1 ⟨rfl, hb1⟩
    go_wp2_with fail
    go_ret
    exact ⟨by rw [HF.out, HE.out]; rfl, hb1⟩
  have HF0 : Hid (checkM s l = if 40 < (liveE (l.foldl putE s.rows)).length then 8 else 0) := by rw [Hid, HC0.out, if_neg (by simp [hb])]
  rw [hb, show errV 0 = Value.nilIface from rfl] at HBY
  have HRI := Lib.hid (rows_rise hi)
  have hrl := hi.body.rows
  have HRO := Lib.hid (fun W (hW : Below w.heap.size w W) => srows_any B q p c s F W (h.below hW) (hc.below hW) hi)
  clear h hc hi hl hb HC0
  go_enter Tryz.func11, Tryz.ntmps11
  go_wp2_with fail
  refine HBY.out.mono ?_
  rintro e w1 ⟨rfl, hb1⟩
  have HB1 := Lib.hid hb1
  have HR1 := Lib.hid (HRO.out w1 hb1)
  clear hb1 HBY HRO
  go_wp2_with fail
  refine HR1.out.mono ?_
  rintro e w2 ⟨v2, rfl, hv2, hb2⟩
  have HV2 := Lib.hid hv2
  have HB2 := Lib.hid (HB1.out.trans (hb2.mono HB1.out.size))
  clear hv2 hb2 HR1 HB1
  generalize s.rows = rws at *
  go_wp2_with fail
  go_loopw [7, 37] (fun u i wr => ∃ k : Nat, i = .int .i64 (k : Int) ∧ k ≤ l.length ∧ Hid (Ents B wr u ((l.take k).foldl putE rws)) ∧ Hid (Below w.heap.size w wr)) (fun _ i _ => l.length - (intOf i).toNat)
  case atStart => exact ⟨0, rfl, Nat.zero_le _, HV2.out, HB2.out⟩
  case round =>
    obtain ⟨k, rfl, hk, hu, hbl⟩ := hrel
    by_cases hlt : k < l.length
    · obtain ⟨y, hy, hty, _⟩ := getElem?_of_lt hlt
      obtain ⟨A', cp', e, _, _, hcell⟩ := (HL.out.below hbl.out).form
      cases e
      obtain ⟨bb, oo, rfl, hbb, y1, y2, y3⟩ := hcell k y hy
      have hyok := HL.out.2 y (List.mem_of_getElem? hy)
      have hnext : (l.take (k + 1)).foldl putE rws = merge2 [y] ((l.take k).foldl putE rws) := by
        rw [hty, List.foldl_append]
        show putE _ y = _
        exact putE_eq y _ (rises_puts _ HRI.out)
      have HNX := Lib.hid hnext
      have hal : ((l.take k).foldl putE rws).length ≤ 1000000 := by
        have h1 := puts_len (l.take k) rws
        have h2 : (l.take k).length ≤ l.length := List.length_take_le' _ _
        omega
      have h1 : Ents B ((wr.alloc (.cells #[.string y.k, .string y.v, .bool y.g] 49)).alloc (.cells #[.string y.k, .string y.v, .bool y.g] 49)) (.slice (some ⟨wr.heap.size + 1, 0, none⟩) 1 1) [y] :=
        ⟨rd_lit3 B (wr.alloc (.cells #[.string y.k, .string y.v, .bool y.g] 49)) _ (World.size_alloc _ _) y.k y.v y.g, fun e he => by simp at he; subst he; exact hyok⟩
      have hb2 : Below wr.heap.size wr ((wr.alloc (.cells #[.string y.k, .string y.v, .bool y.g] 49)).alloc (.cells #[.string y.k, .string y.v, .bool y.g] 49)) := ((Below.refl _ _).alloc (Nat.le_refl _) _).alloc (by simp) _
      have HTW := Lib.hid (two_any B _ u7 [y] ((l.take k).foldl putE rws) _ h1 (hu.out.below hb2) (by simp) hal)
      have HB3 : Hid (Below w.heap.size w ((wr.alloc (.cells #[.string y.k, .string y.v, .bool y.g] 49)).alloc (.cells #[.string y.k, .string y.v, .bool y.g] 49))) := hbl.out.trans (hb2.mono hbl.out.size)
      have g1 : (0 : Int) ≤ (k : Int) := by omega
      have g2 : (k : Int) < (l.length : Int) := by omega
      clear h1 hb2 hnext hcell hy hty hyok
      go_wp2_with fail
      refine HTW.out.mono ?_
      rintro e w5 ⟨v5, rfl, hv5, hb5⟩
      rw [← HNX.out] at hv5
      have HV5 := Lib.hid hv5
      have HB5 := Lib.hid (HB3.out.trans (hb5.mono HB3.out.size))
      clear hv5 hb5 HTW
      go_wp2_with fail
      go_roundw
      case rel => exact ⟨k + 1, by go_num, by omega, HV5.out, HB5.out⟩
      case measure => simp [intOf] <;> omega
    · obtain rfl : k = l.length := by omega
      have g2 : decide ((l.length : Int) < (l.length : Int)) = false := by simp
      rw [List.take_length] at hu
      have hal := puts_len l rws
      generalize l.foldl putE rws = R at *
      have HLV := Lib.hid (live_any B u7 R wr hu.out (by omega))
      by_cases h40 : 40 < (liveE R).length
      · have t49 : decide ((40 : Int) < ((liveE R).length : Int)) = true := decide_eq_true (by omega)
        have HF : Hid (checkM s l = 8) := by rw [Hid, HF0.out, if_pos h40]
        clear h40
        go_wp2_with fail
        refine HLV.out.mono ?_
        rintro e w5 ⟨v5, rfl, hv5, hb5⟩
        obtain ⟨A5, c5, rfl, _, _, kX⟩ := hv5.form
        have HB5 := Lib.hid (hbl.out.trans (hb5.mono hbl.out.size))
        clear hv5 hb5 kX HLV
        go_wp2_with fail
        go_ret
        exact ⟨by rw [HF.out]; rfl, HB5.out⟩
      · have t49 : decide ((40 : Int) < ((liveE R).length : Int)) = false := decide_eq_false (by omega)
        have HF : Hid (checkM s l = 0) := by rw [Hid, HF0.out, if_neg h40]
        clear h40
        go_wp2_with fail
        refine HLV.out.mono ?_
        rintro e w5 ⟨v5, rfl, hv5, hb5⟩
        obtain ⟨A5, c5, rfl, _, _, kX⟩ := hv5.form
        have HB5 := Lib.hid (hbl.out.trans (hb5.mono hbl.out.size))
        clear hv5 hb5 kX HLV
        go_wp2_with fail
        go_ret
        exact ⟨by rw [HF.out]; rfl, HB5.out⟩
end Go.Proofs.YtaepdbkfaoiimabGreat
/- The contract of store.Write. Conditions: the store is sound. -/
set_option linter.unusedVariables false
set_option linter.unusedSimpArgs false
namespace Go.Proofs.YtaepdbkfaoiimabGreat
open Go.RowKit
attribute [local go_sem ↓] eql_err eql_nilerr neq_err neq_nilerr guard_err guard_nilerr guardn_err guardn_nilerr
theorem write_bad {c : Chip} {s : SM} {l : List Ent} (h : checkM s l ≠ 0) : writeM c s l = (c, s, checkM s l) := if_pos h
theorem write_log {c c' : Chip} {s s' : SM} {l : List Ent} {n : Nat} (h : checkM s l = 0) (hl : logM (bytesL l.length l) 2 c s = (c', s', n)) : writeM c s l = (c', if n = 0 then { s' with mem := l.foldl putE s'.mem } else s', n) := by
  unfold writeM
  rw [if_neg (by simp [h]), hl]
  simp only
  by_cases hn : n = 0
  · subst hn; rw [if_pos rfl, if_pos rfl]
  · rw [if_neg hn, if_neg hn]
theorem write_nine {c c' : Chip} {s s' : SM} {l : List Ent} (h : checkM s l = 0) (hl : logM (bytesL l.length l) 2 c s = (c', s', 9)) : writeM c s l = (c', s', 9) := write_log h hl
theorem write_zero {c c' : Chip} {s s' : SM} {l : List Ent} (h : checkM s l = 0) (hl : logM (bytesL l.length l) 2 c s = (c', s', 0)) : writeM c s l = (c', { s' with mem := l.foldl putE s'.mem }, 0) := write_log h hl
/-- What lies where, while Write tries its block. -/
structure WrS (B q p : Nat) (F : List Nat) (w : World) (l : List Ent) (c0 : Chip) (s0 : SM) (g : Nat) (c : Chip) (s : SM) (F' : List Nat) (W : World) : Prop where
  st : StoreR B W q p s F'
  ch : ChipR B W p c
  fr : Fr B (· ∈ q :: p :: F) w W
  new : ∀ b ∈ F', b ∈ F ∨ w.heap.size ≤ b
  inv : Inv c s
  log : logM (bytesL l.length l) g c s = logM (bytesL l.length l) 2 c0 s0
  rows : s.rows = s0.rows
  ep : g = 2 ∧ s.m.ep ≤ s0.m.ep ∨ g = 1 ∧ s.m.ep ≤ s0.m.ep + 6 ∧ (c.b s.m.log.toNat).weak = false
theorem WrS.post {B q p : Nat} {F : List Nat} {w W W1 : World} {l : List Ent} {c0 c c1 : Chip} {s0 s s1 : SM} {g : Nat} {F' : List Nat} (h : WrS B q p F w l c0 s0 g c s F' W) {n : Nat} {e : Ending} (hp : SPost B q p F' W (c1, s1, n) e W1) : SPost B q p F w (c1, s1, n) e W1 := SPost.step h.fr h.new hp
set_option maxRecDepth 20000 in
set_option maxHeartbeats 8000000 in
theorem write_any (B : Nat) (q p : Nat) (c : Chip) (s : SM) (F : List Nat) (v : Value) (l : List Ent) (w : World) (h : StoreR B w q p s F) (hc : ChipR B w p c) (hi : Inv c s) (hl : Ents B w v l) (hep : s.m.ep + 9 ≤ 100000) :
    Calls Tryz.prog 13 #[.pointer (some ⟨q, 0, none⟩), v] w (SPost B q p F w (writeM c s l)) := by
  have hck := scheck_any B q p c s F v l w h hc hi hl
  have hB0 : B ≤ w.heap.size := Nat.le_of_lt (Nat.lt_of_le_of_lt h.base h.lt)
  have hqp := h.apart hc q (by simp)
  obtain ⟨A, cp, rfl, hc1, hc2, _⟩ := hl.form
  by_cases hn : checkM s l = 0
  case neg =>
    have HX := Lib.hid (write_bad (c := c) hn)
    have HE := Lib.hid (errV_pos hn)
    have HPO : Hid (∀ W, Below w.heap.size w W → SPost B q p F w (c, s, checkM s l) (.returned (errV (checkM s l))) W) := fun W hW => ⟨rfl, hc.below hW, ⟨F, h.below hW, fun b hb => .inl hb⟩, Fr.of_below hW⟩
    rw [HE.out] at hck
    have HCK := Lib.hid hck
    clear hck hn h hc hi hl
    go_enter Tryz.func13, Tryz.ntmps13
    go_wp2_with fail
    refine HCK.out.mono ?_
    rintro e w1 ⟨rfl, hb1⟩
    have HP := Lib.hid (HPO.out w1 hb1)
    clear hb1 HCK HPO
    go_wp2_with fail
    go_ret
    rw [HX.out]
    rw [HE.out] at HP
    exact HP.out
  obtain ⟨hl0, hl4, hby, hnew⟩ := checkM_zero hn
  have HW9 := Lib.hid (fun c' s' => write_nine (c := c) (c' := c') (s' := s') hn)
  have HW0 := Lib.hid (fun c' s' => write_zero (c := c) (c' := c') (s' := s') hn)
  rw [hn, show errV 0 = Value.nilIface from rfl] at hck
  have HCK := Lib.hid hck
  have HBY : Hid (∀ W, Below w.heap.size w W → Calls Tryz.prog 32 #[.slice A l.length cp] W fun d w' => d = .returned (.tuple #[.string (bytesL l.length l), .nilIface]) ∧ Below W.heap.size W w') := by
    intro W hW
    have := bytes_any B _ l W (hl.below hW) (by omega)
    rw [hby, show bytesS l = bytesL l.length l from if_pos hby] at this
    exact this
  have HPA := Lib.hid (bytesF_parts hby)
  have HBF := Lib.hid hby
  have HNW := Lib.hid hnew
  have HL := Lib.hid hl
  have HS0 : Hid (∀ W, Below w.heap.size w W → WrS B q p F w l c s 2 c s F W) := fun W hW => ⟨h.below hW, hc.below hW, Fr.of_below hW, fun b hb => .inl hb, hi, rfl, rfl, .inl ⟨rfl, Int.le_refl _⟩⟩
  clear hck hn h hc hi hl hby hnew
  go_enter Tryz.func13, Tryz.ntmps13
  go_wp2_with fail
  refine HCK.out.mono ?_
  rintro e w1 ⟨rfl, hb1⟩
  have HB1 := Lib.hid hb1
  have HY1 := Lib.hid (HBY.out w1 hb1)
  clear hb1 HCK HBY
  go_wp2_with fail
  refine HY1.out.mono ?_
  rintro e w2 ⟨rfl, hb2⟩
  have HS2 := Lib.hid (HS0.out w2 (HB1.out.trans (hb2.mono HB1.out.size)))
  clear hb2 HY1 HS0 HB1
  go_wp2_with fail
  go_loopg [5] 2 (fun g e wr => ∃ (c' : Chip) (s' : SM) (F' : List Nat), Hid (WrS B q p F w l c s g c' s' F' wr))
  case atStart => exact ⟨c, s, F, HS2.out⟩
  case round =>
    obtain ⟨c', s', F', hS⟩ := hrel
    obtain ⟨g, rfl⟩ : ∃ g, gk = g + 1 := ⟨gk - 1, by rcases hS.out.ep with h | h <;> omega⟩
    have hep1 : s'.m.ep ≤ s.m.ep + 6 := by rcases hS.out.ep with h | h <;> omega
    obtain ⟨c1, s1, n1, e1, _, g1⟩ := room_calm hS.out.inv (by omega)
    have hrm := room_any B q p c' s' F' wr hS.out.st hS.out.ch hS.out.inv (by omega)
    have hlog := hS.out.log
    rw [logM, e1] at hlog
    rw [e1] at hrm
    by_cases hn1 : n1 = 0
    case neg =>
      have h9 : n1 = 9 := by rcases g1 with ⟨h, _⟩ | ⟨h, _⟩; exact absurd h hn1; exact h
      subst h9
      simp only at hlog
      rw [if_pos (by decide)] at hlog
      have HX := Lib.hid (HW9.out c1 s1 hlog.symm)
      have HRM := Lib.hid hrm
      clear hlog hrm g1 e1 hn1
      go_wp2_with fail
      refine HRM.out.mono ?_
      rintro e w3 ⟨rfl, hr⟩
      have HR := Lib.hid hr
      clear hr HRM
      simp only
      rw [show errV 9 = Value.iface 68 (.int .i64 9) from rfl]
      go_wp2_with fail
      go_ret
      rw [HX.out]
      exact hS.out.post ⟨rfl, HR.out⟩
    subst hn1
    rcases g1 with ⟨_, hi1, hrw1, hep2, hep3, _, _, h8, hwk1⟩ | ⟨h9, _⟩
    case inr => omega
    simp only at hlog
    rw [if_neg (by simp)] at hlog
    have hrows : s1.rows = s.rows := hrw1.trans hS.out.rows
    obtain ⟨c2, n2, e2, _, g2⟩ := logw_calm (l := l) hi1 hl4 HBF.out (by rw [hrows]; exact HNW.out) h8
    rw [e2] at hlog
    simp only at hlog
    have HRM := Lib.hid hrm
    have HS1 : Hid (∀ w3, SPost B q p F' wr (c1, s1, 0) (.returned (errV 0)) w3 → ∃ F1, StoreR B w3 q p s1 F1 ∧ ChipR B w3 p c1 ∧ Fr B (· ∈ q :: p :: F) w w3 ∧ (∀ b ∈ F1, b ∈ F ∨ w.heap.size ≤ b)) := by
      intro w3 hp
      obtain ⟨_, hc, ⟨F1, hs, hF⟩, hf⟩ := hS.out.post hp
      exact ⟨F1, hs, hc, hf, hF⟩
    have HCW0 := Lib.hid (fun W (hW : ChipR B W p c1) => cwrite_any B p c1 s1.m.log (bytesL l.length l) W hW (by have := HPA.out.2; omega))
    rw [e2] at HCW0
    have HEP := Lib.hid hS.out.ep
    clear hrm e2 hrw1 e1
    by_cases hn7 : n2 = 7
    case neg =>
      rw [if_pos hn7] at hlog
      by_cases hn0 : n2 = 0
      case neg =>
        have h9 : n2 = 9 := by rcases g2 with ⟨h, _⟩ | ⟨h, _⟩ | ⟨h, _⟩; exact absurd h hn0; exact absurd h hn7; exact h
        subst h9
        have HX := Lib.hid (HW9.out c2 s1 hlog.symm)
        clear hlog g2 hn7 hn0 hi1 hwk1 h8
        go_wp2_with fail
        refine HRM.out.mono ?_
        rintro e w3 ⟨rfl, hr⟩
        obtain ⟨F1, hs3, hc3, hf3, hF3⟩ := HS1.out w3 ⟨rfl, hr⟩
        have HS3 := Lib.hid hs3
        have HC3 := Lib.hid hc3
        have HF3 := Lib.hid (And.intro hf3 hF3)
        obtain ⟨A1, c1', A2, c2', t, n, hk, _⟩ := hs3
        have x0 := hk.cell 0
        have x2 := hk.cell 2
        simp at x0 x2
        have HZ : Hid (∀ w', w' = w3.drew → w'.cell? ⟨q, 0, none⟩ = some (.pointer (some ⟨p, 0, none⟩)) ∧ w'.cell? ⟨q, 2, none⟩ = some (.int .i64 s1.m.log)) := fun w' e => by subst e; exact ⟨x0, x2⟩
        have HZ2 : Hid (∀ w', Fr B (· = p) w3.drew w' → w'.cell? ⟨q, 0, none⟩ = some (.pointer (some ⟨p, 0, none⟩)) ∧ w'.cell? ⟨q, 2, none⟩ = some (.int .i64 s1.m.log)) := by
          intro w' hf
          have hk2 := (hk.drewN 1).fr hf (.inr (.inl hqp))
          have y0 := hk2.cell 0
          have y2 := hk2.cell 2
          simp at y0 y2
          exact ⟨y0, y2⟩
        have HCW := Lib.hid (HCW0.out w3.drew (hc3.drewN 1))
        clear hr hc3 hf3 hF3 hk HRM HS1 HCW0
        simp only
        rw [show errV 0 = Value.nilIface from rfl]
        go_wp2_with fail
        go_region_held3 (fun w' => w'.cell? ⟨q, 0, none⟩ = some (.pointer (some ⟨p, 0, none⟩)) ∧ w'.cell? ⟨q, 2, none⟩ = some (.int .i64 s1.m.log))
          ((first | exact HZ.out _ (by rfl) | exact HZ2.out _ hf5))
          ((first | (go_at_call 38; refine HCW.out.mono ?_; rintro e w5 ⟨rfl, hc5, hf5⟩; rw [show errV 9 = Value.iface 68 (.int .i64 9) from rfl])))
        have hs5 := (HS3.out.drewN 1).chip (HC3.out.drewN 1) hf5
        have HFI : Hid (SPost B q p F w (c2, s1, 9) (.returned (errV 9)) w5) := ⟨rfl, hc5, ⟨F1, hs5, HF3.out.2⟩, (HF3.out.1.drewN 1).trans' hf5 (fun b _ e => by subst e; simp)⟩
        clear hs5 hc5 hf5 HCW x0 x2
        go_wp2_with fail
        go_ret
        rw [HX.out]
        exact HFI.out
      subst hn0
      have HX := Lib.hid (HW0.out c2 s1 hlog.symm)
      have hml := Fallen.mem_len hi1
      clear hlog g2 hn7 hi1 hwk1 h8
      go_wp2_with fail
      refine HRM.out.mono ?_
      rintro e w3 ⟨rfl, hr⟩
      obtain ⟨F1, hs3, hc3, hf3, hF3⟩ := HS1.out w3 ⟨rfl, hr⟩
      have HS3 := Lib.hid hs3
      have HC3 := Lib.hid hc3
      have HF3 := Lib.hid (And.intro hf3 hF3)
      obtain ⟨A1, c1', A2, c2', t, n, hk, _⟩ := hs3
      have x0 := hk.cell 0
      have x2 := hk.cell 2
      simp at x0 x2
      have HZ : Hid (∀ w', w' = w3.drew → w'.cell? ⟨q, 0, none⟩ = some (.pointer (some ⟨p, 0, none⟩)) ∧ w'.cell? ⟨q, 2, none⟩ = some (.int .i64 s1.m.log)) := fun w' e => by subst e; exact ⟨x0, x2⟩
      have HZ2 : Hid (∀ w', Fr B (· = p) w3.drew w' → w'.cell? ⟨q, 0, none⟩ = some (.pointer (some ⟨p, 0, none⟩)) ∧ w'.cell? ⟨q, 2, none⟩ = some (.int .i64 s1.m.log)) := by
        intro w' hf
        have hk2 := (hk.drewN 1).fr hf (.inr (.inl hqp))
        have y0 := hk2.cell 0
        have y2 := hk2.cell 2
        simp at y0 y2
        exact ⟨y0, y2⟩
      have HCW := Lib.hid (HCW0.out w3.drew (hc3.drewN 1))
      clear hr hc3 hf3 hF3 hk HRM HS1 HCW0
      simp only
      rw [show errV 0 = Value.nilIface from rfl]
      go_wp2_with fail
      go_region_held3 (fun w' => w'.cell? ⟨q, 0, none⟩ = some (.pointer (some ⟨p, 0, none⟩)) ∧ w'.cell? ⟨q, 2, none⟩ = some (.int .i64 s1.m.log))
        ((first | exact HZ.out _ (by rfl) | exact HZ2.out _ hf5))
        ((first | (go_at_call 38; refine HCW.out.mono ?_; rintro e w5 ⟨rfl, hc5, hf5⟩; rw [show errV 0 = Value.nilIface from rfl])))
      have hs5 := (HS3.out.drewN 1).chip (HC3.out.drewN 1) hf5
      have hls5 : Ents B w5 (.slice A l.length cp) l := ((HL.out.fr HF3.out.1).drewN 1).fr hf5
      have HF5 : Hid (Fr B (· ∈ q :: p :: F) w w5) := (HF3.out.1.drewN 1).trans' hf5 (fun b _ e => by subst e; simp)
      have HTK := Lib.hid (take_any B q p s1 F1 _ l w5 hs5 hls5 (by omega) (Nat.le_trans hB0 HF5.out.size))
      have HAP := Lib.hid (hs5.apart hc5)
      have HC5 := Lib.hid hc5
      clear hs5 hc5 hf5 HCW x0 x2 hls5
      go_wp2_with fail
      refine HTK.out.mono ?_
      rintro e w6 ⟨F6, rfl, hs6, hf6, hF6⟩
      have HFI : Hid (SPost B q p F w (c2, { s1 with mem := l.foldl putE s1.mem }, 0) (.returned .nilIface) w6) := by
        refine ⟨rfl, HC5.out.keep hf6 (fun hm => HAP.out p hm rfl), ⟨F6, hs6, fun b hb => ?_⟩, HF5.out.trans' hf6 (fun b hb hm => ?_)⟩
        · rcases hF6 b hb with h | h
          · exact HF3.out.2 b h
          · exact .inr (Nat.le_trans HF5.out.size h)
        · rcases List.mem_cons.1 hm with rfl | hm
          · simp
          · rcases HF3.out.2 b hm with h | h
            · simp [h]
            · omega
      clear hs6 hf6 hF6 HTK
      go_wp2_with fail
      go_ret
      rw [HX.out]
      exact HFI.out
    subst hn7
    rw [if_neg (by simp)] at hlog
    rcases g2 with ⟨h, _⟩ | ⟨_, hwk, hi2, _⟩ | ⟨h, _⟩
    case inl => omega
    case inr.inr => omega
    have hg2 : g + 1 = 2 ∧ s'.m.ep ≤ s.m.ep := by
      rcases HEP.out with h | ⟨_, _, h⟩
      · exact h
      · have := hwk1 h; rw [hwk] at this; cases this
    obtain ⟨hg2, hep0⟩ := hg2
    obtain ⟨c3, s3, n3, e3, _, g3⟩ := flush_calm hi2 (by omega)
    rw [e3] at hlog
    simp only at hlog
    have HFL0 := Lib.hid (fun W F2 (hS : StoreR B W q p s1 F2) (hC : ChipR B W p c2) => flush_any B q p c2 s1 F2 W hS hC hi2 (by omega))
    rw [e3] at HFL0
    clear e3
    by_cases hn3 : n3 = 0
    case neg =>
      have h9 : n3 = 9 := by rcases g3 with ⟨h, _⟩ | ⟨h, _⟩; exact absurd h hn3; exact h
      subst h9
      rw [if_pos (by decide)] at hlog
      have HX := Lib.hid (HW9.out c3 s3 hlog.symm)
      clear hlog g3 hn3 hi1 hi2 hwk hwk1 h8
      go_wp2_with fail
      refine HRM.out.mono ?_
      rintro e w3 ⟨rfl, hr⟩
      obtain ⟨F1, hs3, hc3, hf3, hF3⟩ := HS1.out w3 ⟨rfl, hr⟩
      have HS3 := Lib.hid hs3
      have HC3 := Lib.hid hc3
      have HF3 := Lib.hid (And.intro hf3 hF3)
      obtain ⟨A1, c1', A2, c2', t, n, hk, _⟩ := hs3
      have x0 := hk.cell 0
      have x2 := hk.cell 2
      simp at x0 x2
      have HZ : Hid (∀ w', w' = w3.drew → w'.cell? ⟨q, 0, none⟩ = some (.pointer (some ⟨p, 0, none⟩)) ∧ w'.cell? ⟨q, 2, none⟩ = some (.int .i64 s1.m.log)) := fun w' e => by subst e; exact ⟨x0, x2⟩
      have HZ2 : Hid (∀ w', Fr B (· = p) w3.drew w' → w'.cell? ⟨q, 0, none⟩ = some (.pointer (some ⟨p, 0, none⟩)) ∧ w'.cell? ⟨q, 2, none⟩ = some (.int .i64 s1.m.log)) := by
        intro w' hf
        have hk2 := (hk.drewN 1).fr hf (.inr (.inl hqp))
        have y0 := hk2.cell 0
        have y2 := hk2.cell 2
        simp at y0 y2
        exact ⟨y0, y2⟩
      have HCW := Lib.hid (HCW0.out w3.drew (hc3.drewN 1))
      clear hr hc3 hf3 hF3 hk HRM HS1 HCW0
      simp only
      rw [show errV 0 = Value.nilIface from rfl]
      go_wp2_with fail
      go_region_held3 (fun w' => w'.cell? ⟨q, 0, none⟩ = some (.pointer (some ⟨p, 0, none⟩)) ∧ w'.cell? ⟨q, 2, none⟩ = some (.int .i64 s1.m.log))
        ((first | exact HZ.out _ (by rfl) | exact HZ2.out _ hf5))
        ((first | (go_at_call 38; refine HCW.out.mono ?_; rintro e w5 ⟨rfl, hc5, hf5⟩; rw [show errV 7 = Value.iface 68 (.int .i64 7) from rfl])))
      have hs5 := (HS3.out.drewN 1).chip (HC3.out.drewN 1) hf5
      have HFL := Lib.hid (HFL0.out w5 F1 hs5 hc5)
      have HF5 : Hid (Fr B (· ∈ q :: p :: F) w w5) := (HF3.out.1.drewN 1).trans' hf5 (fun b _ e => by subst e; simp)
      clear hs5 hc5 hf5 HCW x0 x2 HFL0
      go_wp2_with fail
      refine HFL.out.mono ?_
      rintro e w6 ⟨rfl, hr⟩
      have HFI : Hid (SPost B q p F w (c3, s3, 9) (.returned (errV 9)) w6) := SPost.step HF5.out HF3.out.2 ⟨rfl, hr⟩
      clear hr HFL
      simp only
      rw [show errV 9 = Value.iface 68 (.int .i64 9) from rfl]
      go_wp2_with fail
      go_ret
      rw [HX.out]
      exact HFI.out
    subst hn3
    rw [if_neg (by simp)] at hlog
    rcases g3 with ⟨_, hi3, hrw3, hep4, hep5, _, _, _, ⟨b3, hb3, _, hb4, _⟩, _⟩ | ⟨h, _⟩
    case inr => omega
    have HLG := Lib.hid hlog
    have HI3 := Lib.hid hi3
    have HRW : Hid (s3.rows = s.rows) := hrw3.trans hrows
    have HWK : Hid ((c3.b s3.m.log.toNat).weak = false) := by rw [Hid, hb3, Int.toNat_natCast]; exact hb4
    clear hlog hi3 hi1 hi2 hwk hwk1 h8 hrw3 hb3 hb4 hrows
    go_wp2_with fail
    refine HRM.out.mono ?_
    rintro e w3 ⟨rfl, hr⟩
    obtain ⟨F1, hs3, hc3, hf3, hF3⟩ := HS1.out w3 ⟨rfl, hr⟩
    have HS3 := Lib.hid hs3
    have HC3 := Lib.hid hc3
    have HF3 := Lib.hid (And.intro hf3 hF3)
    obtain ⟨A1, c1', A2, c2', t, n, hk, _⟩ := hs3
    have x0 := hk.cell 0
    have x2 := hk.cell 2
    simp at x0 x2
    have HZ : Hid (∀ w', w' = w3.drew → w'.cell? ⟨q, 0, none⟩ = some (.pointer (some ⟨p, 0, none⟩)) ∧ w'.cell? ⟨q, 2, none⟩ = some (.int .i64 s1.m.log)) := fun w' e => by subst e; exact ⟨x0, x2⟩
    have HZ2 : Hid (∀ w', Fr B (· = p) w3.drew w' → w'.cell? ⟨q, 0, none⟩ = some (.pointer (some ⟨p, 0, none⟩)) ∧ w'.cell? ⟨q, 2, none⟩ = some (.int .i64 s1.m.log)) := by
      intro w' hf
      have hk2 := (hk.drewN 1).fr hf (.inr (.inl hqp))
      have y0 := hk2.cell 0
      have y2 := hk2.cell 2
      simp at y0 y2
      exact ⟨y0, y2⟩
    have HCW := Lib.hid (HCW0.out w3.drew (hc3.drewN 1))
    clear hr hc3 hf3 hF3 hk HRM HS1 HCW0
    simp only
    rw [show errV 0 = Value.nilIface from rfl]
    go_wp2_with fail
    go_region_held3 (fun w' => w'.cell? ⟨q, 0, none⟩ = some (.pointer (some ⟨p, 0, none⟩)) ∧ w'.cell? ⟨q, 2, none⟩ = some (.int .i64 s1.m.log))
      ((first | exact HZ.out _ (by rfl) | exact HZ2.out _ hf5))
      ((first | (go_at_call 38; refine HCW.out.mono ?_; rintro e w5 ⟨rfl, hc5, hf5⟩; rw [show errV 7 = Value.iface 68 (.int .i64 7) from rfl])))
    have hs5 := (HS3.out.drewN 1).chip (HC3.out.drewN 1) hf5
    have HFL := Lib.hid (HFL0.out w5 F1 hs5 hc5)
    have HF5 : Hid (Fr B (· ∈ q :: p :: F) w w5) := (HF3.out.1.drewN 1).trans' hf5 (fun b _ e => by subst e; simp)
    clear hs5 hc5 hf5 HCW x0 x2 HFL0
    go_wp2_with fail
    refine HFL.out.mono ?_
    rintro e w6 ⟨rfl, hr⟩
    have hfi : SPost B q p F w (c3, s3, 0) (.returned (errV 0)) w6 := SPost.step HF5.out HF3.out.2 ⟨rfl, hr⟩
    have HFI := Lib.hid hfi
    clear hr HFL hfi
    simp only
    rw [show errV 0 = Value.nilIface from rfl]
    go_wp2_with fail
    go_roundg g
    case measure => omega
    case rel =>
      obtain ⟨_, hc6, ⟨F6, hs6, hF6⟩, hf6⟩ := HFI.out
      exact ⟨c3, s3, F6, hs6, hc6, hf6, hF6, HI3.out, HLG.out, HRW.out, .inr ⟨by omega, by omega, HWK.out⟩⟩
end Go.Proofs.YtaepdbkfaoiimabGreat
/- The contract of store.Manifest. Conditions: none but those that it names. -/
set_option linter.unusedVariables false
set_option linter.unusedSimpArgs false
namespace Go.Proofs.YtaepdbkfaoiimabGreat
open Go.RowKit
section
variable {B g k i j : Nat} {w : World} {cs : Array Value} {a0 a1 a2 a3 b0 b1 b2 b3 x y : Value}
theorem man_two (hz : Blk w k 59 #[a0, a1, a2, a3]) (hne : k ≠ g) : Blk ((((((w.setCell ⟨g, i, none⟩ x).setCell ⟨g, j, none⟩ y).setCell ⟨k, 0, none⟩ b0).setCell ⟨k, 1, none⟩ b1).setCell ⟨k, 2, none⟩ b2).setCell ⟨k, 3, none⟩ b3) k 59 #[b0, b1, b2, b3] :=
  store4 ((hz.far (p := ⟨g, i, none⟩) hne x).far (p := ⟨g, j, none⟩) hne y) b0 b1 b2 b3
theorem ints_two {v : Value} {l : List Int} (h : Ints B w v l) (hz : Blk w k 59 #[a0, a1, a2, a3]) (hg : Blk w g 59 cs) (hne : k ≠ g) (hBg : B ≤ g) (hBk : B ≤ k) : Ints B ((((((w.setCell ⟨g, i, none⟩ x).setCell ⟨g, j, none⟩ y).setCell ⟨k, 0, none⟩ b0).setCell ⟨k, 1, none⟩ b1).setCell ⟨k, 2, none⟩ b2).setCell ⟨k, 3, none⟩ b3) v l := by
  have h1 := Rd.far' (o := i) h hg hBg (by decide) x
  have h2 := Rd.far' (o := j) h1 (hg.set_ i x) hBg (by decide) y
  have hz2 := (hz.far (p := ⟨g, i, none⟩) hne x).far (p := ⟨g, j, none⟩) hne y
  exact Rd.far' (Rd.far' (Rd.far' (Rd.far' h2 hz2 hBk (by decide) _) (hz2.set_ 0 _) hBk (by decide) _) ((hz2.set_ 0 _).set_ 1 _) hBk (by decide) _) (((hz2.set_ 0 _).set_ 1 _).set_ 2 _) hBk (by decide) _
theorem below_two {n : Nat} {w0 : World} (h : Below n w0 w) (hg : n ≤ g) (hk : n ≤ k) : Below n w0 ((((((w.setCell ⟨g, i, none⟩ x).setCell ⟨g, j, none⟩ y).setCell ⟨k, 0, none⟩ b0).setCell ⟨k, 1, none⟩ b1).setCell ⟨k, 2, none⟩ b2).setCell ⟨k, 3, none⟩ b3) :=
  below4 ((h.setCell (p := ⟨g, i, none⟩) hg x).setCell (p := ⟨g, j, none⟩) hg y) hk b0 b1 b2 b3
end
end Go.Proofs.YtaepdbkfaoiimabGreat
