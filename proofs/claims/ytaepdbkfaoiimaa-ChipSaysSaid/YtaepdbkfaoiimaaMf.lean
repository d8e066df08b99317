/- Several texts of this proof, one behind the other: walks and plain laws that the statements rest on. Conditions: none but those that each lemma names. -/
import Derived.Test.YtaepdbkfaoiimaaMe
import Derived.Sort.LoopGhostIn
/- The contract of store.tables. Conditions: the parts are those of tables. -/
set_option linter.unusedVariables false
set_option linter.unusedSimpArgs false
namespace Go.Proofs.Ytaepdbkfaoiimaa
open Go.RowKit Go.Shelf
attribute [local go_sem] Oper.semAt_some
attribute [local go_sem ↓] eql_err eql_nilerr neq_err neq_nilerr guard_err guard_nilerr guardn_err guardn_nilerr
theorem own_keep {w w' : World} {base : Nat} {e : TypeId} {size : Nat} {v : Value} {n : Nat} {xs : List Value} (h : w.ownsRow base e size v n xs) (hk : ∀ g, v.ownBlock = some g → w'.heap[g]? = w.heap[g]?) : w'.ownsRow base e size v n xs := by
  refine ⟨h.1, ?_⟩
  rcases h.2 with hn | ⟨g, cap, cur, h1, hg, hh, hrest⟩
  · exact .inl hn
  · exact .inr ⟨g, cap, cur, h1, hg, (hk g (by rw [h1]; rfl)).trans hh, hrest⟩
theorem own_tyB {w : World} {base : Nat} {e : TypeId} {size : Nat} {v : Value} {n : Nat} {xs : List Value} (h : w.ownsRow base e size v n xs) : ∀ g, v.ownBlock = some g → base ≤ g ∧ ∃ cs fz, w.heap[g]? = some (.cells cs e fz) := by
  intro g hg
  rcases h.2 with ⟨rfl, _⟩ | ⟨g', cap, cur, rfl, h1, h2, _⟩
  · cases hg
  · cases hg
    exact ⟨h1, cur, _, h2⟩
theorem heap_type {w : World} {g : Nat} {cs cs' : Array Value} {T T' : TypeId} {fz fz' : Nat × Nat} (h : w.heap[g]? = some (.cells cs T fz)) (k : w.heap[g]? = some (.cells cs' T' fz')) : T = T' := by
  rw [h] at k
  injection k with k
  injection k
theorem ChipR.grown {B p : Nat} {c : Chip} {w w' : World} {row : Option Nat} (h : ChipR B w p c) (hp : c.pend = none) (hg : w.grownBy w' row) (hr : ∀ g, row = some g → B ≤ g ∧ ∃ cs fz, w.heap[g]? = some (.cells cs 3 fz)) : ChipR B w' p c := by
  obtain ⟨V, u, hv, hu, hwf⟩ := h
  rw [hp] at hu
  refine ⟨V, u, ⟨?_, fun b hb => ?_, hv.base⟩, by rw [hp]; exact hu, hwf⟩
  · refine (hg.block p hv.blk.lt fun e => ?_).trans hv.blk
    obtain ⟨_, cs, fz, h2⟩ := hr p e.symm
    exact absurd (heap_type hv.blk h2) (by decide)
  · exact (hv.rows b hb).grown hg fun g e _ => by
      obtain ⟨h1, cs, fz, h2⟩ := hr g e
      exact ⟨h1, cs, _, fz, h2, by decide⟩
theorem Fr.grownR {B : Nat} {M : Nat → Prop} {w W W' : World} {row : Option Nat} (h : Fr B M w W) (hg : W.grownBy W' row) (hr : ∀ g, row = some g → w.heap.size ≤ g) : Fr B M w W' :=
  ⟨hg.os.trans h.os, hg.tape.trans h.tape, hg.output.trans h.output, Nat.le_trans h.size hg.size, fun k hk hc => (hg.block k (Nat.lt_of_lt_of_le hk h.size) (fun e => by have := hr k e.symm; omega)).trans (h.block k hk hc)⟩
/-- The parts that have been gone through. -/
theorem ck_parts (l : List Ent) : ∀ k, (ckUpto 14 l.length k).map (fun j => ckList 14 l j.1) = (parts 14 l).take k
  | 0 => rfl
  | k + 1 => by
    have hpl : (parts 14 l).length = (l.length + 13) / 14 := parts_len 14 l
    by_cases hk : 14 * k < l.length
    · have hlt : k < (parts 14 l).length := by rw [hpl]; omega
      rw [ckUpto_succ hk, List.map_append, ck_parts l k, List.take_succ_eq_append_getElem hlt]
      congr 1
      simp [parts, ckList]
    · have e : ckUpto 14 l.length (k + 1) = ckUpto 14 l.length k := by simp [ckUpto, List.range_succ, hk]
      rw [e, ck_parts l k, List.take_of_length_le (by rw [hpl]; omega), List.take_of_length_le (by rw [hpl]; omega)]
def ckQs (l : List Ent) (pre : List (Ck 14 l.length)) : List (List Ent) := pre.map (fun j => ckList 14 l j.1)
theorem ckQs_snoc (l : List Ent) (pre : List (Ck 14 l.length)) (k : Ck 14 l.length) (ps : List (List Ent)) : ckQs l (pre ++ [k]) ++ ps = ckQs l pre ++ (ckList 14 l k.1 :: ps) := by simp [ckQs]
theorem chipR_farI {B p x : Nat} {c : Chip} {W : World} {cs : Array Value} (h : ChipR B W p c) (hx : Blk W x 41 cs) (hB : B ≤ x) (y : Value) : ChipR B (W.setCell ⟨x, 0, none⟩ y) p c := by
  have far : ∀ {k T : Nat} {cs : Array Value}, Blk W k T cs → T ≠ 41 → Blk (W.setCell ⟨x, 0, none⟩ y) k T cs := fun {k T cs} hb hT => hb.far (fun e => by
    have e : k = x := e
    subst e
    have := hx
    rw [Blk, show W.heap[k]? = some (.cells _ T (0, 0)) from hb] at this
    cases this
    exact hT rfl) _
  obtain ⟨V, u, hv, hu, hw⟩ := h
  refine ⟨V, u, ⟨far hv.blk (by decide), fun b hb => (hv.rows b hb).far hx hB (by decide) _, hv.base⟩, ?_, hw⟩
  generalize c.pend = o at hu ⊢
  match o, hu with
  | none, hu => exact hu
  | some (.wr b d), ⟨qh, qd, bx, bn, bd, h1, h2, h3, h4, h5, h6⟩ => exact ⟨qh, qd, bx, bn, bd, h1, far h2 (by decide), far h3 (by decide), far h4 (by decide), far h5 (by decide), far h6 (by decide)⟩
  | some (.er b), ⟨qh, qd, bx, h1, h2, h3, h4⟩ => exact ⟨qh, qd, bx, h1, far h2 (by decide), far h3 (by decide), far h4 (by decide)⟩
/-- What lies where, while tables runs. -/
structure TbS (B q p : Nat) (vu : Value) (w : World) (bb : Nat) (c : Chip) (out : List Int) (W : World) : Prop where
  b3 : Blk W w.heap.size 108 #[.pointer (some ⟨q, 0, none⟩)]
  b5 : Blk W (w.heap.size + 1) 41 #[vu]
  b6 : Blk W (w.heap.size + 1 + 1) 41 #[.slice none 0 0]
  b7 : Blk W (w.heap.size + 1 + 1 + 1) 55 #[.nilIface]
  bo : ∃ A cp, Blk W (w.heap.size + 1 + 1 + 1 + 1) 41 #[.slice A out.length cp] ∧ W.ownsRow bb 3 1 (.slice A out.length cp) out.length (out.map (.int .i64))
  rep : ChipR B W p c
  fr : Fr B (· = p) w W
  hp : p < w.heap.size
  hq : q < w.heap.size
  hB : B ≤ w.heap.size
  big : w.heap.size + 1 + 1 + 1 + 1 < bb
section
variable {B q p bb B0 n : Nat} {vu : Value} {w W W' : World} {c c' : Chip} {out : List Int} {row : Option Nat}
theorem TbS.below (h : TbS B q p vu w bb c out W) (hb : Below W.heap.size W W') : TbS B q p vu w bb c out W' := by
  obtain ⟨A, cp, h1, h2⟩ := h.bo
  exact ⟨h.b3.below hb h.b3.lt, h.b5.below hb h.b5.lt, h.b6.below hb h.b6.lt, h.b7.below hb h.b7.lt, ⟨A, cp, h1.below hb h1.lt, own_below h2 hb⟩, h.rep.below hb, h.fr.trans (Fr.of_below hb) (fun _ _ => trivial), h.hp, h.hq, h.hB, h.big⟩
theorem TbS.drewN (h : TbS B q p vu w bb c out W) (n : Nat) : TbS B q p vu w bb c out (W.drewN n) := h.below (below_drewN' (Below.refl _ _) n)
theorem TbS.chip (h : TbS B q p vu w bb c out W) (hr : ChipR B W' p c') (hf : Fr B (· = p) W W') : TbS B q p vu w bb c' out W' := by
  obtain ⟨A, cp, h1, h2⟩ := h.bo
  have hp := h.hp
  have ne : ∀ k, w.heap.size ≤ k → ¬ k = p := fun k hk => by omega
  refine ⟨h.b3.fr hf (.inr (.inl (ne _ (by omega)))), h.b5.fr hf (.inr (.inl (ne _ (by omega)))), h.b6.fr hf (.inr (.inl (ne _ (by omega)))), h.b7.fr hf (.inr (.inl (ne _ (by omega)))), ⟨A, cp, h1.fr hf (.inr (.inl (ne _ (by omega)))), own_keep h2 fun g hg => ?_⟩, hr, h.fr.trans hf (fun _ _ => trivial), h.hp, h.hq, h.hB, h.big⟩
  obtain ⟨hb, cs, fz, hh⟩ := own_tyB h2 g hg
  have := h.big
  exact hf.block g (heap_lt hh) (.inr (.inl (ne g (by omega))))
theorem TbS.grown (h : TbS B q p vu w bb c out W) (hg : W.grownBy W' row) (hr : ∀ r, row = some r → B0 ≤ r ∧ ∃ o : Obj, W.heap[r]? = some o ∧ o.isCells = false) (hB0 : w.heap.size ≤ B0) : TbS B q p vu w bb c out W' := by
  obtain ⟨A, cp, h1, h2⟩ := h.bo
  have hf := fr_grown (B := B) hg (fun r e => ⟨Nat.le_trans (Nat.le_trans h.hB hB0) (hr r e).1, (hr r e).2⟩)
  refine ⟨blk_grown h.b3 hg hr, blk_grown h.b5 hg hr, blk_grown h.b6 hg hr, blk_grown h.b7 hg hr, ⟨A, cp, blk_grown h1 hg hr, own_keep h2 fun g hgg => ?_⟩, h.rep.keep hf (fun e => by have := (hr p e).1; have := h.hp; omega), h.fr.trans' hf (fun k hk e => by have := (hr k e).1; omega), h.hp, h.hq, h.hB, h.big⟩
  obtain ⟨hb, cs, fz, hh⟩ := own_tyB h2 g hgg
  refine hg.block g (heap_lt hh) fun e => ?_
  obtain ⟨_, o, h3, h4⟩ := hr g e.symm
  rw [hh] at h3
  cases h3
  cases h4
/-- A block more. -/
theorem TbS.more (h : TbS B q p vu w bb c out W) (hpd : c.pend = none) (hbb : bb ≤ W.heap.size) {A A' : Option Addr} {cp cp' : Nat} {x : Int} (h1 : Blk W (w.heap.size + 1 + 1 + 1 + 1) 41 #[.slice A out.length cp]) (h2 : W.ownsRow bb 3 1 (.slice A out.length cp) out.length (out.map (.int .i64)))
    (hown : W'.ownsRow bb 3 1 (.slice A' (out.length + 1) cp') (out.length + 1) (out.map (.int .i64) ++ [.int .i64 x])) (hg : W.grownBy W' (Value.slice A out.length cp).ownBlock) : TbS B q p vu w bb c (out ++ [x]) (W'.setCell ⟨w.heap.size + 1 + 1 + 1 + 1, 0, none⟩ (.slice A' (out.length + 1) cp')) := by
  have hbig := h.big
  have hB := h.hB
  have hp := h.hp
  have hty := own_tyB h2
  have ne : ∀ k, k < bb → k < W.heap.size → W'.heap[k]? = W.heap[k]? := fun k hk hlt => hg.block k hlt (fun e => by have := (hty k e.symm).1; omega)
  have hb : ∀ {k T} {cs : Array Value}, k < bb → Blk W k T cs → Blk W' k T cs := fun {k T cs} hk hb => (ne k hk hb.lt).trans hb
  have h1' := hb (by omega) h1
  have far : ∀ {k T} {cs : Array Value}, k ≠ w.heap.size + 1 + 1 + 1 + 1 → Blk W' k T cs → Blk (W'.setCell ⟨w.heap.size + 1 + 1 + 1 + 1, 0, none⟩ (.slice A' (out.length + 1) cp')) k T cs := fun {k T cs} hk hb => hb.far (by exact hk) _
  have hfr : Fr B (· = p) w W' := h.fr.grownR hg (fun g e => by have := (hty g e).1; omega)
  have hrep : ChipR B W' p c := h.rep.grown hpd hg (fun g e => by obtain ⟨a, b⟩ := hty g e; exact ⟨by omega, b⟩)
  refine ⟨far (by omega) (hb (by omega) h.b3), far (by omega) (hb (by omega) h.b5), far (by omega) (hb (by omega) h.b6), far (by omega) (hb (by omega) h.b7), ⟨A', cp', ?_, ?_⟩, ?_, ?_, h.hp, h.hq, h.hB, h.big⟩
  · have := h1'.set_ 0 (.slice A' (out.length + 1) cp')
    rw [List.length_append, List.length_singleton]
    exact this
  · rw [List.length_append, List.length_singleton, List.map_append]
    refine own_keep hown fun g hgg => ?_
    obtain ⟨hb', cs, fz, hh⟩ := own_tyB hown g hgg
    exact Below.heap_setCell _ _ _ _ (fun e => by have e : g = w.heap.size + 1 + 1 + 1 + 1 := e; omega)
  · exact chipR_farI hrep h1' (by omega) _
  · exact hfr.setCell (by show B ≤ w.heap.size + 1 + 1 + 1 + 1; omega) (.inr (by show w.heap.size ≤ w.heap.size + 1 + 1 + 1 + 1; omega)) (fun e => absurd e (by show ¬ w.heap.size + 1 + 1 + 1 + 1 < w.heap.size; omega)) _
/-- Nothing has turned but cells, and not the iterator's. -/
structure KeepT (Bs : Nat) (W W' : World) : Prop where
  size : W.heap.size ≤ W'.heap.size
  other : ∀ (k : Nat) (o : Obj), W.heap[k]? = some o → o.isCells = false → W'.heap[k]? = some o
  s1 : W'.heap[Bs]? = W.heap[Bs]?
  s2 : W'.heap[Bs + 1]? = W.heap[Bs + 1]?
theorem KeepT.refl (Bs : Nat) (W : World) : KeepT Bs W W := ⟨Nat.le_refl _, fun _ _ h _ => h, rfl, rfl⟩
theorem KeepT.trans {Bs : Nat} {W W' W2 : World} (h : KeepT Bs W W') (k : KeepT Bs W' W2) : KeepT Bs W W2 := ⟨Nat.le_trans h.size k.size, fun i o h1 h2 => k.other i o (h.other i o h1 h2) h2, k.s1.trans h.s1, k.s2.trans h.s2⟩
theorem KeepT.below {Bs : Nat} {W W' : World} (h : Below W.heap.size W W') (hs : Bs + 1 < W.heap.size) : KeepT Bs W W' := ⟨h.size, fun k o hk _ => (h.block k (heap_lt hk)).trans hk, h.block _ (by omega), h.block _ hs⟩
theorem KeepT.chip {Bs : Nat} {W W' : World} (h : Fr B (· = p) W W') (hs : Bs + 1 < W.heap.size) (hp : p < Bs) (hc : ChipR B W p c) : KeepT Bs W W' := by
  obtain ⟨V, u, hv, _⟩ := hc
  refine ⟨h.size, fun k o hk ho => (h.block k (heap_lt hk) (.inr (.inl fun e => ?_))).trans hk, h.block _ (by omega) (.inr (.inl (by omega))), h.block _ hs (.inr (.inl (by omega)))⟩
  rw [e, show W.heap[p]? = _ from hv.blk] at hk
  cases hk
  cases ho
theorem KeepT.rowg {Bs : Nat} {W W' : World} {v : Value} {e : TypeId} {sz m : Nat} {xs : List Value} (hg : W.grownBy W' v.ownBlock) (ho : W.ownsRow bb e sz v m xs) (hbb : Bs + 1 < bb) (hs : Bs + 1 < W.heap.size) : KeepT Bs W W' := by
  have hty := own_tyB ho
  refine ⟨hg.size, fun k o hk hc => (hg.block k (heap_lt hk) fun e => ?_).trans hk, hg.block _ (by omega) (fun e => by have := (hty _ e.symm).1; omega), hg.block _ hs (fun e => by have := (hty _ e.symm).1; omega)⟩
  obtain ⟨_, cs, fz, h2⟩ := hty k e.symm
  rw [h2] at hk
  cases hk
  cases hc
theorem KeepT.set {Bs x T : Nat} {cs : Array Value} {W : World} (hb : Blk W x T cs) (hx : x < Bs) (u : Value) : KeepT Bs W (W.setCell ⟨x, 0, none⟩ u) :=
  ⟨by simp [World.setCell], fun k o hk ho => (Below.heap_setCell _ _ _ _ (fun e => by
    have e : k = x := e
    rw [e, show W.heap[x]? = _ from hb] at hk; cases hk; cases ho)).trans hk, Below.heap_setCell _ _ _ _ (fun e => by have e : Bs = x := e; omega), Below.heap_setCell _ _ _ _ (fun e => by have e : Bs + 1 = x := e; omega)⟩
end
theorem tab_seven {c : Chip} {l : List Ent} (hc : CWf c) (hd : c.down = false) {b : Nat} (hb : b < 24) (hbad : (c.b b).bad = false) (ht : tabF l = 0) (h : (tabWrite c b l).2 = 7) : (tabWrite c (b : Nat) l).1 = c.spoil b ∧ (c.b b).weak = true := by
  cases hw : (c.b b).weak
  · obtain ⟨c', n, e, _, _, g⟩ := tabWrite_calm hb hd hbad hw ht
    rw [e] at h
    rcases g with ⟨g, _⟩ | ⟨g, _⟩ <;> · simp only at h; omega
  · have := (lays_table ht).weak c b hc hd hb hbad hw
    exact ⟨by show (tabWrite c b l).1 = _; rw [show tabWrite c b l = _ from this], rfl⟩
theorem tab_zero {c : Chip} {l : List Ent} (hc : CWf c) (hd : c.down = false) {b : Nat} (hb : b < 24) (hbad : (c.b b).bad = false) (ht : tabF l = 0) (h : (tabWrite c b l).2 = 0) : (tabWrite c (b : Nat) l).1.down = false ∧ (tabWrite c (b : Nat) l).1.pend = none := by
  have hpn : c.pend = none := by have := hc.down; rw [hd] at this; simpa using this
  cases hw : (c.b b).weak
  · obtain ⟨c', n, e, _, _, g⟩ := tabWrite_calm hb hd hbad hw ht
    rw [e] at h ⊢
    rcases g with ⟨_, g1, g2, _⟩ | ⟨g, _⟩
    · exact ⟨g1, g2.trans hpn⟩
    · simp only at h; omega
  · have := (lays_table ht).weak c b hc hd hb hbad hw
    rw [show tabWrite c b l = _ from this] at h
    cases h
theorem own_form {w : World} {base : Nat} {e : TypeId} {v : Value} {n : Nat} {xs : List Value} (h : w.ownsRow base e 1 v n xs) : ∃ A c, v = .slice A n c := by
  rcases h.2 with ⟨rfl, h2⟩ | ⟨g, cap, cur, rfl, _⟩
  · have h1 := h.1
    rw [h2] at h1
    have : n = 0 := by simp at h1; omega
    subst this
    exact ⟨none, 0, rfl⟩
  · exact ⟨_, _, rfl⟩
theorem ints_one1 {x : Int} : ∀ u ∈ [Value.int .i64 x], u.oneCell' = true := by
  intro u hu
  simp at hu
  subst hu
  rfl
theorem cell_one (w : World) (x : Int) : ∀ (j : Nat) (u : Value), [Value.int .i64 x][j]? = some u → (w.alloc (.cells #[.int .i64 x] 3)).cell? ((Addr.mk w.heap.size 0 none).add j) = some u := by
  intro j u hu
  cases j with
  | zero =>
    simp at hu
    subst hu
    rw [addr_add]
    exact (Blk.new w 3 #[.int .i64 x]).cell 0
  | succ j => simp at hu
theorem Blk.grownO {w w' : World} {g T : Nat} {cs : Array Value} {base : Nat} {e : TypeId} {size n : Nat} {v : Value} {xs : List Value} (h : Blk w g T cs) (hg : w.grownBy w' v.ownBlock) (ho : w.ownsRow base e size v n xs) (hb : g < base) : Blk w' g T cs :=
  (hg.block g h.lt (fun e => by have := (own_tyB ho g e.symm).1; omega)).trans h
/-- One block more, noted. -/
theorem TbS.fini {B q p bb Bs : Nat} {vu : Value} {w W w5 w6 : World} {c : Chip} {out : List Int} {x : Int} {A A' : Option Addr} {cp cp' : Nat} (h : TbS B q p vu w bb c out w5) (hpd : c.pend = none) (h1 : Blk w5 (w.heap.size + 1 + 1 + 1 + 1) 41 #[.slice A out.length cp]) (h2 : w5.ownsRow bb 3 1 (.slice A out.length cp) out.length (out.map (.int .i64)))
    (hk : KeepT Bs W w5) (hown : w6.ownsRow bb 3 1 (.slice A' (out.length + 1) cp') (out.length + 1) (out.map (.int .i64) ++ [.int .i64 x])) (hg : (w5.alloc (.cells #[.int .i64 x] 3)).grownBy w6 (Value.slice A out.length cp).ownBlock) (hbb : Bs + 1 < bb ∧ bb ≤ w5.heap.size) (hBs : w.heap.size + 1 + 1 + 1 + 1 < Bs) :
    TbS B q p vu w bb c (out ++ [x]) (w6.setCell ⟨w.heap.size + 1 + 1 + 1 + 1, 0, none⟩ (.slice A' (out.length + 1) cp')) ∧ KeepT Bs W (w6.setCell ⟨w.heap.size + 1 + 1 + 1 + 1, 0, none⟩ (.slice A' (out.length + 1) cp')) := by
  have hb : Below w5.heap.size w5 (w5.alloc (.cells #[.int .i64 x] 3)) := (Below.refl _ _).alloc (Nat.le_refl _) _
  have h1' := h1.below hb h1.lt
  have h2' := own_below h2 hb
  refine ⟨(h.below hb).more hpd (by simp; omega) h1' h2' hown hg, ?_⟩
  have hs : Bs + 1 < w5.heap.size := by omega
  exact ((hk.trans (KeepT.below hb hs)).trans (KeepT.rowg hg h2' hbb.1 (by simp; omega))).trans (KeepT.set (h1'.grownO hg h2' (by omega)) hBs _)
theorem KeepT.others {Bs : Nat} {W W' : World} (h : KeepT Bs W W') : KeepsOthers W W' := ⟨h.size, h.other⟩
theorem TbS.res {B q p bb Bs : Nat} {vu : Value} {w W : World} {c : Chip} {out : List Int} (h : TbS B q p vu w bb c out W) (hB : w.heap.size + 1 + 1 + 1 + 1 < Bs) (u y : Value) : KeepT Bs W ((W.setCell ⟨w.heap.size + 1 + 1, 0, none⟩ u).setCell ⟨w.heap.size + 1 + 1 + 1, 0, none⟩ y) :=
  (KeepT.set h.b6 (by omega) u).trans (KeepT.set (h.b7.far (p := ⟨w.heap.size + 1 + 1, 0, none⟩) (by show w.heap.size + 1 + 1 + 1 ≠ w.heap.size + 1 + 1; omega) u) (by omega) y)
/-- Behind an error: what lies where. -/
structure TbR (B p : Nat) (w : World) (n : Nat) (c : Chip) (W : World) : Prop where
  b6 : Blk W (w.heap.size + 1 + 1) 41 #[.slice none 0 0]
  b7 : Blk W (w.heap.size + 1 + 1 + 1) 55 #[errV n]
  rep : ChipR B W p c
  fr : Fr B (· = p) w W
  hp : p < w.heap.size
  hB : B ≤ w.heap.size
theorem TbR.grown {B p n B0 : Nat} {w W W' : World} {c : Chip} {row : Option Nat} (h : TbR B p w n c W) (hg : W.grownBy W' row) (hr : ∀ r, row = some r → B0 ≤ r ∧ ∃ o : Obj, W.heap[r]? = some o ∧ o.isCells = false) (hB0 : w.heap.size ≤ B0) : TbR B p w n c W' := by
  have hf := fr_grown (B := B) hg (fun r e => ⟨Nat.le_trans (Nat.le_trans h.hB hB0) (hr r e).1, (hr r e).2⟩)
  exact ⟨blk_grown h.b6 hg hr, blk_grown h.b7 hg hr, h.rep.keep hf (fun e => by have := (hr p e).1; have := h.hp; omega), h.fr.trans' hf (fun k hk e => by have := (hr k e).1; omega), h.hp, h.hB⟩
theorem TbS.stop {B q p bb : Nat} {vu : Value} {w W : World} {c : Chip} {out : List Int} (h : TbS B q p vu w bb c out W) (n : Nat) : TbR B p w n c ((W.setCell ⟨w.heap.size + 1 + 1, 0, none⟩ (.slice none 0 0)).setCell ⟨w.heap.size + 1 + 1 + 1, 0, none⟩ (errV n)) := by
  have hB := h.hB
  have hp := h.hp
  have h6 := h.b6.set_ 0 (.slice none 0 0)
  have h7 : Blk (W.setCell ⟨w.heap.size + 1 + 1, 0, none⟩ (.slice none 0 0)) (w.heap.size + 1 + 1 + 1) 55 #[.nilIface] := h.b7.far (by show w.heap.size + 1 + 1 + 1 ≠ w.heap.size + 1 + 1; omega) _
  have r6 := chipR_farI h.rep h.b6 (by omega) (.slice none 0 0)
  have f6 := h.fr.setCell (p := ⟨w.heap.size + 1 + 1, 0, none⟩) (by show B ≤ w.heap.size + 1 + 1; omega) (.inr (by show w.heap.size ≤ w.heap.size + 1 + 1; omega)) (fun e => absurd e (by show ¬ w.heap.size + 1 + 1 < w.heap.size; omega)) (.slice none 0 0)
  exact ⟨h6.far (by show w.heap.size + 1 + 1 ≠ w.heap.size + 1 + 1 + 1; omega) _, h7.set_ 0 _, chipR_far r6 h7 (by omega) _, f6.setCell (by show B ≤ w.heap.size + 1 + 1 + 1; omega) (.inr (by show w.heap.size ≤ w.heap.size + 1 + 1 + 1; omega)) (fun e => absurd e (by show ¬ w.heap.size + 1 + 1 + 1 < w.heap.size; omega)) _, h.hp, h.hB⟩
theorem TbS.last {B q p bb : Nat} {vu : Value} {w W : World} {c : Chip} {out : List Int} (h : TbS B q p vu w bb c out W) {D : Nat} (hD : w.heap.size ≤ D) (hK : W.heap[D]? = some (.deferred (some []))) (ho : Obj.isCells (.deferred (some [])) = false) {A : Option Addr} {cp : Nat} (hown : W.ownsRow bb 3 1 (.slice A out.length cp) out.length (out.map (.int .i64))) (o' : Obj) :
    ChipR B (((W.setCell ⟨w.heap.size + 1 + 1, 0, none⟩ (.slice A out.length cp)).setCell ⟨w.heap.size + 1 + 1 + 1, 0, none⟩ .nilIface).putObj D o') p c ∧ Fr B (· = p) w (((W.setCell ⟨w.heap.size + 1 + 1, 0, none⟩ (.slice A out.length cp)).setCell ⟨w.heap.size + 1 + 1 + 1, 0, none⟩ .nilIface).putObj D o') ∧ Ints B (((W.setCell ⟨w.heap.size + 1 + 1, 0, none⟩ (.slice A out.length cp)).setCell ⟨w.heap.size + 1 + 1 + 1, 0, none⟩ .nilIface).putObj D o') (.slice A out.length cp) out ∧ (((W.setCell ⟨w.heap.size + 1 + 1, 0, none⟩ (.slice A out.length cp)).setCell ⟨w.heap.size + 1 + 1 + 1, 0, none⟩ .nilIface).putObj D o').cell? ⟨w.heap.size + 1 + 1, 0, none⟩ = some (.slice A out.length cp) ∧ (((W.setCell ⟨w.heap.size + 1 + 1, 0, none⟩ (.slice A out.length cp)).setCell ⟨w.heap.size + 1 + 1 + 1, 0, none⟩ .nilIface).putObj D o').cell? ⟨w.heap.size + 1 + 1 + 1, 0, none⟩ = some .nilIface ∧ ((W.setCell ⟨w.heap.size + 1 + 1, 0, none⟩ (.slice A out.length cp)).setCell ⟨w.heap.size + 1 + 1 + 1, 0, none⟩ .nilIface).heap[D]? = some (.deferred (some [])) := by
  have hB := h.hB
  have hp := h.hp
  have hbig := h.big
  have h6 := h.b6.set_ 0 (.slice A out.length cp)
  have h7 : Blk (W.setCell ⟨w.heap.size + 1 + 1, 0, none⟩ (.slice A out.length cp)) (w.heap.size + 1 + 1 + 1) 55 #[.nilIface] := h.b7.far (by show w.heap.size + 1 + 1 + 1 ≠ w.heap.size + 1 + 1; omega) _
  have r6 := chipR_farI h.rep h.b6 (by omega) (.slice A out.length cp)
  have f6 := h.fr.setCell (p := ⟨w.heap.size + 1 + 1, 0, none⟩) (by show B ≤ w.heap.size + 1 + 1; omega) (.inr (by show w.heap.size ≤ w.heap.size + 1 + 1; omega)) (fun e => absurd e (by show ¬ w.heap.size + 1 + 1 < w.heap.size; omega)) (.slice A out.length cp)
  have k6 : Blk ((W.setCell ⟨w.heap.size + 1 + 1, 0, none⟩ (.slice A out.length cp)).setCell ⟨w.heap.size + 1 + 1 + 1, 0, none⟩ .nilIface) (w.heap.size + 1 + 1) 41 #[.slice A out.length cp] := h6.far (by show w.heap.size + 1 + 1 ≠ w.heap.size + 1 + 1 + 1; omega) _
  have k7 : Blk ((W.setCell ⟨w.heap.size + 1 + 1, 0, none⟩ (.slice A out.length cp)).setCell ⟨w.heap.size + 1 + 1 + 1, 0, none⟩ .nilIface) (w.heap.size + 1 + 1 + 1) 55 #[.nilIface] := h7.set_ 0 _
  have r7 := chipR_far r6 h7 (by omega) .nilIface
  have f7 : Fr B (· = p) w ((W.setCell ⟨w.heap.size + 1 + 1, 0, none⟩ (.slice A out.length cp)).setCell ⟨w.heap.size + 1 + 1 + 1, 0, none⟩ .nilIface) := f6.setCell (by show B ≤ w.heap.size + 1 + 1 + 1; omega) (.inr (by show w.heap.size ≤ w.heap.size + 1 + 1 + 1; omega)) (fun e => absurd e (by show ¬ w.heap.size + 1 + 1 + 1 < w.heap.size; omega)) _
  have hne : ∀ {k T} {cs : Array Value}, Blk W k T cs → D ≠ k := fun hb e => by
    subst e
    rw [show W.heap[D]? = _ from hb] at hK
    cases hK
  have hK2 : ((W.setCell ⟨w.heap.size + 1 + 1, 0, none⟩ (.slice A out.length cp)).setCell ⟨w.heap.size + 1 + 1 + 1, 0, none⟩ .nilIface).heap[D]? = some (.deferred (some [])) := (Below.heap_setCell _ _ _ _ (hne h.b7)).trans ((Below.heap_setCell _ _ _ _ (hne h.b6)).trans hK)
  have how : ((W.setCell ⟨w.heap.size + 1 + 1, 0, none⟩ (.slice A out.length cp)).setCell ⟨w.heap.size + 1 + 1 + 1, 0, none⟩ .nilIface).ownsRow bb 3 1 (.slice A out.length cp) out.length (out.map (.int .i64)) := own_keep hown fun g hg => by
    have := (own_tyB hown g hg).1
    exact (Below.heap_setCell _ _ _ _ (fun e => by have e : g = w.heap.size + 1 + 1 + 1 := e; omega)).trans (Below.heap_setCell _ _ _ _ (fun e => by have e : g = w.heap.size + 1 + 1 := e; omega))
  have hg := grownBy_putObj' ((W.setCell ⟨w.heap.size + 1 + 1, 0, none⟩ (.slice A out.length cp)).setCell ⟨w.heap.size + 1 + 1 + 1, 0, none⟩ .nilIface) D o'
  have hr : ∀ r, some D = some r → w.heap.size ≤ r ∧ ∃ o : Obj, ((W.setCell ⟨w.heap.size + 1 + 1, 0, none⟩ (.slice A out.length cp)).setCell ⟨w.heap.size + 1 + 1 + 1, 0, none⟩ .nilIface).heap[r]? = some o ∧ o.isCells = false := fun r e => by cases e; exact ⟨hD, _, hK2, ho⟩
  have hf := fr_grown (B := B) hg (fun r e => ⟨Nat.le_trans hB (hr r e).1, (hr r e).2⟩)
  have hpD : ¬ some D = some p := fun e => by
    cases e
    omega
  have how2 : (((W.setCell ⟨w.heap.size + 1 + 1, 0, none⟩ (.slice A out.length cp)).setCell ⟨w.heap.size + 1 + 1 + 1, 0, none⟩ .nilIface).putObj D o').ownsRow bb 3 1 (.slice A out.length cp) out.length (out.map (.int .i64)) := own_keep how fun g hgg => by
    obtain ⟨_, cs, fz, hh⟩ := own_tyB how g hgg
    refine hg.block g (heap_lt hh) fun e => ?_
    cases e
    rw [hh] at hK2
    cases hK2
  refine ⟨r7.keep hf hpD, f7.trans' hf (fun k hk hm => by cases hm; omega), Rd.of_own how2, ?_, ?_, hK2⟩
  · rw [(blk_grown k6 hg hr).cell]; rfl
  · rw [(blk_grown k7 hg hr).cell]; rfl
set_option maxRecDepth 100000 in
set_option maxHeartbeats 8000000 in
theorem tables_any (B : Nat) (q p : Nat) (c : Chip) (s : SM) (F : List Nat) (v vu : Value) (l : List Ent) (used : List Int) (w : World) (h : StoreR B w q p s F) (hc : ChipR B w p c) (hl : Ents B w v l) (hu : Ints B w vu used) (hd : c.down = false) (hok : ∀ x ∈ parts 14 l, tabF x = 0) (hlen : l.length ≤ 1000) (hul : used.length ≤ 1000) :
    Calls Try.prog 112 #[.pointer (some ⟨q, 0, none⟩), v, vu] w fun e w' => ∃ vo, e = .returned (.tuple #[vo, errV (tablesM used (parts 14 l) c []).2.2]) ∧ Ints B w' vo (tablesM used (parts 14 l) c []).2.1 ∧ ChipR B w' p (tablesM used (parts 14 l) c []).1 ∧ Fr B (· = p) w w' := by
  have hB0 : B ≤ w.heap.size := Nat.le_of_lt (Nat.lt_of_le_of_lt h.base h.lt)
  have hpw := hc.lt
  have hqw := h.lt
  have hqp := h.apart hc q (by simp)
  obtain ⟨A, cp, rfl, hc1, hc2, _⟩ := hl.form
  obtain ⟨Au, cu, rfl, _, _, _⟩ := hu.form
  have hA : ∃ g o, 0 < l.length → A = some ⟨g, o, none⟩ := by
    rcases Nat.eq_zero_or_pos l.length with h0 | h0
    · exact ⟨0, 0, fun h => by omega⟩
    · obtain ⟨g, o, rfl, _⟩ := rd_at' hl.1 h0
      exact ⟨g, o, fun _ => rfl⟩
  obtain ⟨g, o, hA⟩ := hA
  have HL := Lib.hid hl
  have HU := Lib.hid hu
  have HOK := Lib.hid hok
  have HD := Lib.hid hd
  have HX0 : Hid (∀ W, Fr B (· = p) w W → W.cell? ⟨q, 0, none⟩ = some (.pointer (some ⟨p, 0, none⟩))) := by
    intro W hf
    obtain ⟨A1, c1, A2, c2, t, n, hk, _⟩ := h
    have := (hk.fr hf (.inr (.inl hqp))).cell 0
    simpa using this
  have hb5 : Below w.heap.size w (((((w.alloc (.cells #[.pointer (some ⟨q, 0, none⟩)] 108)).alloc (.cells #[.slice Au used.length cu] 41)).alloc (.cells #[.slice none 0 0] 41)).alloc (.cells #[.nilIface] 55)).alloc (.cells #[.slice none 0 0] 41)) := ((((((Below.refl _ _).alloc (Nat.le_refl _) _).alloc (by simp) _).alloc (by simp; omega) _).alloc (by simp; omega) _).alloc (by simp; omega) _)
  have HT0 : Hid (∀ bb, w.heap.size + 1 + 1 + 1 + 1 < bb → TbS B q p (.slice Au used.length cu) w bb c [] (((((w.alloc (.cells #[.pointer (some ⟨q, 0, none⟩)] 108)).alloc (.cells #[.slice Au used.length cu] 41)).alloc (.cells #[.slice none 0 0] 41)).alloc (.cells #[.nilIface] 55)).alloc (.cells #[.slice none 0 0] 41))) := by
    intro bb hbb
    have k3 : Blk (((((w.alloc (.cells #[.pointer (some ⟨q, 0, none⟩)] 108)).alloc (.cells #[.slice Au used.length cu] 41)).alloc (.cells #[.slice none 0 0] 41)).alloc (.cells #[.nilIface] 55)).alloc (.cells #[.slice none 0 0] 41)) w.heap.size 108 #[.pointer (some ⟨q, 0, none⟩)] := ((((Blk.new w _ _).alloc _).alloc _).alloc _).alloc _
    have k5 : Blk (((((w.alloc (.cells #[.pointer (some ⟨q, 0, none⟩)] 108)).alloc (.cells #[.slice Au used.length cu] 41)).alloc (.cells #[.slice none 0 0] 41)).alloc (.cells #[.nilIface] 55)).alloc (.cells #[.slice none 0 0] 41)) (w.heap.size + 1) 41 #[(.slice Au used.length cu)] := by
      have := (((Blk.new (w.alloc (.cells #[.pointer (some ⟨q, 0, none⟩)] 108)) 41 #[(.slice Au used.length cu)]).alloc (.cells #[.slice none 0 0] 41)).alloc (.cells #[.nilIface] 55)).alloc (.cells #[.slice none 0 0] 41)
      simpa using this
    have k6 : Blk (((((w.alloc (.cells #[.pointer (some ⟨q, 0, none⟩)] 108)).alloc (.cells #[.slice Au used.length cu] 41)).alloc (.cells #[.slice none 0 0] 41)).alloc (.cells #[.nilIface] 55)).alloc (.cells #[.slice none 0 0] 41)) (w.heap.size + 1 + 1) 41 #[.slice none 0 0] := by
      have := ((Blk.new ((w.alloc (.cells #[.pointer (some ⟨q, 0, none⟩)] 108)).alloc (.cells #[.slice Au used.length cu] 41)) 41 #[.slice none 0 0]).alloc (.cells #[.nilIface] 55)).alloc (.cells #[.slice none 0 0] 41)
      simpa using this
    have k7 : Blk (((((w.alloc (.cells #[.pointer (some ⟨q, 0, none⟩)] 108)).alloc (.cells #[.slice Au used.length cu] 41)).alloc (.cells #[.slice none 0 0] 41)).alloc (.cells #[.nilIface] 55)).alloc (.cells #[.slice none 0 0] 41)) (w.heap.size + 1 + 1 + 1) 55 #[.nilIface] := by
      have := (Blk.new (((w.alloc (.cells #[.pointer (some ⟨q, 0, none⟩)] 108)).alloc (.cells #[.slice Au used.length cu] 41)).alloc (.cells #[.slice none 0 0] 41)) 55 #[.nilIface]).alloc (.cells #[.slice none 0 0] 41)
      simpa using this
    have k8 : Blk (((((w.alloc (.cells #[.pointer (some ⟨q, 0, none⟩)] 108)).alloc (.cells #[.slice Au used.length cu] 41)).alloc (.cells #[.slice none 0 0] 41)).alloc (.cells #[.nilIface] 55)).alloc (.cells #[.slice none 0 0] 41)) (w.heap.size + 1 + 1 + 1 + 1) 41 #[.slice none 0 0] := by
      have := Blk.new ((((w.alloc (.cells #[.pointer (some ⟨q, 0, none⟩)] 108)).alloc (.cells #[.slice Au used.length cu] 41)).alloc (.cells #[.slice none 0 0] 41)).alloc (.cells #[.nilIface] 55)) 41 #[.slice none 0 0]
      simpa using this
    exact ⟨k3, k5, k6, k7, ⟨none, 0, k8, World.ownsRow_nil _ _ _ _⟩, hc.below hb5, .of_below hb5, hpw, hqw, hB0, hbb⟩
  have hsz5 : w.heap.size + 1 + 1 + 1 + 1 < (((((w.alloc (.cells #[.pointer (some ⟨q, 0, none⟩)] 108)).alloc (.cells #[.slice Au used.length cu] 41)).alloc (.cells #[.slice none 0 0] 41)).alloc (.cells #[.nilIface] 55)).alloc (.cells #[.slice none 0 0] 41)).heap.size := by simp
  clear h hc hl hu hd hok hb5
  refine (callsIn_wide (n := 6)).1 ?_
  refine callsIn_of_wp_marks Try.func112 rfl trivial ?_ rfl
  simp only [Try.ntmps112, List.size_toArray, List.length_cons, List.length_nil, Nat.reduceAdd, Nat.reduceSub, Array.replicate_succ, Array.replicate_zero, List.push_toArray, List.append_toArray, List.nil_append, List.cons_append]
  refine wpIn_wide.2 ?_
  go_wp2_with fail
  generalize hWL : (((((w.alloc (.cells #[.pointer (some ⟨q, 0, none⟩)] 108)).alloc (.cells #[.slice Au used.length cu] 41)).alloc (.cells #[.slice none 0 0] 41)).alloc (.cells #[.nilIface] 55)).alloc (.cells #[.slice none 0 0] 41)) = WL at *
  clear hWL
  refine (chunk_any A l.length cp 14 (by decide) WL).mono ?_
  rintro e10 w10 ⟨rfl, rfl⟩
  have hTL : TbS B q p (.slice Au used.length cu) w (WL.heap.size + 2) c [] ((WL.alloc (.cells #[(.slice A l.length cp)] 32)).alloc (.cells #[.int .i64 14] 3)) := by
    have h := HT0.out (WL.heap.size + 2) (by omega)
    exact (h.below ((Below.refl _ _).alloc (Nat.le_refl _) _)).below ((Below.refl _ _).alloc (Nat.le_refl _) _)
  have HTL := Lib.hid hTL
  have HBs : Blk ((WL.alloc (.cells #[(.slice A l.length cp)] 32)).alloc (.cells #[.int .i64 14] 3)) WL.heap.size 32 #[(.slice A l.length cp)] := (Blk.new WL _ _).alloc _
  have HBn : Blk ((WL.alloc (.cells #[(.slice A l.length cp)] 32)).alloc (.cells #[.int .i64 14] 3)) (WL.heap.size + 1) 3 #[.int .i64 (14 : Nat)] := by
    have := Blk.new (WL.alloc (.cells #[(.slice A l.length cp)] 32)) 3 #[.int .i64 14]
    simpa using this
  have hps : WL.heap.size + 2 ≤ ((WL.alloc (.cells #[(.slice A l.length cp)] 32)).alloc (.cells #[.int .i64 14] 3)).heap.size := by simp
  generalize hWW : ((WL.alloc (.cells #[(.slice A l.length cp)] 32)).alloc (.cells #[.int .i64 14] 3)) = WW at *
  generalize WL.heap.size = Bs at *
  clear hWW hTL HT0
  go_wp2_with fail
  refine (wpIn_wide (n := 6)).1 ?_
  refine wpIn_rangeFunc_ownF (n := 6) rfl (by decide) (gf := 138) (lb := #[.pointer (some ⟨Bs, 0, none⟩), .pointer (some ⟨Bs + 1, 0, none⟩)]) rfl trivial (enters_of Try.func138 (by kernel_rfl) rfl)
    (chunk_stops 5 (by decide) Bs (Bs + 1) g o l.length cp 14 A hA (by decide) (by decide) (by omega) hc1 hc2 WW HBs HBn) kpc_t (fun W k o o' hk _ _ _ => kpc_b (Bs := Bs) (Bn := Bs + 1) W k o' (by omega) (by omega)) (Below.refl _ _) (fun _ => rfl)
    (fun pre W => ∃ (c' : Chip) (out : List Int), (∀ ps, tablesM used (ckQs l pre ++ ps) c [] = tablesM used ps c' out) ∧ c'.down = false ∧ out.length ≤ 14 * pre.length ∧ TbS B q p (.slice Au used.length cu) w (Bs + 2) c' out W ∧ Bs + 2 ≤ W.heap.size)
    (fun cde pre W => cde = .ret ∧ ∃ (c' : Chip) (n : Nat), n ≠ 0 ∧ (∀ ps, tablesM used (ckQs l pre ++ ps) c [] = (c', [], n)) ∧ TbR B p w n c' W)
    (fun s A' B' row hs hg hr => by obtain ⟨c', out, h1, h2, h3, h4, h5⟩ := hs; exact ⟨c', out, h1, h2, h3, h4.grown hg hr (by omega), Nat.le_trans h5 hg.size⟩)
    (fun cde s A' B' row hs hg hr => by obtain ⟨h0, c', n, h1, h2, h3⟩ := hs; exact ⟨h0, c', n, h1, h2, h3.grown hg hr (by omega)⟩)
    ⟨c, [], fun ps => rfl, HD.out, by simp, HTL.out, by omega⟩ ?a1 ?assign ?body ?done ?stop
  case assign =>
    intro l0 x W K hK
    simp only [ckVal]
    gi_wp2
    exact hK
  case body =>
    rintro l0 pre ⟨k, hkx⟩ W ⟨c0, out, hst, hdn, hol, hT, hWs⟩ hpre
    obtain rfl := hA (by omega)
    obtain ⟨m, hm⟩ : ∃ m, min 14 (l.length - 14 * k) = m := ⟨_, rfl⟩
    have hen : ∀ W', Fr B (· = p) w W' → Ents B W' (.slice (some ⟨g, o + 14 * k * 3, none⟩) m m) (ckList 14 l k) := fun W' hf => by
      have := ents_chunk (nn := 14) (k := k) (HL.out.fr hf)
      rw [hm] at this
      exact this
    have HEN := Lib.hid hen
    have htf : tabF (ckList 14 l k) = 0 := by
      refine HOK.out _ (List.mem_map.2 ⟨k, ?_, rfl⟩)
      rw [List.mem_range]
      omega
    have HTF := Lib.hid htf
    have hst' : ∀ ps, tablesM used (ckQs l (pre ++ [⟨k, hkx⟩]) ++ ps) c [] = tablesM used (ckList 14 l k :: ps) c0 out := fun ps => by rw [ckQs_snoc, hst]
    have HST := Lib.hid hst'
    have hg0 : goods c0 < 25 := by have := goods_le c0; omega
    have HT1 := Lib.hid hT
    have HD0 := Lib.hid hdn
    have hol2 : out.length ≤ 14 * l.length := by have : 14 * pre.length ≤ 14 * l.length := Nat.mul_le_mul_left _ (by omega); omega
    simp only [hm]
    clear hm hen htf hst hst' hT hdn
    gi_wp2_with fail
    gi_loopg [10] 25 (fun gk b W' => ∃ c' : Chip, Hid (TbS B q p (.slice Au used.length cu) w (Bs + 2) c' out W') ∧ Hid (KeepT Bs W W') ∧ Hid (seek (fun c b => tabWrite c b (ckList 14 l k)) (used ++ out) gk c' = seek (fun c b => tabWrite c b (ckList 14 l k)) (used ++ out) 25 c0) ∧ goods c' < gk ∧ Hid (c'.down = false))
    case atStart => exact ⟨c0, HT1.out, KeepT.refl _ _, rfl, hg0, HD0.out⟩
    case round =>
      obtain ⟨c', hT2, hK2, hs2, hg2, hd2⟩ := hrel
      clear hg0 HD0
      obtain ⟨gn, rfl⟩ : ∃ gn, gk = gn + 1 := ⟨gk - 1, by omega⟩
      obtain ⟨Ao, co, hbo, hown⟩ := hT2.out.bo
      have y0 := hT2.out.b3.cell 0
      have y1 := hT2.out.b5.cell 0
      have y2 := hbo.cell 0
      simp at y0 y1 y2
      have y3 := HX0.out wr hT2.out.fr
      have hsw := hT2.out.fr.size
      have hkw := hK2.out.size
      have HSK : Hid (∀ W', Below wr.heap.size wr W' → W'.cell? ⟨w.heap.size, 0, none⟩ = some (.pointer (some ⟨q, 0, none⟩)) ∧ W'.cell? ⟨q, 0, none⟩ = some (.pointer (some ⟨p, 0, none⟩)) ∧ W'.cell? ⟨w.heap.size + 1, 0, none⟩ = some (.slice Au used.length cu) ∧ W'.cell? ⟨w.heap.size + 1 + 1 + 1 + 1, 0, none⟩ = some (.slice Ao out.length co)) := by
        intro W' hb
        have h := hT2.out.below hb
        have a0 := h.b3.cell 0
        have a1 := h.b5.cell 0
        have a2 := (hbo.below hb hbo.lt).cell 0
        simp at a0 a1 a2
        exact ⟨a0, HX0.out W' h.fr, a1, a2⟩
      have hbI : Below wr.heap.size wr (wr.alloc (.cells #[.slice Au used.length cu, .slice Ao out.length co] 41)).drew := ((Below.refl _ _).alloc (Nat.le_refl _) _).drew
      have hCC : Calls Try.prog 98 #[.slice (some ⟨wr.heap.size, 0, none⟩) 2 2] (wr.alloc (.cells #[.slice Au used.length cu, .slice Ao out.length co] 41)).drew fun e w3 => ∃ v3, e = .returned v3 ∧ Ints B w3 v3 (used ++ out) ∧ Below wr.heap.size wr w3 := by
        refine (concat_rd B _ _ _ used out _ (Blk.drewN (Blk.new wr 41 #[.slice Au used.length cu, .slice Ao out.length co]) 1) ((HU.out.fr hT2.out.fr).below hbI) (Ints.below (Rd.of_own hown) hbI) (by omega) (by omega)).mono ?_
        rintro e w3 ⟨v3, h1, h2, h3⟩
        exact ⟨v3, h1, h2, hbI.trans (h3.mono (by simp))⟩
      have HCC := Lib.hid hCC
      have HBI := Lib.hid hbI
      clear hCC hbI
      gi_wp2_with fail
      refine region_in (S := fun w' => w'.cell? ⟨w.heap.size, 0, none⟩ = some (.pointer (some ⟨q, 0, none⟩)) ∧ w'.cell? ⟨q, 0, none⟩ = some (.pointer (some ⟨p, 0, none⟩)) ∧ w'.cell? ⟨w.heap.size + 1, 0, none⟩ = some (.slice Au used.length cu) ∧ w'.cell? ⟨w.heap.size + 1 + 1 + 1 + 1, 0, none⟩ = some (.slice Ao out.length co)) (by kernel_rfl) (by kernel_rfl) ?_ ⟨y0, y3, y1, y2⟩ (fun hHeld => ?_)
      · rintro ⟨a, w, h⟩
        exact h
      refine wpAnyH_take (i := 0) (oi := ⟨some 15, _, _, _, _, _⟩) (v := .pointer (some ⟨q, 0, none⟩)) rfl (by kernel_rfl) (by kernel_rfl) (by kernel_rfl) (fun _ _ _ h => h) (Or.inl ⟨by rfl, ?_⟩) (by assumption) ?_
      · intro wS hSw
        go_simp
      simp only [Act.put, List.setIfInBounds_toArray, List.set_cons_zero, List.set_cons_succ]
      refine wpAnyH_take (i := 1) (oi := ⟨some 16, _, _, _, _, _⟩) (v := .pointer (some ⟨q, 0, none⟩)) rfl (by kernel_rfl) (by kernel_rfl) (by kernel_rfl) (fun _ _ _ h => h) (Or.inl ⟨by rfl, ?_⟩) (by assumption) ?_
      · intro wS hSw
        go_simp
      simp only [Act.put, List.setIfInBounds_toArray, List.set_cons_zero, List.set_cons_succ]
      refine wpAnyH_take (i := 2) (oi := ⟨some 17, _, _, _, _, _⟩) (v := .pointer (some ⟨q, 0, none⟩)) rfl (by kernel_rfl) (by kernel_rfl) (by kernel_rfl) (fun _ _ _ h => h) (Or.inl ⟨by rfl, ?_⟩) (by assumption) ?_
      · intro wS hSw
        go_simp
      simp only [Act.put, List.setIfInBounds_toArray, List.set_cons_zero, List.set_cons_succ]
      refine wpAnyH_take (i := 3) (oi := ⟨some 18, _, _, _, _, _⟩) (v := .pointer (some ⟨p, 0, none⟩)) rfl (by kernel_rfl) (by kernel_rfl) (by kernel_rfl) (fun _ _ _ h => h) (Or.inl ⟨by rfl, ?_⟩) (by assumption) ?_
      · intro wS hSw
        go_simp
      simp only [Act.put, List.setIfInBounds_toArray, List.set_cons_zero, List.set_cons_succ]
      refine wpAnyH_take (i := 4) (oi := ⟨some 19, _, _, _, _, _⟩) (v := .slice Au used.length cu) rfl (by kernel_rfl) (by kernel_rfl) (by kernel_rfl) (fun _ _ _ h => h) (Or.inl ⟨by rfl, ?_⟩) (by assumption) ?_
      · intro wS hSw
        go_simp
      simp only [Act.put, List.setIfInBounds_toArray, List.set_cons_zero, List.set_cons_succ]
      refine wpAnyH_take (i := 5) (oi := ⟨some 20, _, _, _, _, _⟩) (v := .slice Ao out.length co) rfl (by kernel_rfl) (by kernel_rfl) (by kernel_rfl) (fun _ _ _ h => h) (Or.inl ⟨by rfl, ?_⟩) (by assumption) ?_
      · intro wS hSw
        go_simp
      simp only [Act.put, List.setIfInBounds_toArray, List.set_cons_zero, List.set_cons_succ]
      refine wpAnyH_ready (rs := [6]) (by kernel_rfl) (by simp) ?_
      refine AllReadyH.cons (o := ⟨some 21, _, _, _, _, _⟩) rfl (fun K hK => ?_) AllReadyH.nil
      go_simp
      refine hK.out _ _ ?_ (fun hHeld => ?_)
      · exact HSK.out _ HBI.out
      clear hK K
      try simp only [Act.put, List.setIfInBounds_toArray, List.set_cons_zero, List.set_cons_succ]
      refine wpAnyH_ready (rs := [7]) (by kernel_rfl) (by simp) ?_
      refine AllReadyH.cons (o := ⟨some 22, _, _, _, _, _⟩) rfl (fun K hK => ?_) AllReadyH.nil
      go_simp
      refine HCC.out.mono ?_
      rintro e w3 ⟨v3, rfl, hi3, hb3⟩
      obtain ⟨A3, c3, hv3, _, _, _⟩ := hi3.form
      rw [List.length_append] at hv3
      subst hv3
      refine hK.out _ _ ?_ (fun hHeld => ?_)
      · exact HSK.out _ hb3
      clear hK K
      have HT3 := Lib.hid (hT2.out.below hb3)
      have HK3 := Lib.hid (hK2.out.trans (KeepT.below hb3 (by omega)))
      have HFR := Lib.hid (free_any B p c' _ (used ++ out) w3 HT3.out.rep hi3)
      have hbo3 := hbo.below hb3 hbo.lt
      have hown3 := own_below hown hb3
      have hs3 := hb3.size
      have HBO3 := Lib.hid hbo3
      have HOW3 := Lib.hid hown3
      clear hi3 hb3 hbo hown hbo3 hown3 HCC HBI HSK y0 y1 y2 y3
      try simp only [Act.put, List.setIfInBounds_toArray, List.set_cons_zero, List.set_cons_succ]
      have hsk := hs2.out
      rw [seek] at hsk
      obtain ⟨z0, z3, z1, z2⟩ := hHeld
      have hHeld : w3.cell? ⟨w.heap.size, 0, none⟩ = some (.pointer (some ⟨q, 0, none⟩)) ∧ w3.cell? ⟨q, 0, none⟩ = some (.pointer (some ⟨p, 0, none⟩)) ∧ w3.cell? ⟨w.heap.size + 1, 0, none⟩ = some (.slice Au used.length cu) ∧ w3.cell? ⟨w.heap.size + 1 + 1 + 1 + 1, 0, none⟩ = some (.slice Ao out.length co) := ⟨z0, z3, z1, z2⟩
      rcases freeM_spec c' (used ++ out) with ⟨hb, _⟩ | ⟨b, hb, b1, b2, b3, _⟩
      · rw [hb] at HFR hsk
        rw [if_pos (by omega)] at hsk
        have HX : Hid (∀ ps, tablesM used (ckQs l (pre ++ [⟨k, hkx⟩]) ++ ps) c [] = (c', [], 8)) := by
          intro ps
          rw [HST.out, tablesM, ← hsk]
          rfl
        clear hb hsk hs2
        refine wpAnyH_ready (rs := [8]) (by kernel_rfl) (by simp) ?_
        refine AllReadyH.cons (o := ⟨some 23, _, _, _, _, _⟩) rfl (fun K hK => ?_) AllReadyH.nil
        go_simp
        refine HFR.out.mono ?_
        rintro e w4 ⟨rfl, rfl⟩
        refine hK.out _ _ hHeld (fun _ => ?_)
        clear hK K
        try simp only [Act.put, List.setIfInBounds_toArray, List.set_cons_zero, List.set_cons_succ]
        refine wpAnyH_ready (rs := [9]) (by kernel_rfl) (by simp) ?_
        refine AllReadyH.cons (o := ⟨some 10, _, _, _, _, _⟩) rfl (fun K hK => ?_) AllReadyH.nil
        go_simp
        refine hK.out _ _ hHeld (fun _ => ?_)
        clear hK K HFR
        try simp only [Act.put, List.setIfInBounds_toArray, List.set_cons_zero, List.set_cons_succ]
        refine wpAnyH_done (by kernel_rfl) ?_ _
        have t1 : decide ((-1 : Int) < 0) = true := by decide
        have f6 := HT3.out.b6.frozen 0
        have f7 := HT3.out.b7.frozen 0
        have r6 := HT3.out.b6.cell 0
        have r7 := HT3.out.b7.cell 0
        have l6 := HT3.out.b6.lt
        have l7 := HT3.out.b7.lt
        simp at r6 r7
        clear hHeld z0 z1 z2 z3
        gi_wp2_with fail
        exact ⟨(HK3.out.trans (HT3.out.res (by omega) _ _)).others, rfl, c', 8, by decide, HX.out, HT3.out.stop 8⟩
      · rw [hb] at HFR hsk
        rw [if_neg (by omega)] at hsk
        have htw := twrite_any B p c' (b : Int) _ (ckList 14 l k) w3 HT3.out.rep (HEN.out w3 HT3.out.fr) HTF.out
        have h7 := tab_seven HT3.out.rep.wf hd2.out b2 b3 HTF.out
        have h0 := tab_zero HT3.out.rep.wf hd2.out b2 b3 HTF.out
        have HXE : Hid (∀ (c2 : Chip) (n : Nat), n ≠ 0 → (c2, (0 : Int), n) = seek (fun c b => tabWrite c b (ckList 14 l k)) (used ++ out) 25 c0 → ∀ ps, tablesM used (ckQs l (pre ++ [⟨k, hkx⟩]) ++ ps) c [] = (c2, [], n)) := by
          intro c2 n hn e ps
          rw [HST.out, tablesM, ← e]
          simp only
          rw [if_neg hn]
        have HX0' : Hid (∀ (c2 : Chip), (c2, (b : Int), 0) = seek (fun c b => tabWrite c b (ckList 14 l k)) (used ++ out) 25 c0 → ∀ ps, tablesM used (ckQs l (pre ++ [⟨k, hkx⟩]) ++ ps) c [] = tablesM used ps c2 (out ++ [(b : Int)])) := by
          intro c2 e ps
          rw [HST.out, tablesM, ← e]
          simp only
          rw [if_pos trivial]
        obtain ⟨⟨c2, n⟩, he⟩ : ∃ r, tabWrite c' (b : Int) (ckList 14 l k) = r := ⟨_, rfl⟩
        rw [he] at hsk htw h7 h0
        simp only at hsk h7 h0
        have t1 : decide ((b : Int) < 0) = false := decide_eq_false (by omega)
        have hgs := fun hw => goods_spoil (c := c') b2 b3 hw
        clear hb he hs2
        have HTK : Hid (Calls Try.prog 129 #[.pointer (some ⟨p, 0, none⟩), .int .i64 b, .slice (some ⟨g, o + 14 * k * 3, none⟩) m m] w3 fun e w5 => e = .returned (errV n) ∧ TbS B q p (.slice Au used.length cu) w (Bs + 2) c2 out w5 ∧ KeepT Bs W w5 ∧ Fr B (· = p) w3 w5) := by
          refine htw.mono ?_
          rintro e w5 ⟨h1, h2, h3⟩
          exact ⟨h1, HT3.out.chip h2 h3, HK3.out.trans (KeepT.chip h3 (by omega) (by omega) HT3.out.rep), h3⟩
        clear htw
        by_cases hn7 : n = 7
        · subst hn7
          rw [if_pos rfl] at hsk
          obtain ⟨h71, h72⟩ := h7 rfl
          subst h71
          have hg3 := hgs h72
          have HS := Lib.hid hsk
          have HDN : Hid ((c'.spoil b).down = false) := by rw [Hid, (spoil_rest c' b).1]; exact hd2.out
          rw [show errV 7 = .iface 137 (.int .i64 7) from rfl] at HTK
          clear hsk h7 h0 hgs h72
          refine wpAnyH_ready (rs := [8]) (by kernel_rfl) (by simp) ?_
          refine AllReadyH.cons (o := ⟨some 23, _, _, _, _, _⟩) rfl (fun K hK => ?_) AllReadyH.nil
          go_simp
          refine HFR.out.mono ?_
          rintro e w4 ⟨rfl, rfl⟩
          refine hK.out _ _ hHeld (fun _ => ?_)
          clear hK K
          try simp only [Act.put, List.setIfInBounds_toArray, List.set_cons_zero, List.set_cons_succ]
          refine wpAnyH_ready (rs := [9]) (by kernel_rfl) (by simp) ?_
          refine AllReadyH.cons (o := ⟨some 10, _, _, _, _, _⟩) rfl (fun K hK => ?_) AllReadyH.nil
          go_simp
          refine hK.out _ _ hHeld (fun _ => ?_)
          clear hK K HFR
          try simp only [Act.put, List.setIfInBounds_toArray, List.set_cons_zero, List.set_cons_succ]
          refine wpAnyH_done (by kernel_rfl) ?_ _
          clear hHeld z1 z2
          gi_wp2_with (refine ⟨trivial, ?_⟩; gi_at_call 129; refine (CallsIn.inRound l0 (callsIn_wide.2 HTK.out)).mono ?_; rintro e5 w5 ⟨rfl, ht5, hk5, hf5⟩; have HT5 := Lib.hid ht5; have HK5 := Lib.hid hk5; clear ht5 hk5 hf5)
          gi_roundg gn
          case measure => omega
          case rel => exact ⟨_, HT5, HK5, HS, by omega, HDN⟩
        · by_cases hn0 : n = 0
          · subst hn0
            rw [if_neg hn7, if_pos rfl] at hsk
            have HX := Lib.hid (HX0'.out c2 hsk)
            obtain ⟨hdn2, hpn2⟩ := h0 rfl
            have HDN := Lib.hid hdn2
            have HPN := Lib.hid hpn2
            rw [show errV 0 = .nilIface from rfl] at HTK
            obtain ⟨i0, hi, hz0, hz1, hz2⟩ := info_parts info_int
            clear hsk h7 h0 hgs hdn2 hpn2 hn7
            refine wpAnyH_ready (rs := [8]) (by kernel_rfl) (by simp) ?_
            refine AllReadyH.cons (o := ⟨some 23, _, _, _, _, _⟩) rfl (fun K hK => ?_) AllReadyH.nil
            go_simp
            refine HFR.out.mono ?_
            rintro e w4 ⟨rfl, rfl⟩
            refine hK.out _ _ hHeld (fun _ => ?_)
            clear hK K
            try simp only [Act.put, List.setIfInBounds_toArray, List.set_cons_zero, List.set_cons_succ]
            refine wpAnyH_ready (rs := [9]) (by kernel_rfl) (by simp) ?_
            refine AllReadyH.cons (o := ⟨some 10, _, _, _, _, _⟩) rfl (fun K hK => ?_) AllReadyH.nil
            go_simp
            refine hK.out _ _ hHeld (fun _ => ?_)
            clear hK K HFR
            try simp only [Act.put, List.setIfInBounds_toArray, List.set_cons_zero, List.set_cons_succ]
            refine wpAnyH_done (by kernel_rfl) ?_ _
            clear hHeld z1 z2
            gi_wp2_with (first
              | (refine ⟨trivial, ?_⟩; gi_at_call 129; refine (CallsIn.inRound l0 (callsIn_wide.2 HTK.out)).mono ?_; rintro e5 w5 ⟨rfl, ht5, hk5, hf5⟩; obtain ⟨A6, c6, hbo6, hown6⟩ := ht5.bo; have q8 := hbo6.cell 0; have q8f := hbo6.frozen 0; simp at q8; have HT5 := Lib.hid ht5; have HK5 := Lib.hid hk5; have HBO6 := Lib.hid hbo6; have HOW6 := Lib.hid hown6; have hs5 := hf5.size; clear ht5 hk5 hf5 hbo6 hown6)
              | (gi_at_builtin; refine wpListIn_append_own _ rfl (.tmp 36) (.tmp 38) 41 rfl (Bs + 2) 3 i0 (.int .i64 0) 1 8 Try.underlying41 hi hz0 hz1 hz2 rfl (by decide) _ _ _ rfl (own_alloc HOW6.out (.cells #[.int .i64 b] 3)) ⟨w5.heap.size, 0, none⟩ 1 1 [.int .i64 b] rfl rfl (cell_one w5 b) ints_one1 (by unfold maxLen; omega) (by omega) (by simp; omega) ?_; intro v6 w6 hown7 hg7 _; obtain ⟨A7, c7, rfl⟩ := own_form hown7; have hb7 := HBO6.out.alloc (.cells #[.int .i64 b] 3); have hb8 := hb7.grownO hg7 (own_alloc HOW6.out (.cells #[.int .i64 b] 3)) (by omega); have p8 := hb8.cell 0; have p8f := hb8.frozen 0; have p8l := hb8.lt; simp at p8; have HFI := Lib.hid (TbS.fini (x := b) HT5.out HPN.out HBO6.out HOW6.out HK5.out hown7 hg7 ⟨by omega, by omega⟩ (by omega)); clear hown7 hg7 hb7 hb8))
            clear hi hz0 hz1 hz2
            exact ⟨HFI.out.2.others, ⟨HFI.out.2.s1, HFI.out.2.s2⟩, c2, out ++ [(b : Int)], HX.out, HDN.out, by simp; omega, HFI.out.1, by have := HFI.out.2.size; omega⟩
          · rw [if_neg hn7, if_neg hn0] at hsk
            have HX := Lib.hid (HXE.out c2 n hn0 hsk)
            have he := errV_pos hn0
            have HSTP : Hid (∀ W', TbS B q p (.slice Au used.length cu) w (Bs + 2) c2 out W' → TbR B p w n c2 ((W'.setCell ⟨w.heap.size + 1 + 1, 0, none⟩ (.slice none 0 0)).setCell ⟨w.heap.size + 1 + 1 + 1, 0, none⟩ (.iface 137 (.int .i64 n)))) := fun W' h => by
              have := h.stop n
              rw [he] at this
              exact this
            rw [he] at HTK
            have t2 : (((n : Nat) : Int) == 7) = false := beq_eq_false_iff_ne.2 (by omega)
            have HN0 := Lib.hid hn0
            clear hsk h7 h0 hgs he hn0 hn7
            refine wpAnyH_ready (rs := [8]) (by kernel_rfl) (by simp) ?_
            refine AllReadyH.cons (o := ⟨some 23, _, _, _, _, _⟩) rfl (fun K hK => ?_) AllReadyH.nil
            go_simp
            refine HFR.out.mono ?_
            rintro e w4 ⟨rfl, rfl⟩
            refine hK.out _ _ hHeld (fun _ => ?_)
            clear hK K
            try simp only [Act.put, List.setIfInBounds_toArray, List.set_cons_zero, List.set_cons_succ]
            refine wpAnyH_ready (rs := [9]) (by kernel_rfl) (by simp) ?_
            refine AllReadyH.cons (o := ⟨some 10, _, _, _, _, _⟩) rfl (fun K hK => ?_) AllReadyH.nil
            go_simp
            refine hK.out _ _ hHeld (fun _ => ?_)
            clear hK K HFR
            try simp only [Act.put, List.setIfInBounds_toArray, List.set_cons_zero, List.set_cons_succ]
            refine wpAnyH_done (by kernel_rfl) ?_ _
            clear hHeld z1 z2
            gi_wp2_with (refine ⟨trivial, ?_⟩; gi_at_call 129; refine (CallsIn.inRound l0 (callsIn_wide.2 HTK.out)).mono ?_; rintro e5 w5 ⟨rfl, ht5, hk5, hf5⟩; have HT5 := Lib.hid ht5; have HK5 := Lib.hid hk5; have f6 := ht5.b6.frozen 0; have f7 := ht5.b7.frozen 0; have l6 := ht5.b6.lt; have l7 := ht5.b7.lt; have r6 := ht5.b6.cell 0; have r7 := ht5.b7.cell 0; simp at r6 r7; clear ht5 hk5 hf5)
            exact ⟨(HK5.out.trans (HT5.out.res (by omega) _ _)).others, rfl, c2, n, HN0.out, HX.out, HSTP.out _ HT5.out⟩
  case done =>
    rintro D xs W hD ⟨k, hk, rfl⟩ ⟨c', out, h1, h2, h3, h4, h5⟩ hK
    have hend : tablesM used (parts 14 l) c [] = (c', out, 0) := by
      have := h1 []
      rw [List.append_nil, ckQs, ck_parts, List.take_of_length_le (by rw [parts_len]; omega)] at this
      exact this
    have HEND := Lib.hid hend
    obtain ⟨A6, c6, hbo, hown⟩ := h4.bo
    have q8 := hbo.cell 0
    have r6 := h4.b6.cell 0
    have r7 := h4.b7.cell 0
    have f6 := h4.b6.frozen 0
    have f7 := h4.b7.frozen 0
    have l6 := h4.b6.lt
    have l7 := h4.b7.lt
    simp at q8 r6 r7
    have HTD := Lib.hid (h4.last (D := D) (by omega) hK rfl hown (.deferred none))
    clear hend h1 h4 hbo hown
    go_wp2_with fail
    have hc6 := HTD.out.2.2.2.1
    have hc7 := HTD.out.2.2.2.2.1
    refine ⟨by simp, .inl ⟨_, _, rfl, run_takeDeferred HTD.out.2.2.2.2.2, ?_⟩⟩
    refine ⟨.tuple #[.slice A6 out.length c6, .nilIface], by simp [results, Try.results112, go_sem, hc6, hc7], ?_⟩
    rw [HEND.out]
    exact ⟨_, rfl, HTD.out.2.2.1, HTD.out.1, HTD.out.2.1⟩
  case stop =>
    rintro D cde pre W hD ⟨k, rfl⟩ ⟨rfl, c', n, hn, hst, hR⟩ hK
    have hend : tablesM used (parts 14 l) c [] = (c', [], n) := by
      have := hst ((parts 14 l).drop k)
      rw [ckQs, ck_parts, List.take_append_drop] at this
      exact this
    have HEND := Lib.hid hend
    clear hend hst
    gi_wp2
    have hTD := hR.grown (grownBy_putObj' W D (.deferred none)) (fun r e => by cases e; exact ⟨hD, _, hK, rfl⟩) (by omega)
    have hc6 := hTD.b6.cell 0
    have hc7 := hTD.b7.cell 0
    simp at hc6 hc7
    refine ⟨by simp, .inl ⟨_, _, rfl, run_takeDeferred hK, ?_⟩⟩
    refine ⟨.tuple #[.slice none 0 0, errV n], by simp [results, Try.results112, go_sem, hc6, hc7], ?_⟩
    rw [HEND.out]
    exact ⟨_, rfl, Rd.nil _ _ _ _, hTD.rep, hTD.fr⟩
end Go.Proofs.Ytaepdbkfaoiimaa
/- The contract of table.Get. Conditions: the block holds a table. -/
set_option linter.unusedVariables false
set_option linter.unusedSimpArgs false
namespace Go.Proofs.Ytaepdbkfaoiimaa
open Go.RowKit
attribute [local go_sem ↓] eql_err eql_nilerr neq_err neq_nilerr guard_err guard_nilerr guardn_err guardn_nilerr
end Go.Proofs.Ytaepdbkfaoiimaa
/- The contracts of store.Rows, Get. Conditions: none but those that each names. -/
set_option linter.unusedVariables false
set_option linter.unusedSimpArgs false
namespace Go.Proofs.Ytaepdbkfaoiimaa
open Go.RowKit
attribute [local go_sem ↓] eql_err eql_nilerr neq_err neq_nilerr guard_err guard_nilerr guardn_err guardn_nilerr
theorem orbitQ (l : List ByteArray) : ∀ (n i : Nat), n.testBit i = true → (l.foldl (fun f s => f ||| spBits s) n).testBit i = true := by
  induction l with
  | nil => intro n i h; exact h
  | cons s l ih => intro n i h; exact ih _ _ (by rw [Nat.testBit_or, h, Bool.true_or])
theorem spaQ (s : ByteArray) : (spBits s).testBit (spA s) = true := by rw [spBits, Nat.testBit_or, Nat.testBit_two_pow_self, Bool.true_or]
theorem spbQ (s : ByteArray) : (spBits s).testBit (spB s) = true := by rw [spBits, Nat.testBit_or, Nat.testBit_two_pow_self, Bool.or_true]
theorem ormemQ (l : List ByteArray) (s : ByteArray) (h : s ∈ l) : ∀ (n i : Nat), (spBits s).testBit i = true → (l.foldl (fun f s => f ||| spBits s) n).testBit i = true := by
  induction l with
  | nil => cases h
  | cons a l ih =>
    intro n i hi
    rcases List.mem_cons.1 h with rfl | h
    · exact orbitQ l _ _ (by rw [Nat.testBit_or, hi, Bool.or_true])
    · exact ih h _ _ hi
theorem maymemQ (l : List ByteArray) (s : ByteArray) (h : s ∈ l) : mayB (fOf l) s = true := by
  rw [mayB, fOf, ormemQ l s h _ _ (spaQ s), ormemQ l s h _ _ (spbQ s)]; rfl
theorem maygetQ (l : List Ent) (key : ByteArray) (h : mayB (fOf (l.map Ent.k)) key = false) : getE l key = none := by
  cases hg : getE l key with
  | none => rfl
  | some e =>
    obtain ⟨h1, h2⟩ := getE_mem hg
    rw [← h2, maymemQ _ _ (List.mem_map.2 ⟨e, h1, rfl⟩)] at h
    cases h

theorem sum_tabs : ∀ (ls : List (List Ent)), (∀ l ∈ ls, tabF l = 0) → sumLen ls ≤ 14 * ls.length
  | [], _ => by simp [sumLen]
  | l :: ls, h => by
    have h1 := sum_tabs ls fun x hx => h x (by simp [hx])
    have h2 := (tabF_parts (h l (by simp))).2.1
    simp only [sumLen, List.map_cons, List.sum_cons, List.length_cons] at *
    omega
theorem sum_lists {c : Chip} {s : SM} (hi : Inv c s) : sumLen (s.mem :: s.tabs) ≤ 1000 ∧ s.tabs.length ≤ 8 := by
  have h1 := sum_tabs s.tabs (tabsAt_ok hi.body.tabs)
  have h2 := tabsAt_len hi.body.tabs
  have h3 := hi.body.nwl
  have h4 := hi.body.odl
  have h5 := Fallen.mem_len hi
  rw [List.length_append] at h2
  simp only [sumLen, List.map_cons, List.sum_cons] at *
  omega
set_option maxHeartbeats 1000000 in
theorem srows_any (B : Nat) (q p : Nat) (c : Chip) (s : SM) (F : List Nat) (w : World) (h : StoreR B w q p s F) (hc : ChipR B w p c) (hi : Inv c s) :
    Calls Try.prog 106 #[.pointer (some ⟨q, 0, none⟩)] w fun e w' => ∃ v, e = .returned (.tuple #[v, .nilIface]) ∧ Ents B w' v s.rows ∧ Below w.heap.size w w' := by
  have fin : ∀ (wr : World) (tmps : Array Value) (v : Value), Ents B wr v s.rows → Below w.heap.size w wr → tmps[2]? = some v → tmps[3]? = some .nilIface →
      bodyPost Try.prog Try.f106 (fun e w' => ∃ v, e = .returned (.tuple #[v, .nilIface]) ∧ Ents B w' v s.rows ∧ Below w.heap.size w w') .ret { tmps := tmps, defers := [] } wr := by
    intro wr tmps v hv hb t2 t3
    exact bodyPost_ret (v := .tuple #[v, .nilIface]) (by simp [results, Try.results106, go_sem, t2, t3]) rfl ⟨v, rfl, hv, hb⟩
  have FIN := Lib.hid fin
  have HL := Lib.hid (lists_any B q p c s F w h hc hi)
  obtain ⟨h1, h2⟩ := sum_lists hi
  have h3 := mergeAll_len (s.mem :: s.tabs)
  have HROW : Hid (liveE (mergeAll (s.mem :: s.tabs)) = s.rows) := rfl
  have h4 : (s.mem :: s.tabs).length ≤ 1000 := by rw [List.length_cons]; omega
  generalize s.mem :: s.tabs = ls at *
  clear fin h hc hi h2
  go_enter Try.func106, Try.ntmps106
  go_wp2_with fail
  refine HL.out.mono ?_
  rintro e w1 ⟨v1, rfl, hv1, hb1⟩
  have HM := Lib.hid (all_any B v1 ls w1 hv1 (by omega) (by omega))
  have HB1 := Lib.hid hb1
  clear hv1 hb1 HL
  go_wp2_with fail
  refine HM.out.mono ?_
  rintro e w2 ⟨v2, rfl, hv2, hb2⟩
  have HV := Lib.hid (live_any B v2 _ w2 hv2 (by omega))
  have HB2 := Lib.hid (HB1.out.trans (hb2.mono HB1.out.size))
  clear hv2 hb2 HM
  go_wp2_with fail
  refine HV.out.mono ?_
  rintro e w3 ⟨v3, rfl, hv3, hb3⟩
  rw [HROW.out] at hv3
  have HV3 := Lib.hid hv3
  have HB3 := Lib.hid (HB2.out.trans (hb3.mono HB2.out.size))
  clear hv3 hb3 HV
  go_wp2_with fail
  exact FIN.out _ _ _ HV3.out HB3.out rfl rfl
/-- The first list that has a key tells. -/
def firstE (ls : List (List Ent)) (key : ByteArray) : Option Ent := ls.findSome? (fun l => getE l key)
theorem firstE_eq (key : ByteArray) : ∀ {ls : List (List Ent)}, (∀ l ∈ ls, Rises l) → getE (mergeAll ls) key = firstE ls key
  | [], _ => rfl
  | l :: ls, h => by
    rw [get_mergeAll_cons (h l (by simp)) (fun x hx => h x (by simp [hx])), firstE_eq key (fun x hx => h x (by simp [hx]))]
    unfold firstE
    rw [List.findSome?_cons]
    cases getE l key <;> rfl
/-- What a key has. -/
def SM.get (s : SM) (key : ByteArray) : Option Ent := (getE s.mem key).or (firstE s.tabs key)
theorem SM.get_rows {c : Chip} {s : SM} (hi : Inv c s) (key : ByteArray) : getE s.rows key = (s.get key).filter (fun e => !e.g) := by
  unfold SM.get SM.rows
  rw [rows_get hi.body.mem hi.body.tab, firstE_eq key hi.body.tab]
theorem firstE_drop {ls : List (List Ent)} {k : Nat} {l : List Ent} (h : ls[k]? = some l) (key : ByteArray) : firstE (ls.drop k) key = (getE l key).or (firstE (ls.drop (k + 1)) key) := by
  have hk : k < ls.length := by
    rcases Nat.lt_or_ge k ls.length with h' | h'
    · exact h'
    · rw [List.getElem?_eq_none h'] at h; cases h
  rw [List.drop_eq_getElem_cons hk]
  rw [List.getElem?_eq_getElem hk] at h
  cases h
  unfold firstE
  rw [List.findSome?_cons]
  cases getE ls[k] key <;> rfl
/-- What is told of a key. -/
def toldV (o : Option Ent) : Value := .tuple #[.string (o.getD Ent.zero).v, .bool (o.isSome && !(o.getD Ent.zero).g), .nilIface]
end Go.Proofs.Ytaepdbkfaoiimaa
/- The contracts of store.Compact, few, flush, Flush. Conditions: the store is sound. -/
set_option linter.unusedVariables false
set_option linter.unusedSimpArgs false
namespace Go.Proofs.Ytaepdbkfaoiimaa
open Go.RowKit
attribute [local go_sem ↓] eql_err eql_nilerr neq_err neq_nilerr guard_err guard_nilerr guardn_err guardn_nilerr
/-- What a function of the store leaves, that answers an error. -/
def SPost (B q p : Nat) (F : List Nat) (w : World) (r : Chip × SM × Nat) (e : Ending) (w' : World) : Prop :=
  e = .returned (errV r.2.2) ∧ ChipR B w' p r.1 ∧ (∃ F', StoreR B w' q p r.2.1 F' ∧ ∀ b ∈ F', b ∈ F ∨ w.heap.size ≤ b) ∧ Fr B (· ∈ q :: p :: F) w w'
theorem Lss.cut {B : Nat} {w : World} {b o n c : Nat} {y : List Ent} {ys : List (List Ent)} (h : Lss B w (.slice (some ⟨b, o, none⟩) n c) (y :: ys)) :
    Lss B w (.slice (if c = 1 then some ⟨b, o, none⟩ else some ⟨b, o + 1, none⟩) ys.length (c - 1)) ys := by
  obtain ⟨vs, h1, ⟨h2, A, c', h3, h4, h5, h6⟩, h7⟩ := h
  simp only [List.length_cons] at h1 h2 h3 h4 h6
  injection h3 with e1 e2 e3
  subst e1; subst e3
  obtain ⟨x, vs, rfl⟩ : ∃ x vs', vs = x :: vs' := by
    cases vs with
    | nil => simp at h1
    | cons x vs => exact ⟨x, vs, rfl⟩
  have h1 : vs.length = ys.length := by simpa using h1
  have h2 : vs.length + 1 = (ys.length + 1) * 1 := by simpa using h2
  refine ⟨vs, by omega, ⟨by omega, _, _, rfl, by omega, by omega, fun hn => ?_⟩, fun i u l hu hl => h7 (i + 1) u l hu hl⟩
  rw [if_neg (by omega)]
  obtain ⟨b', o', e, hk, hb, hc⟩ := h6 (by omega)
  injection e with e
  injection e with eb eo
  subst eb; subst eo
  refine ⟨_, _, rfl, hk, hb, fun j u hu => ?_⟩
  rw [Nat.add_assoc, Nat.add_comm 1 j]
  exact hc (j + 1) u hu
theorem Lss.cut1 {B : Nat} {w : World} {b o n : Nat} {y : List Ent} {ys : List (List Ent)} (h : Lss B w (.slice (some ⟨b, o, none⟩) n 1) (y :: ys)) :
    Lss B w (.slice (some ⟨b, o, none⟩) ys.length 0) ys := by
  have := h.cut
  rw [if_pos rfl] at this
  exact this
theorem Lss.cut2 {B : Nat} {w : World} {b o n c : Nat} {y : List Ent} {ys : List (List Ent)} (h : Lss B w (.slice (some ⟨b, o, none⟩) n c) (y :: ys)) (hc : c ≠ 1) :
    Lss B w (.slice (some ⟨b, o + 1, none⟩) ys.length (c - 1)) ys := by
  have := h.cut
  rw [if_neg hc] at this
  exact this
theorem tablesM_len (used : List Int) : ∀ (ps : List (List Ent)) (c : Chip) (out : List Int), (tablesM used ps c out).2.1.length ≤ out.length + ps.length
  | [], c, out => by rw [tablesM]; simp
  | x :: ps, c, out => by
    rw [tablesM]
    split
    · have := tablesM_len used ps (seek (fun c b => tabWrite c b x) (used ++ out) 25 c).1 (out ++ [(seek (fun c b => tabWrite c b x) (used ++ out) 25 c).2.1])
      rw [List.length_append] at this
      simp at this ⊢
      omega
    · simp
theorem comp_ok {c c1 c2 : Chip} {s s2 : SM} {o : List Int} {n : Nat} (h1 : tablesM s.m.all (parts 14 (liveE (mergeAll s.tabs))) c [] = (c1, o, 0)) (h2 : noteM c1 s ⟨0, s.m.log, [], o⟩ = (c2, s2, n)) :
    compM c s = (c2, if n = 0 then { s2 with tabs := parts 14 (liveE (mergeAll s.tabs)) } else s2, n) := by
  unfold compM
  rw [h1]
  simp only
  rw [if_neg (by simp), h2]
  simp only
  by_cases hn : n = 0
  · subst hn; rw [if_pos rfl, if_pos rfl]
  · rw [if_neg hn, if_neg hn]
theorem comp_bad {c c1 : Chip} {s : SM} {o : List Int} {n : Nat} (h1 : tablesM s.m.all (parts 14 (liveE (mergeAll s.tabs))) c [] = (c1, o, n)) (hn : n ≠ 0) : compM c s = (c1, s, n) := by
  unfold compM
  rw [h1]
  simp only
  rw [if_pos hn]
theorem StoreR.tabs {B q p : Nat} {w : World} {s : SM} {F : List Nat} (h : StoreR B w q p s F) (t : List (List Ent)) : StoreR B w q p { s with tabs := t } F := h
theorem StoreR.ite {B q p : Nat} {w : World} {s : SM} {F : List Nat} {P : Prop} [Decidable P] (h : StoreR B w q p s F) (t : List (List Ent)) : StoreR B w q p (if P then { s with tabs := t } else s) F := by split <;> exact h
set_option maxRecDepth 20000 in
set_option maxHeartbeats 4000000 in
theorem compact_any (B : Nat) (q p : Nat) (c : Chip) (s : SM) (F : List Nat) (w : World) (h : StoreR B w q p s F) (hc : ChipR B w p c) (hi : Inv c s) :
    Calls Try.prog 74 #[.pointer (some ⟨q, 0, none⟩)] w (SPost B q p F w (compM c s)) := by
  have hB0 : B ≤ w.heap.size := Nat.le_of_lt (Nat.lt_of_le_of_lt h.base h.lt)
  have hlt := h.lt
  obtain ⟨hsum, htl⟩ := sum_lists hi
  have hsum2 : sumLen s.tabs ≤ 1000 := by simp only [sumLen, List.map_cons, List.sum_cons] at hsum ⊢; omega
  have hml := mergeAll_len s.tabs
  have hll := liveE_len (mergeAll s.tabs)
  have hpl : (parts 14 (liveE (mergeAll s.tabs))).length ≤ 100 := by rw [parts_len]; omega
  have hnl := hi.body.nwl
  have hol := hi.body.odl
  have hat := hi.head.at_
  have hal : s.m.all.length ≤ 9 := by simp [Man.all]; omega
  have hep0 := (fault_zero.1 hi.body.fault).1
  have hep1 := (fault_zero.1 hi.body.fault).2.1
  have HLI := Lib.hid (lists_any B q p c s F w h hc hi)
  have HS := Lib.hid h
  have HC := Lib.hid hc
  have HUP := Lib.hid hi.up
  have HOK := Lib.hid (parts_ok (rises_live (rises_mergeAll hi.body.tab)) (faults_live hi.body))
  have hlen := tablesM_len s.m.all (parts 14 (liveE (mergeAll s.tabs))) c []
  have hcok := fun c1 c2 s2 o n => comp_ok (c := c) (c1 := c1) (c2 := c2) (s := s) (s2 := s2) (o := o) (n := n)
  have hcbad := fun c1 o n => comp_bad (c := c) (c1 := c1) (s := s) (o := o) (n := n)
  have hx2 : w.cell? ⟨q, 2, none⟩ = some (.int .i64 s.m.log) := by
    obtain ⟨A1, c1, A2, c2, t, n, hk, _⟩ := h
    have := hk.cell 2
    simpa using this
  have HX2 : Hid (∀ W, Fr B (· = p) w W → W.cell? ⟨q, 2, none⟩ = some (.int .i64 s.m.log)) := by
    intro W hf
    obtain ⟨A1, c1, A2, c2, t, n, hk, _⟩ := h.fr hf (h.apart hc)
    have := hk.cell 2
    simpa using this
  generalize hL : liveE (mergeAll s.tabs) = L at *
  have HMA : Hid (liveE (mergeAll s.tabs) = L) := hL
  generalize hT : tablesM s.m.all (parts 14 L) c [] = T at *
  have HT : Hid (tablesM s.m.all (parts 14 L) c [] = T) := hT
  obtain ⟨c1, o, n1⟩ := T
  simp only at hlen
  clear hi h hc hL hT hx2
  go_enter Try.func74, Try.ntmps74
  go_wp2_with fail
  refine HLI.out.mono ?_
  rintro e w1 ⟨v1, rfl, hv1, hb1⟩
  obtain ⟨A1, k1, rfl, g1, g2, hcell⟩ := hv1.form
  obtain ⟨bb, oo, u, rfl, _⟩ := hcell 0 s.mem rfl
  have HB1 := Lib.hid hb1
  have hk1 : 1 ≤ k1 := by simp at g1; omega
  by_cases hk2 : k1 = 1
  · subst hk2
    have HALL := Lib.hid (all_any B _ s.tabs w1 hv1.cut1 (by omega) (by omega))
    clear hcell hv1 hb1 HLI g1
    rw [List.length_cons]
    go_wp2_with fail
    refine HALL.out.mono ?_
    rintro e w2 ⟨v2, rfl, hv2, hb2⟩
    have HLV := Lib.hid (live_any B v2 _ w2 hv2 (by omega))
    have HB2 := Lib.hid (HB1.out.trans (hb2.mono HB1.out.size))
    clear hv2 hb2 HALL HB1
    go_wp2_with fail
    refine HLV.out.mono ?_
    rintro e w3 ⟨v3, rfl, hv3, hb3⟩
    rw [HMA.out] at hv3
    have HV3 := Lib.hid hv3
    have HB3 := Lib.hid (HB2.out.trans (hb3.mono HB2.out.size))
    have HU := Lib.hid (used_any B q p s F w3 (HS.out.below HB3.out) (by omega) (by omega))
    clear hv3 hb3 HLV HB2
    go_wp2_with fail
    refine HU.out.mono ?_
    rintro e w4 ⟨v4, rfl, hu4, hb4⟩
    have HB4 := Lib.hid (HB3.out.trans (hb4.mono HB3.out.size))
    have HTB := Lib.hid (tables_any B q p c s F v3 v4 L s.m.all w4 (HS.out.below HB4.out) (HC.out.below HB4.out) (HV3.out.below hb4) hu4 HUP.out HOK.out (by omega) (by omega))
    rw [HT.out] at HTB
    simp only at HTB
    have HF4 : Hid (Fr B (· ∈ q :: p :: F) w w4) := Fr.of_below HB4.out
    have HS4 := Lib.hid (HS.out.below HB4.out)
    have HC4 := Lib.hid (HC.out.below HB4.out)
    clear hu4 hb4 HU HV3 HB3
    by_cases hn : n1 = 0
    · subst hn
      rw [show errV 0 = Value.nilIface from rfl] at HTB
      have hol2 : o.length ≤ 100 := by simp at hlen; omega
      have HCOK := Lib.hid (fun c2 s2 n => hcok c1 c2 s2 o n)
      clear hcok hcbad hlen
      go_wp2_with fail
      refine HTB.out.mono ?_
      rintro e w5 ⟨vo, rfl, ho5, hc5, hf5⟩
      obtain ⟨A5, k5, rfl, _, _, kX⟩ := ho5.form
      have hs5 := HS4.out.chip HC4.out hf5
      have x2 := HX2.out w5 ((Fr.of_below HB4.out).trans' hf5 (fun _ _ h => h))
      have HF5 : Hid (Fr B (· ∈ q :: p :: F) w w5) := HF4.out.trans' hf5 (fun b _ e => by subst e; simp)
      have HNT := Lib.hid (snote_any B q p c1 s F (.agg #[.int .i64 0, .int .i64 s.m.log, .slice none 0 0, .slice A5 o.length k5]) ⟨0, s.m.log, [], o⟩ w5 hs5 hc5 ⟨_, _, rfl, Rd.nil _ _ _ _, ho5⟩ (by simp) (by simpa using (by omega : o.length ≤ 1000)) hat (by omega) (by omega))
      clear kX ho5 hc5 hf5 hs5 HTB
      generalize hN : noteM c1 s ⟨0, s.m.log, [], o⟩ = N at *
      obtain ⟨c2, s2, n2⟩ := N
      have HCM := Lib.hid (HCOK.out c2 s2 n2 trivial (by rw [← hN]))
      simp only at HNT
      clear hN
      go_wp2_with fail
      refine HNT.out.mono ?_
      rintro e w6 ⟨rfl, hc6, hs6, hf6⟩
      have HFIN : Hid (ChipR B w6 p c2 ∧ StoreR B w6 q p s2 F ∧ Fr B (· ∈ q :: p :: F) w w6) := ⟨hc6, hs6, HF5.out.trans' hf6 (fun b _ e => by rcases e with rfl | rfl <;> simp)⟩
      clear hc6 hs6 hf6 HNT
      go_wp2_with fail
      go_ret
      rw [HCM.out]
      exact ⟨rfl, HFIN.out.1, ⟨F, HFIN.out.2.1.ite _, fun b hb => .inl hb⟩, HFIN.out.2.2⟩
    · have he := errV_pos hn
      rw [he] at HTB
      have HE := Lib.hid he
      have HCM := Lib.hid (hcbad c1 o n1 rfl hn)
      clear hcok hcbad hn he
      go_wp2_with fail
      refine HTB.out.mono ?_
      rintro e w5 ⟨vo, rfl, ho5, hc5, hf5⟩
      have hs5 := HS4.out.chip HC4.out hf5
      have HFIN : Hid (ChipR B w5 p c1 ∧ StoreR B w5 q p s F ∧ Fr B (· ∈ q :: p :: F) w w5) := ⟨hc5, hs5, HF4.out.trans' hf5 (fun b _ e => by subst e; simp)⟩
      clear ho5 hc5 hf5 hs5 HTB
      go_wp2_with fail
      go_ret
      rw [HCM.out]
      exact ⟨by rw [HE.out]; rfl, HFIN.out.1, ⟨F, HFIN.out.2.1, fun b hb => .inl hb⟩, HFIN.out.2.2⟩
  · have HALL := Lib.hid (all_any B _ s.tabs w1 (hv1.cut2 hk2) (by omega) (by omega))
    clear hcell hv1 hb1 HLI g1
    rw [List.length_cons]
    go_wp2_with fail
    refine HALL.out.mono ?_
    rintro e w2 ⟨v2, rfl, hv2, hb2⟩
    have HLV := Lib.hid (live_any B v2 _ w2 hv2 (by omega))
    have HB2 := Lib.hid (HB1.out.trans (hb2.mono HB1.out.size))
    clear hv2 hb2 HALL HB1
    go_wp2_with fail
    refine HLV.out.mono ?_
    rintro e w3 ⟨v3, rfl, hv3, hb3⟩
    rw [HMA.out] at hv3
    have HV3 := Lib.hid hv3
    have HB3 := Lib.hid (HB2.out.trans (hb3.mono HB2.out.size))
    have HU := Lib.hid (used_any B q p s F w3 (HS.out.below HB3.out) (by omega) (by omega))
    clear hv3 hb3 HLV HB2
    go_wp2_with fail
    refine HU.out.mono ?_
    rintro e w4 ⟨v4, rfl, hu4, hb4⟩
    have HB4 := Lib.hid (HB3.out.trans (hb4.mono HB3.out.size))
    have HTB := Lib.hid (tables_any B q p c s F v3 v4 L s.m.all w4 (HS.out.below HB4.out) (HC.out.below HB4.out) (HV3.out.below hb4) hu4 HUP.out HOK.out (by omega) (by omega))
    rw [HT.out] at HTB
    simp only at HTB
    have HF4 : Hid (Fr B (· ∈ q :: p :: F) w w4) := Fr.of_below HB4.out
    have HS4 := Lib.hid (HS.out.below HB4.out)
    have HC4 := Lib.hid (HC.out.below HB4.out)
    clear hu4 hb4 HU HV3 HB3
    by_cases hn : n1 = 0
    · subst hn
      rw [show errV 0 = Value.nilIface from rfl] at HTB
      have hol2 : o.length ≤ 100 := by simp at hlen; omega
      have HCOK := Lib.hid (fun c2 s2 n => hcok c1 c2 s2 o n)
      clear hcok hcbad hlen
      go_wp2_with fail
      refine HTB.out.mono ?_
      rintro e w5 ⟨vo, rfl, ho5, hc5, hf5⟩
      obtain ⟨A5, k5, rfl, _, _, kX⟩ := ho5.form
      have hs5 := HS4.out.chip HC4.out hf5
      have x2 := HX2.out w5 ((Fr.of_below HB4.out).trans' hf5 (fun _ _ h => h))
      have HF5 : Hid (Fr B (· ∈ q :: p :: F) w w5) := HF4.out.trans' hf5 (fun b _ e => by subst e; simp)
      have HNT := Lib.hid (snote_any B q p c1 s F (.agg #[.int .i64 0, .int .i64 s.m.log, .slice none 0 0, .slice A5 o.length k5]) ⟨0, s.m.log, [], o⟩ w5 hs5 hc5 ⟨_, _, rfl, Rd.nil _ _ _ _, ho5⟩ (by simp) (by simpa using (by omega : o.length ≤ 1000)) hat (by omega) (by omega))
      clear kX ho5 hc5 hf5 hs5 HTB
      generalize hN : noteM c1 s ⟨0, s.m.log, [], o⟩ = N at *
      obtain ⟨c2, s2, n2⟩ := N
      have HCM := Lib.hid (HCOK.out c2 s2 n2 trivial (by rw [← hN]))
      simp only at HNT
      clear hN
      go_wp2_with fail
      refine HNT.out.mono ?_
      rintro e w6 ⟨rfl, hc6, hs6, hf6⟩
      have HFIN : Hid (ChipR B w6 p c2 ∧ StoreR B w6 q p s2 F ∧ Fr B (· ∈ q :: p :: F) w w6) := ⟨hc6, hs6, HF5.out.trans' hf6 (fun b _ e => by rcases e with rfl | rfl <;> simp)⟩
      clear hc6 hs6 hf6 HNT
      go_wp2_with fail
      go_ret
      rw [HCM.out]
      exact ⟨rfl, HFIN.out.1, ⟨F, HFIN.out.2.1.ite _, fun b hb => .inl hb⟩, HFIN.out.2.2⟩
    · have he := errV_pos hn
      rw [he] at HTB
      have HE := Lib.hid he
      have HCM := Lib.hid (hcbad c1 o n1 rfl hn)
      clear hcok hcbad hn he
      go_wp2_with fail
      refine HTB.out.mono ?_
      rintro e w5 ⟨vo, rfl, ho5, hc5, hf5⟩
      have hs5 := HS4.out.chip HC4.out hf5
      have HFIN : Hid (ChipR B w5 p c1 ∧ StoreR B w5 q p s F ∧ Fr B (· ∈ q :: p :: F) w w5) := ⟨hc5, hs5, HF4.out.trans' hf5 (fun b _ e => by subst e; simp)⟩
      clear ho5 hc5 hf5 hs5 HTB
      go_wp2_with fail
      go_ret
      rw [HCM.out]
      exact ⟨by rw [HE.out]; rfl, HFIN.out.1, ⟨F, HFIN.out.2.1, fun b hb => .inl hb⟩, HFIN.out.2.2⟩
end Go.Proofs.Ytaepdbkfaoiimaa
/- The contracts of store.few, flush. Conditions: the store is sound. -/
set_option linter.unusedVariables false
set_option linter.unusedSimpArgs false
namespace Go.Proofs.Ytaepdbkfaoiimaa
open Go.RowKit
attribute [local go_sem ↓] eql_err eql_nilerr neq_err neq_nilerr guard_err guard_nilerr guardn_err guardn_nilerr
theorem SPost.refl {B q p : Nat} {F : List Nat} {w : World} {c : Chip} {s : SM} (h : StoreR B w q p s F) (hc : ChipR B w p c) : SPost B q p F w (c, s, 0) (.returned .nilIface) w :=
  ⟨rfl, hc, ⟨F, h, fun b hb => .inl hb⟩, Fr.refl _ _ _⟩
set_option maxRecDepth 20000 in
set_option maxHeartbeats 4000000 in
theorem few_any (B : Nat) (q p : Nat) (c : Chip) (s : SM) (F : List Nat) (w : World) (h : StoreR B w q p s F) (hc : ChipR B w p c) (hi : Inv c s) :
    Calls Try.prog 109 #[.pointer (some ⟨q, 0, none⟩)] w (SPost B q p F w (fewM c s)) := by
  have HCO := Lib.hid (compact_any B q p c s F w h hc hi)
  have HRE := Lib.hid (SPost.refl h hc)
  obtain ⟨A1, c1, A2, c2, t, n, hk, _⟩ := h
  have x3 := hk.cell 3
  simp at x3
  clear hk hc hi
  by_cases h3 : s.m.nw.length < 3
  · have HF : Hid (fewM c s = (c, s, 0)) := if_pos h3
    have t9 : decide ((s.m.nw.length : Int) < 3) = true := decide_eq_true (by omega)
    clear h3 HCO
    go_enter Try.func109, Try.ntmps109
    go_wp2_with fail
    go_ret
    rw [HF.out]
    exact HRE.out
  · have HF : Hid (fewM c s = compM c s) := if_neg h3
    have t9 : decide ((s.m.nw.length : Int) < 3) = false := decide_eq_false (by omega)
    rw [← HF.out] at HCO
    clear h3 HF HRE
    go_enter Try.func109, Try.ntmps109
    go_wp2_with fail
    refine HCO.out.mono ?_
    rintro e w1 ⟨rfl, hr⟩
    have HR := Lib.hid hr
    clear hr HCO
    go_wp2_with fail
    go_ret
    exact ⟨rfl, HR.out⟩
theorem lay_facts {c : Chip} {s : SM} (h : Inv c s) : ∀ c1 o n1, tablesM s.m.all (parts 14 s.mem) c [] = (c1, o, n1) → n1 = 0 → c1.down = false ∧ o.length ≤ 3 := by
  intro c1 o n1 he hn
  have hb := h.body
  have hml := Fallen.mem_len h
  obtain ⟨es, hlog⟩ := hb.log
  have hpl : (parts 14 s.mem).length ≤ 3 := by rw [parts_len]; omega
  obtain ⟨c1', o', n1', e1, w1, x1, f1, g1⟩ := tables_calm s.m.all (parts 14 s.mem) c [] h.wf h.up hb.weak (by
    have := hb.odl
    have := hb.nwl
    simp [Man.all]; omega) (parts_ok hb.mem hlog.fault)
  have hlen := tablesM_len s.m.all (parts 14 s.mem) c []
  rw [he] at e1 hlen
  simp only [List.length_nil] at hlen
  cases e1
  rcases g1 with ⟨_, d1, _⟩ | ⟨h9, _⟩
  · exact ⟨d1, by omega⟩
  · omega
theorem lay_bad1 {c c1 : Chip} {s : SM} {o : List Int} {n : Nat} (h1 : tablesM s.m.all (parts 14 s.mem) c [] = (c1, o, n)) (hn : n ≠ 0) : layM c s = (c1, s, n) := by
  unfold layM
  rw [h1]
  simp only
  rw [if_pos hn]
theorem lay_bad2 {c c1 c2 : Chip} {s : SM} {o : List Int} {b : Int} {n : Nat} (h1 : tablesM s.m.all (parts 14 s.mem) c [] = (c1, o, 0)) (h2 : blankM (s.m.all ++ o) c1 = (c2, b, n)) (hn : n ≠ 0) : layM c s = (c2, s, n) := by
  unfold layM
  rw [h1]
  simp only
  rw [if_neg (by simp), h2]
  simp only
  rw [if_pos hn]
theorem lay_ok {c c1 c2 c3 : Chip} {s s3 : SM} {o : List Int} {b : Int} {n : Nat} (h1 : tablesM s.m.all (parts 14 s.mem) c [] = (c1, o, 0)) (h2 : blankM (s.m.all ++ o) c1 = (c2, b, 0)) (h3 : noteM c2 s ⟨0, b, o ++ s.m.nw, s.m.od⟩ = (c3, s3, n)) :
    layM c s = (c3, if n = 0 then { s3 with mem := [], tabs := parts 14 s.mem ++ s.tabs } else s3, n) := by
  unfold layM
  rw [h1]
  simp only
  rw [if_neg (by simp), h2]
  simp only
  rw [if_neg (by simp), h3]
  simp only
  by_cases hn : n = 0
  · subst hn; rw [if_pos rfl, if_pos rfl]
  · rw [if_neg hn, if_neg hn]
/-- What is at hand is another tower. -/
theorem store_mem {B q p t' : Nat} {w : World} {s : SM} {F F' : List Nat} {c : Chip} (h : StoreR B w q p s F) (hc : ChipR B w p c) (ht : Tower B w t' [] F') (hF : q ∉ F') (tb : List (List Ent)) :
    StoreR B (w.setCell ⟨q, 6, none⟩ (.pointer (some ⟨t', 0, none⟩))) q p { s with mem := [], tabs := tb } F' ∧ ChipR B (w.setCell ⟨q, 6, none⟩ (.pointer (some ⟨t', 0, none⟩))) p c ∧ Fr B (· = q) w (w.setCell ⟨q, 6, none⟩ (.pointer (some ⟨t', 0, none⟩))) := by
  have hqp := h.apart hc q (by simp)
  obtain ⟨A1, c1, A2, c2, t, n, hk, hn, ho, _, hB, _⟩ := h
  have hmut : ∃ cs T fz, w.heap[q]? = some (.cells cs T fz) ∧ mutT T = true := ⟨_, _, _, hk, by decide⟩
  have hf : Fr B (· = q) w (w.setCell ⟨q, 6, none⟩ (.pointer (some ⟨t', 0, none⟩))) := (Fr.refl B (· = q) w).setCell (p := ⟨q, 6, none⟩) hB (.inl rfl) (fun _ => hmut) _
  exact ⟨⟨A1, c1, A2, c2, t', n, hk.set_ 6 _, hn.fr hf, ho.fr hf, ht.fr hf (fun b hb e => hF (e ▸ hb)), hB, hF⟩, hc.keep hf (fun e => hqp e.symm), hf⟩
set_option maxRecDepth 20000 in
set_option maxHeartbeats 4000000 in
theorem lay_any (B : Nat) (q p : Nat) (c : Chip) (s : SM) (F : List Nat) (w : World) (h : StoreR B w q p s F) (hc : ChipR B w p c) (hi : Inv c s) :
    Calls Try.prog 110 #[.pointer (some ⟨q, 0, none⟩)] w (SPost B q p F w (layM c s)) := by
  have hlt := h.lt
  have hqB := h.base
  have hqp := h.apart hc q (by simp)
  have hml := Fallen.mem_len hi
  have hnl := hi.body.nwl
  have hol := hi.body.odl
  have hat := hi.head.at_
  have hal : s.m.all.length ≤ 9 := by simp [Man.all]; omega
  have hep0 := (fault_zero.1 hi.body.fault).1
  have hep1 := (fault_zero.1 hi.body.fault).2.1
  have hfacts := lay_facts hi
  have HUP := Lib.hid hi.up
  obtain ⟨es, hlog⟩ := hi.body.log
  have HOK := Lib.hid (parts_ok hi.body.mem hlog.fault)
  have hb1 := fun c1 o n => lay_bad1 (c := c) (c1 := c1) (s := s) (o := o) (n := n)
  have hb2 := fun c1 c2 o b n => lay_bad2 (c := c) (c1 := c1) (c2 := c2) (s := s) (o := o) (b := b) (n := n)
  have hb3 := fun c1 c2 c3 s3 o b n => lay_ok (c := c) (c1 := c1) (c2 := c2) (c3 := c3) (s := s) (s3 := s3) (o := o) (b := b) (n := n)
  have HS := Lib.hid h
  have HC := Lib.hid hc
  obtain ⟨A1, c1', A2, c2', t, n, hk, hn, ho, ht, hqF0, hqF⟩ := h
  have HTA := Lib.hid (tall_any B t s.mem F w ht (by omega))
  have x6 := hk.cell 6
  simp at x6
  generalize hT : tablesM s.m.all (parts 14 s.mem) c [] = T at *
  obtain ⟨c1, o, n1⟩ := T
  have HT : Hid (tablesM s.m.all (parts 14 s.mem) c [] = (c1, o, n1)) := hT
  have HFA := Lib.hid (hfacts c1 o n1 rfl)
  have HB1 := Lib.hid (hb1 c1 o n1 rfl)
  have HB2 := Lib.hid (fun c2 b n => hb2 c1 c2 o b n)
  have HB3 := Lib.hid (fun c2 c3 s3 b n => hb3 c1 c2 c3 s3 o b n)
  have HK := Lib.hid (And.intro hk (And.intro hn ho))
  clear hi hc hk hn ho ht hfacts hb1 hb2 hb3 hT hlog
  go_enter Try.func110, Try.ntmps110
  go_wp2_with fail
  refine HTA.out.mono ?_
  rintro e w1 ⟨v1, rfl, hv1, hw1⟩
  have HV1 := Lib.hid hv1
  have HW1 := Lib.hid hw1
  have HU := Lib.hid (used_any B q p s F w1 (HS.out.below hw1) (by omega) (by omega))
  clear hv1 hw1 HTA x6
  go_wp2_with fail
  refine HU.out.mono ?_
  rintro e w4 ⟨v4, rfl, hu4, hb4⟩
  have HB4 := Lib.hid (HW1.out.trans (hb4.mono HW1.out.size))
  have HTB := Lib.hid (tables_any B q p c s F v1 v4 s.mem s.m.all w4 (HS.out.below HB4.out) (HC.out.below HB4.out) (HV1.out.below hb4) hu4 HUP.out HOK.out (by omega) (by omega))
  rw [HT.out] at HTB
  simp only at HTB
  have HF4 : Hid (Fr B (· ∈ q :: p :: F) w w4) := Fr.of_below HB4.out
  have HS4 := Lib.hid (HS.out.below HB4.out)
  have HC4 := Lib.hid (HC.out.below HB4.out)
  clear hu4 hb4 HU HV1 HW1
  by_cases hn : n1 = 0
  case neg =>
    have he := errV_pos hn
    rw [he] at HTB
    have HE := Lib.hid he
    have HCM := Lib.hid (HB1.out hn)
    clear hn he
    go_wp2_with fail
    refine HTB.out.mono ?_
    rintro e w5 ⟨vo, rfl, ho5, hc5, hf5⟩
    have hs5 := HS4.out.chip HC4.out hf5
    have HFIN : Hid (ChipR B w5 p c1 ∧ StoreR B w5 q p s F ∧ Fr B (· ∈ q :: p :: F) w w5) := ⟨hc5, hs5, HF4.out.trans' hf5 (fun b _ e => by subst e; simp)⟩
    clear ho5 hc5 hf5 hs5 HTB
    go_wp2_with fail
    go_ret
    rw [HCM.out]
    exact ⟨by rw [HE.out]; rfl, HFIN.out.1, ⟨F, HFIN.out.2.1, fun b hb => .inl hb⟩, HFIN.out.2.2⟩
  subst hn
  obtain ⟨hd1, hol3⟩ := HFA.out rfl
  have HD1 := Lib.hid hd1
  rw [show errV 0 = Value.nilIface from rfl] at HTB
  clear hd1 HB1 HFA
  go_wp2_with fail
  refine HTB.out.mono ?_
  rintro e w5 ⟨vo, rfl, ho5, hc5, hf5⟩
  obtain ⟨A5, k5, rfl, _, _, kX⟩ := ho5.form
  have HS5 := Lib.hid (HS4.out.chip HC4.out hf5)
  have HF5 : Hid (Fr B (· ∈ q :: p :: F) w w5) := HF4.out.trans' hf5 (fun b _ e => by subst e; simp)
  have HC5 := Lib.hid hc5
  have HO5 := Lib.hid ho5
  have HK5 : Hid (∀ w', Fr B (· = p) w5 w' → (w'.cell? ⟨q, 0, none⟩ = some (.pointer (some ⟨p, 0, none⟩)) ∧ Fr B (· = p) w5 w')) := by
    intro w' hf
    have hf0 : Fr B (· = p) w w' := ((Fr.of_below HB4.out).trans' hf5 (fun _ _ h => h)).trans' hf (fun _ _ h => h)
    have h0 := (HK.out.1.fr hf0 (.inr (.inl hqp))).cell 0
    simp at h0
    exact ⟨h0, hf⟩
  have HU5 := Lib.hid (used_any B q p s F w5.drew (HS5.out.drewN 1) (by omega) (by omega))
  have HF0 : Hid (Fr B (· = p) w5 w5.drew) := (Fr.refl _ _ _).drewN 1
  clear kX ho5 hc5 hf5 HTB HS4 HC4 HF4 HB4
  generalize hBL : blankM (s.m.all ++ o) c1 = BL at *
  obtain ⟨c2, b2, n2⟩ := BL
  have HBL : Hid (blankM (s.m.all ++ o) c1 = (c2, b2, n2)) := hBL
  have HB2' := Lib.hid (HB2.out c2 b2 n2)
  clear hBL
  by_cases hn2 : n2 = 0
  case neg =>
    have he := errV_pos hn2
    have HE := Lib.hid he
    have HCM := Lib.hid (HB2'.out trivial rfl hn2)
    clear he hn2
    go_wp2_with fail
    go_region_held3 (fun w' => (w'.cell? ⟨q, 0, none⟩ = some (.pointer (some ⟨p, 0, none⟩)) ∧ Fr B (· = p) w5 w'))
      ((first
        | exact HK5.out _ hF8
        | exact HK5.out _ hF7
        | exact HK5.out _ (Fr.alloc hF6 _)
        | exact HK5.out _ hF6
        | exact HK5.out _ HF0.out))
      ((first
        | (go_at_call 113; refine HU5.out.mono ?_; rintro e w6 ⟨v6, rfl, hu6, hb6⟩; obtain ⟨A6, k6, rfl, _, _, kX⟩ := hu6.form; have hF6 : Fr B (· = p) w5 w6 := HF0.out.trans' (Fr.of_below (B := B) (M := (· = p)) hb6) (fun _ _ h => h))
        | (go_at_call 98; refine (concat_rd B w6.heap.size _ _ s.m.all o _ (Blk.new w6 _ _) (hu6.below ((Below.refl _ _).alloc (Nat.le_refl _) _)) ((HO5.out.fr hF6).below ((Below.refl _ _).alloc (Nat.le_refl _) _)) (by omega) (by omega)).mono ?_; rintro e w7 ⟨v7, rfl, hu7, hb7⟩; have hF7 : Fr B (· = p) w5 w7 := (Fr.alloc hF6 _).trans' (Fr.of_below (B := B) (M := (· = p)) hb7) (fun _ _ h => h))
        | (go_at_call 125; refine (blank_any B p c1 v7 (s.m.all ++ o) w7 ((((HC5.out.drewN 1).below hb6).below ((Below.refl _ _).alloc (Nat.le_refl _) _)).below hb7) hu7 HD1.out).mono ?_; rw [HBL.out]; rintro e w8 ⟨rfl, hc8, hf8⟩; rw [HE.out]; have hF8 : Fr B (· = p) w5 w8 := hF7.trans' hf8 (fun _ _ h => h))))
    have HFIN : Hid (ChipR B w8 p c2 ∧ StoreR B w8 q p s F ∧ Fr B (· ∈ q :: p :: F) w w8) := ⟨hc8, HS5.out.chip HC5.out hF8, HF5.out.trans' hF8 (fun b _ e => by subst e; simp)⟩
    clear hc8 hf8 hF8 hF7 hF6 hb7 hb6 hu6 hu7
    go_wp2_with fail
    go_ret
    rw [HCM.out]
    exact ⟨by rw [HE.out]; rfl, HFIN.out.1, ⟨F, HFIN.out.2.1, fun b hb => .inl hb⟩, HFIN.out.2.2⟩
  subst hn2
  go_wp2_with fail
  go_region_held3 (fun w' => (w'.cell? ⟨q, 0, none⟩ = some (.pointer (some ⟨p, 0, none⟩)) ∧ Fr B (· = p) w5 w'))
    ((first
      | exact HK5.out _ hF8
      | exact HK5.out _ hF7
      | exact HK5.out _ (Fr.alloc hF6 _)
      | exact HK5.out _ hF6
      | exact HK5.out _ HF0.out))
    ((first
      | (go_at_call 113; refine HU5.out.mono ?_; rintro e w6 ⟨v6, rfl, hu6, hb6⟩; obtain ⟨A6, k6, rfl, _, _, kX⟩ := hu6.form; have hF6 : Fr B (· = p) w5 w6 := HF0.out.trans' (Fr.of_below (B := B) (M := (· = p)) hb6) (fun _ _ h => h))
      | (go_at_call 98; refine (concat_rd B w6.heap.size _ _ s.m.all o _ (Blk.new w6 _ _) (hu6.below ((Below.refl _ _).alloc (Nat.le_refl _) _)) ((HO5.out.fr hF6).below ((Below.refl _ _).alloc (Nat.le_refl _) _)) (by omega) (by omega)).mono ?_; rintro e w7 ⟨v7, rfl, hu7, hb7⟩; have hF7 : Fr B (· = p) w5 w7 := (Fr.alloc hF6 _).trans' (Fr.of_below (B := B) (M := (· = p)) hb7) (fun _ _ h => h))
      | (go_at_call 125; refine (blank_any B p c1 v7 (s.m.all ++ o) w7 ((((HC5.out.drewN 1).below hb6).below ((Below.refl _ _).alloc (Nat.le_refl _) _)).below hb7) hu7 HD1.out).mono ?_; rw [HBL.out]; rintro e w8 ⟨rfl, hc8, hf8⟩; rw [show errV 0 = Value.nilIface from rfl]; have hF8 : Fr B (· = p) w5 w8 := hF7.trans' hf8 (fun _ _ h => h))))
  have HS8 := Lib.hid (HS5.out.chip HC5.out hF8)
  have HC8 := Lib.hid hc8
  have HF8 : Hid (Fr B (· ∈ q :: p :: F) w w8) := HF5.out.trans' hF8 (fun b _ e => by subst e; simp)
  have HO8 := Lib.hid (HO5.out.fr hF8)
  clear hc8 hf8 hF8 hF7 hF6 hb7 hb6 hu6 hu7 HK5 HU5 HF0 HF5 HC5 HO5 HS5 HK
  obtain ⟨A1, c1', A2, c2', t, n, hk8, hn8, ho8, _, _, _⟩ := HS8.out
  have x3 := hk8.cell 3
  have x4 := hk8.cell 4
  simp at x3 x4
  have hq8 := hk8.lt
  have HN8 := Lib.hid hn8
  have HO8' := Lib.hid ho8
  have HX8 : Hid (∀ W, Below w8.heap.size w8 W → q < W.heap.size ∧ W.cell? ⟨q, 3, none⟩ = some (.slice A1 s.m.nw.length c1') ∧ W.cell? ⟨q, 4, none⟩ = some (.slice A2 s.m.od.length c2')) := by
    intro W hW
    have h := hk8.below hW hk8.lt
    have y3 := h.cell 3
    have y4 := h.cell 4
    simp at y3 y4
    exact ⟨h.lt, y3, y4⟩
  clear hk8 hn8 ho8
  have HB8 : Hid (Below w8.heap.size w8 (w8.alloc (.cells #[.slice A5 o.length k5, .slice A1 s.m.nw.length c1'] 41)).drew) := ((Below.refl _ _).alloc (Nat.le_refl _) _).drew
  have HCC := Lib.hid (concat_rd B w8.heap.size (.slice A5 o.length k5) (.slice A1 s.m.nw.length c1') o s.m.nw (w8.alloc (.cells #[.slice A5 o.length k5, .slice A1 s.m.nw.length c1'] 41)).drew ((Blk.new w8 41 #[.slice A5 o.length k5, .slice A1 s.m.nw.length c1']).drewN 1) (HO8.out.below HB8.out) (HN8.out.below HB8.out) (by omega) (by omega))
  generalize hN : noteM c2 s ⟨0, b2, o ++ s.m.nw, s.m.od⟩ = N at *
  obtain ⟨c3, s3, n3⟩ := N
  have HN : Hid (noteM c2 s ⟨0, b2, o ++ s.m.nw, s.m.od⟩ = (c3, s3, n3)) := hN
  have HCM := Lib.hid (HB3.out c2 c3 s3 b2 n3 trivial rfl HN.out)
  have hle : (o ++ s.m.nw).length = o.length + s.m.nw.length := List.length_append
  have HLE := Lib.hid hle
  have HL2 : Hid ((o ++ s.m.nw).length ≤ 1000 ∧ s.m.od.length ≤ 1000 ∧ 0 ≤ s.m.ep ∧ s.m.ep ≤ 1000000) := ⟨by omega, by omega, by omega, by omega⟩
  clear hN hle
  by_cases hn3 : n3 = 0
  · subst hn3
    go_wp2_with fail
    go_region_with (first
      | (go_at_call 98; refine HCC.out.mono ?_; rintro e w9 ⟨v9, rfl, hu9, hb9⟩; obtain ⟨A9, k9, rfl, _, _, kX⟩ := hu9.form; obtain ⟨hl9, z3, z4⟩ := HX8.out w9 (HB8.out.trans (hb9.mono HB8.out.size)); rw [HLE.out] at hu9 ⊢)
      | (go_at_call 114; refine (snote_any B q p c2 s F _ ⟨0, b2, o ++ s.m.nw, s.m.od⟩ w9 (HS8.out.below (HB8.out.trans (hb9.mono HB8.out.size))) (HC8.out.below (HB8.out.trans (hb9.mono HB8.out.size))) ⟨_, _, rfl, hu9, HO8'.out.below (HB8.out.trans (hb9.mono HB8.out.size))⟩ HL2.out.1 HL2.out.2.1 hat HL2.out.2.2.1 HL2.out.2.2.2).mono ?_; rw [HN.out]; rintro e w10 ⟨rfl, hc10, hs10, hf10⟩; rw [show errV 0 = Value.nilIface from rfl]))
    all_goals
      have HS10 := Lib.hid hs10
      have HC10 := Lib.hid hc10
      have hw9 := HB8.out.trans (hb9.mono HB8.out.size)
      have HF10 : Hid (Fr B (· ∈ q :: p :: F) w w10) := (HF8.out.trans' (Fr.of_below (B := B) (M := (· ∈ q :: p :: F)) hw9) (fun _ _ h => h)).trans' hf10 (fun b _ e => by rcases e with rfl | rfl <;> simp)
      clear hs10 hc10 hf10 hu9 hb9 kX z3 z4 hl9 hw9
      have HTN := Lib.hid (tnew_any B w10 (Nat.le_of_lt (Nat.lt_of_le_of_lt HS10.out.base HS10.out.lt)))
      go_wp2_with fail
      refine HTN.out.mono ?_
      rintro e w11 ⟨⟨rfl, ht11⟩, hb11⟩
      have hs11 := HS10.out.below hb11
      have hc11 := HC10.out.below hb11
      have HQ : Hid (q ∉ [w10.heap.size]) := fun hm => by have h1 := HS10.out.lt; rw [List.mem_singleton] at hm; omega
      have HFS := Lib.hid (store_mem hs11 hc11 ht11 HQ.out (parts 14 s.mem ++ s.tabs))
      have HF11 : Hid (Fr B (· ∈ q :: p :: F) w w11) := HF10.out.trans' (Fr.of_below (B := B) (M := (· ∈ q :: p :: F)) hb11) (fun _ _ h => h)
      obtain ⟨A7, c7, A8, c8, t7, n7, hk11, _⟩ := hs11
      have y6 := hk11.cell 6
      have f6 := hk11.frozen 6
      simp at y6
      have HW10 : Hid (w.heap.size ≤ w10.heap.size) := HF10.out.size
      clear hk11 hc11 ht11 hb11 HTN
      go_wp2_with fail
      go_ret
      rw [HCM.out]
      exact ⟨rfl, HFS.out.2.1, ⟨_, HFS.out.1, fun b hb => by simp at hb; subst hb; exact .inr HW10.out⟩, HF11.out.trans' HFS.out.2.2 (fun b _ e => by subst e; simp)⟩
  · have he := errV_pos hn3
    have HE := Lib.hid he
    clear he
    go_wp2_with fail
    go_region_with (first
      | (go_at_call 98; refine HCC.out.mono ?_; rintro e w9 ⟨v9, rfl, hu9, hb9⟩; obtain ⟨A9, k9, rfl, _, _, kX⟩ := hu9.form; obtain ⟨hl9, z3, z4⟩ := HX8.out w9 (HB8.out.trans (hb9.mono HB8.out.size)); rw [HLE.out] at hu9 ⊢)
      | (go_at_call 114; refine (snote_any B q p c2 s F _ ⟨0, b2, o ++ s.m.nw, s.m.od⟩ w9 (HS8.out.below (HB8.out.trans (hb9.mono HB8.out.size))) (HC8.out.below (HB8.out.trans (hb9.mono HB8.out.size))) ⟨_, _, rfl, hu9, HO8'.out.below (HB8.out.trans (hb9.mono HB8.out.size))⟩ HL2.out.1 HL2.out.2.1 hat HL2.out.2.2.1 HL2.out.2.2.2).mono ?_; rw [HN.out]; rintro e w10 ⟨rfl, hc10, hs10, hf10⟩; rw [HE.out]))
    all_goals
      have HS10 := Lib.hid hs10
      have HC10 := Lib.hid hc10
      have hw9 := HB8.out.trans (hb9.mono HB8.out.size)
      have HF10 : Hid (Fr B (· ∈ q :: p :: F) w w10) := (HF8.out.trans' (Fr.of_below (B := B) (M := (· ∈ q :: p :: F)) hw9) (fun _ _ h => h)).trans' hf10 (fun b _ e => by rcases e with rfl | rfl <;> simp)
      clear hs10 hc10 hf10 hu9 hb9 kX z3 z4 hl9 hw9
      have HN3 := Lib.hid hn3
      clear hn3
      go_wp2_with fail
      go_ret
      rw [HCM.out]
      refine ⟨by rw [HE.out]; rfl, HC10.out, ⟨F, ?_, fun b hb => .inl hb⟩, HF10.out⟩
      simp only
      rw [if_neg HN3.out]
      exact HS10.out
end Go.Proofs.Ytaepdbkfaoiimaa
/- The contracts of store.Flush, Check, room. Conditions: the store is sound. -/
set_option linter.unusedVariables false
set_option linter.unusedSimpArgs false
namespace Go.Proofs.Ytaepdbkfaoiimaa
open Go.RowKit
attribute [local go_sem ↓] eql_err eql_nilerr neq_err neq_nilerr guard_err guard_nilerr guardn_err guardn_nilerr
theorem SPost.step {B q p : Nat} {F F1 : List Nat} {w w1 w2 : World} {r : Chip × SM × Nat} {e : Ending} (hf : Fr B (· ∈ q :: p :: F) w w1) (hF : ∀ b ∈ F1, b ∈ F ∨ w.heap.size ≤ b) (h : SPost B q p F1 w1 r e w2) : SPost B q p F w r e w2 := by
  obtain ⟨he, hc, ⟨F2, hs, hF2⟩, hf2⟩ := h
  refine ⟨he, hc, ⟨F2, hs, fun b hb => (hF2 b hb).elim (hF b) (fun h => .inr (Nat.le_trans hf.size h))⟩, hf.trans' hf2 (fun b hb hm => ?_)⟩
  rcases List.mem_cons.1 hm with rfl | hm
  · simp
  · rcases List.mem_cons.1 hm with rfl | hm
    · simp
    · rcases hF b hm with h | h
      · simp [h]
      · omega
theorem flush_1 {c c1 : Chip} {s s1 : SM} {n : Nat} (h : fewM c s = (c1, s1, n)) (hn : n ≠ 0) : flushM c s = (c1, s1, n) := by
  unfold flushM
  rw [h]
  simp only
  rw [if_pos hn]
theorem flush_2 {c c1 c2 : Chip} {s s1 s2 : SM} {n : Nat} (h : fewM c s = (c1, s1, 0)) (h2 : layM c1 s1 = (c2, s2, n)) (hn : n ≠ 0) : flushM c s = (c2, s2, n) := by
  unfold flushM
  rw [h]
  simp only
  rw [if_neg (by simp), h2]
  simp only
  rw [if_pos hn]
theorem flush_3 {c c1 c2 : Chip} {s s1 s2 : SM} (h : fewM c s = (c1, s1, 0)) (h2 : layM c1 s1 = (c2, s2, 0)) : flushM c s = fewM c2 s2 := by
  unfold flushM
  rw [h]
  simp only
  rw [if_neg (by simp), h2]
  simp only
  rw [if_neg (by simp)]
set_option maxRecDepth 20000 in
set_option maxHeartbeats 4000000 in
theorem flush_any (B : Nat) (q p : Nat) (c : Chip) (s : SM) (F : List Nat) (w : World) (h : StoreR B w q p s F) (hc : ChipR B w p c) (hi : Inv c s) (hep : s.m.ep + 3 ≤ 100000) :
    Calls Try.prog 73 #[.pointer (some ⟨q, 0, none⟩)] w (SPost B q p F w (flushM c s)) := by
  obtain ⟨c1, s1, n1, e1, _, g1⟩ := few_calm hi (by omega)
  have h1 := few_any B q p c s F w h hc hi
  rw [e1] at h1
  have hx1 := flush_1 e1
  have hx2 := fun c2 s2 n => flush_2 (c := c) (c1 := c1) (c2 := c2) (s := s) (s1 := s1) (s2 := s2) (n := n)
  have hx3 := fun c2 s2 => flush_3 (c := c) (c1 := c1) (c2 := c2) (s := s) (s1 := s1) (s2 := s2)
  by_cases hn : n1 = 0
  case neg =>
    have HE := Lib.hid (errV_pos hn)
    have HX := Lib.hid (hx1 hn)
    have H1 := Lib.hid h1
    clear hx1 hx2 hx3 hn h1 g1 e1 hi h hc
    go_enter Try.func73, Try.ntmps73
    go_wp2_with fail
    refine H1.out.mono ?_
    rintro e w1 ⟨rfl, hr⟩
    have HR := Lib.hid hr
    clear hr H1
    simp only
    rw [HE.out]
    go_wp2_with fail
    go_ret
    rw [HX.out]
    exact ⟨by rw [HE.out]; rfl, HR.out⟩
  subst hn
  rcases g1 with ⟨_, hi1, hrw1, hep1, hep2, _, _, hnw1, _⟩ | ⟨h9, _⟩
  case inr => omega
  obtain ⟨c2, s2, n2, e2, _, g2⟩ := lay_calm hi1 (by omega) hnw1
  have HL := Lib.hid (fun w F h hc => lay_any B q p c1 s1 F w h hc hi1)
  rw [e2] at HL
  have H1 := Lib.hid h1
  by_cases hn2 : n2 = 0
  case neg =>
    have HE := Lib.hid (errV_pos hn2)
    have HX := Lib.hid (hx2 c2 s2 n2 e1 e2 hn2)
    clear hx1 hx2 hx3 hn2 h1 g2 e1 e2 hi hi1 h hc
    go_enter Try.func73, Try.ntmps73
    go_wp2_with fail
    refine H1.out.mono ?_
    rintro e w1 ⟨rfl, hc1, ⟨F1, hs1, hF1⟩, hf1⟩
    have HF1 := Lib.hid (And.intro hf1 hF1)
    have HL1 := Lib.hid (HL.out w1 F1 hs1 hc1)
    clear hc1 hs1 hF1 hf1 H1 HL
    simp only
    rw [show errV 0 = Value.nilIface from rfl]
    go_wp2_with fail
    refine HL1.out.mono ?_
    rintro e w2 ⟨rfl, hr⟩
    have HR := Lib.hid hr
    clear hr HL1
    simp only
    rw [HE.out]
    go_wp2_with fail
    go_ret
    rw [HX.out]
    exact SPost.step HF1.out.1 HF1.out.2 ⟨by rw [HE.out]; rfl, HR.out⟩
  subst hn2
  rcases g2 with ⟨_, hi2, hrw2, hep3, _⟩ | ⟨h9, _⟩
  case inr => omega
  have HX := Lib.hid (hx3 c2 s2 e1 e2)
  have HW := Lib.hid (fun w F h hc => few_any B q p c2 s2 F w h hc hi2)
  clear hx1 hx2 hx3 h1 e1 e2 hi hi1 hi2 h hc
  go_enter Try.func73, Try.ntmps73
  go_wp2_with fail
  refine H1.out.mono ?_
  rintro e w1 ⟨rfl, hc1, ⟨F1, hs1, hF1⟩, hf1⟩
  have HF1 := Lib.hid (And.intro hf1 hF1)
  have HL1 := Lib.hid (HL.out w1 F1 hs1 hc1)
  clear hc1 hs1 hF1 hf1 H1 HL
  simp only
  rw [show errV 0 = Value.nilIface from rfl]
  go_wp2_with fail
  refine HL1.out.mono ?_
  rintro e w2 ⟨rfl, hc2, ⟨F2, hs2, hF2⟩, hf2⟩
  have HF2 := Lib.hid (And.intro hf2 hF2)
  have HW2 := Lib.hid (HW.out w2 F2 hs2 hc2)
  clear hc2 hs2 hF2 hf2 HL1 HW
  simp only
  rw [show errV 0 = Value.nilIface from rfl]
  go_wp2_with fail
  refine HW2.out.mono ?_
  rintro e w3 ⟨rfl, hr⟩
  have HR := Lib.hid hr
  clear hr HW2
  go_wp2_with fail
  go_ret
  rw [HX.out]
  exact SPost.step HF1.out.1 HF1.out.2 (SPost.step HF2.out.1 HF2.out.2 ⟨rfl, HR.out⟩)
set_option maxRecDepth 20000 in
set_option maxHeartbeats 4000000 in
theorem room_any (B : Nat) (q p : Nat) (c : Chip) (s : SM) (F : List Nat) (w : World) (h : StoreR B w q p s F) (hc : ChipR B w p c) (hi : Inv c s) (hep : s.m.ep + 3 ≤ 100000) :
    Calls Try.prog 104 #[.pointer (some ⟨q, 0, none⟩)] w (SPost B q p F w (roomM c s)) := by
  have hrg := hi.body.rng s.m.log (by simp [Man.all])
  have HNX := Lib.hid (next_any B p c s.m.log w.drew (hc.drewN 1) (by omega) (by omega))
  have HFL := Lib.hid (flush_any B q p c s F w.drew (h.drewN 1) (hc.drewN 1) hi hep)
  have HRE : Hid (SPost B q p F w (c, s, 0) (.returned .nilIface) w.drew) := ⟨rfl, hc.drewN 1, ⟨F, h.drewN 1, fun b hb => .inl hb⟩, (Fr.refl _ _ _).drewN 1⟩
  obtain ⟨A1, c1, A2, c2, t, n, hk, _⟩ := h
  have x0 := hk.cell 0
  have x2 := hk.cell 2
  simp at x0 x2
  have HS : Hid (w.drew.cell? ⟨q, 0, none⟩ = some (.pointer (some ⟨p, 0, none⟩)) ∧ w.drew.cell? ⟨q, 2, none⟩ = some (.int .i64 s.m.log)) := ⟨x0, x2⟩
  have HF0 : Hid (Fr B (· ∈ q :: p :: F) w w.drew) := (Fr.refl _ _ _).drewN 1
  clear hk hc hi
  by_cases h8 : (c.b s.m.log.toNat).l.length < 8
  · have HR : Hid (roomM c s = (c, s, 0)) := if_pos h8
    have t13 : decide (((c.b s.m.log.toNat).l.length : Int) < 8) = true := decide_eq_true (by omega)
    clear h8 HFL
    go_enter Try.func104, Try.ntmps104
    go_wp2_with fail
    go_region_held3 (fun w' => w'.cell? ⟨q, 0, none⟩ = some (.pointer (some ⟨p, 0, none⟩)) ∧ w'.cell? ⟨q, 2, none⟩ = some (.int .i64 s.m.log))
      ((first | exact HS.out | assumption))
      ((first | (go_at_call 86; refine HNX.out.mono ?_; rintro e w2 ⟨rfl, rfl⟩)))
    go_wp2_with fail
    go_ret
    rw [HR.out]
    exact HRE.out
  · have HR : Hid (roomM c s = flushM c s) := if_neg h8
    have t13 : decide (((c.b s.m.log.toNat).l.length : Int) < 8) = false := decide_eq_false (by omega)
    clear h8 HRE
    go_enter Try.func104, Try.ntmps104
    go_wp2_with fail
    go_region_held3 (fun w' => w'.cell? ⟨q, 0, none⟩ = some (.pointer (some ⟨p, 0, none⟩)) ∧ w'.cell? ⟨q, 2, none⟩ = some (.int .i64 s.m.log))
      ((first | exact HS.out | assumption))
      ((first | (go_at_call 86; refine HNX.out.mono ?_; rintro e w2 ⟨rfl, rfl⟩)))
    go_wp2_with fail
    refine HFL.out.mono ?_
    rintro e w1 ⟨rfl, hr⟩
    have HRR := Lib.hid hr
    clear hr HFL
    go_wp2_with fail
    go_ret
    rw [HR.out]
    exact SPost.step HF0.out (fun b hb => .inl hb) ⟨rfl, HRR.out⟩
end Go.Proofs.Ytaepdbkfaoiimaa
/- The contract of store.Check. Conditions: the store is sound. -/
set_option linter.unusedVariables false
set_option linter.unusedSimpArgs false
namespace Go.Proofs.Ytaepdbkfaoiimaa
open Go.RowKit
attribute [local go_sem ↓] eql_err eql_nilerr neq_err neq_nilerr guard_err guard_nilerr guardn_err guardn_nilerr
theorem rows_rise {c : Chip} {s : SM} (h : Inv c s) : Rises s.rows := by
  unfold SM.rows rowsOf
  exact rises_live (rises_mergeAll (fun l hl => by
    rcases List.mem_cons.1 hl with rfl | hl
    · exact h.body.mem
    · exact h.body.tab l hl))
set_option maxRecDepth 20000 in
set_option maxHeartbeats 4000000 in
theorem scheck_any (B : Nat) (q p : Nat) (c : Chip) (s : SM) (F : List Nat) (v : Value) (l : List Ent) (w : World) (h : StoreR B w q p s F) (hc : ChipR B w p c) (hi : Inv c s) (hl : Ents B w v l) :
    Calls Try.prog 103 #[.pointer (some ⟨q, 0, none⟩), v] w fun e w' => e = .returned (errV (checkM s l)) ∧ Below w.heap.size w w' := by
  obtain ⟨A, cp, rfl, hc1, hc2, _⟩ := hl.form
  have HL := Lib.hid hl
  by_cases hn : l.length = 0 ∨ 4 < l.length
  · have HF : Hid (checkM s l = 2) := if_pos hn
    clear h hc hi hl
    by_cases h0 : l.length = 0
    · have t12 : ((l.length : Int) == 0) = true := by rw [beq_iff_eq]; omega
      clear hn
      go_enter Try.func103, Try.ntmps103
      go_wp2_with fail
      go_ret
      exact ⟨by rw [HF.out]; rfl, Below.refl _ _⟩
    · have t12 : ((l.length : Int) == 0) = false := by rw [beq_eq_false_iff_ne]; omega
      have t16 : decide ((4 : Int) < (l.length : Int)) = true := decide_eq_true (by omega)
      clear hn
      go_enter Try.func103, Try.ntmps103
      go_wp2_with fail
      go_ret
      exact ⟨by rw [HF.out]; rfl, Below.refl _ _⟩
  have HC0 : Hid (checkM s l = if bytesF l ≠ 0 then bytesF l else if 40 < (liveE (l.foldl putE s.rows)).length then 8 else 0) := if_neg hn
  have t12 : ((l.length : Int) == 0) = false := by rw [beq_eq_false_iff_ne]; omega
  have t16 : decide ((4 : Int) < (l.length : Int)) = false := decide_eq_false (by omega)
  have hl4 : l.length ≤ 4 := by omega
  have HBY := Lib.hid (bytes_any B _ l w hl (by omega))
  clear hn
  by_cases hb : bytesF l = 0
  case neg =>
    have HF : Hid (checkM s l = bytesF l) := by rw [Hid, HC0.out, if_pos hb]
    have he : errV (bytesF l) = .iface 137 (.int .i64 (bytesF l)) := if_neg hb
    have HE := Lib.hid he
    rw [he] at HBY
    clear h hc hi hl hb he HC0
    go_enter Try.func103, Try.ntmps103
    go_wp2_with fail
    refine HBY.out.mono ?_
    rintro e w1 ⟨rfl, hb1⟩
    go_wp2_with fail
    go_ret
    exact ⟨by rw [HF.out, HE.out]; rfl, hb1⟩
  have HF0 : Hid (checkM s l = if 40 < (liveE (l.foldl putE s.rows)).length then 8 else 0) := by rw [Hid, HC0.out, if_neg (by simp [hb])]
  rw [hb, show errV 0 = Value.nilIface from rfl] at HBY
  have HRI := Lib.hid (rows_rise hi)
  have hrl := hi.body.rows
  have HRO := Lib.hid (fun W (hW : Below w.heap.size w W) => srows_any B q p c s F W (h.below hW) (hc.below hW) hi)
  clear h hc hi hl hb HC0
  go_enter Try.func103, Try.ntmps103
  go_wp2_with fail
  refine HBY.out.mono ?_
  rintro e w1 ⟨rfl, hb1⟩
  have HB1 := Lib.hid hb1
  have HR1 := Lib.hid (HRO.out w1 hb1)
  clear hb1 HBY HRO
  go_wp2_with fail
  refine HR1.out.mono ?_
  rintro e w2 ⟨v2, rfl, hv2, hb2⟩
  have HV2 := Lib.hid hv2
  have HB2 := Lib.hid (HB1.out.trans (hb2.mono HB1.out.size))
  clear hv2 hb2 HR1 HB1
  generalize s.rows = rws at *
  go_wp2_with fail
  go_loopw [7, 37] (fun u i wr => ∃ k : Nat, i = .int .i64 (k : Int) ∧ k ≤ l.length ∧ Hid (Ents B wr u ((l.take k).foldl putE rws)) ∧ Hid (Below w.heap.size w wr)) (fun _ i _ => l.length - (intOf i).toNat)
  case atStart => exact ⟨0, rfl, Nat.zero_le _, HV2.out, HB2.out⟩
  case round =>
    obtain ⟨k, rfl, hk, hu, hbl⟩ := hrel
    by_cases hlt : k < l.length
    · obtain ⟨y, hy, hty, _⟩ := getElem?_of_lt hlt
      obtain ⟨A', cp', e, _, _, hcell⟩ := (HL.out.below hbl.out).form
      cases e
      obtain ⟨bb, oo, rfl, hbb, y1, y2, y3⟩ := hcell k y hy
      have hyok := HL.out.2 y (List.mem_of_getElem? hy)
      have hnext : (l.take (k + 1)).foldl putE rws = merge2 [y] ((l.take k).foldl putE rws) := by
        rw [hty, List.foldl_append]
        show putE _ y = _
        exact putE_eq y _ (rises_puts _ HRI.out)
      have HNX := Lib.hid hnext
      have hal : ((l.take k).foldl putE rws).length ≤ 1000000 := by
        have h1 := puts_len (l.take k) rws
        have h2 : (l.take k).length ≤ l.length := List.length_take_le' _ _
        omega
      have h1 : Ents B ((wr.alloc (.cells #[.string y.k, .string y.v, .bool y.g] 35)).alloc (.cells #[.string y.k, .string y.v, .bool y.g] 35)) (.slice (some ⟨wr.heap.size + 1, 0, none⟩) 1 1) [y] :=
        ⟨rd_lit3 B (wr.alloc (.cells #[.string y.k, .string y.v, .bool y.g] 35)) _ (World.size_alloc _ _) y.k y.v y.g, fun e he => by simp at he; subst he; exact hyok⟩
      have hb2 : Below wr.heap.size wr ((wr.alloc (.cells #[.string y.k, .string y.v, .bool y.g] 35)).alloc (.cells #[.string y.k, .string y.v, .bool y.g] 35)) := ((Below.refl _ _).alloc (Nat.le_refl _) _).alloc (by simp) _
      have HTW := Lib.hid (two_any B _ u7 [y] ((l.take k).foldl putE rws) _ h1 (hu.out.below hb2) (by simp) hal)
      have HB3 : Hid (Below w.heap.size w ((wr.alloc (.cells #[.string y.k, .string y.v, .bool y.g] 35)).alloc (.cells #[.string y.k, .string y.v, .bool y.g] 35))) := hbl.out.trans (hb2.mono hbl.out.size)
      have g1 : (0 : Int) ≤ (k : Int) := by omega
      have g2 : (k : Int) < (l.length : Int) := by omega
      clear h1 hb2 hnext hcell hy hty hyok
      go_wp2_with fail
      refine HTW.out.mono ?_
      rintro e w5 ⟨v5, rfl, hv5, hb5⟩
      rw [← HNX.out] at hv5
      have HV5 := Lib.hid hv5
      have HB5 := Lib.hid (HB3.out.trans (hb5.mono HB3.out.size))
      clear hv5 hb5 HTW
      go_wp2_with fail
      go_roundw
      case rel => exact ⟨k + 1, by go_num, by omega, HV5.out, HB5.out⟩
      case measure => simp [intOf] <;> omega
    · obtain rfl : k = l.length := by omega
      have g2 : decide ((l.length : Int) < (l.length : Int)) = false := by simp
      rw [List.take_length] at hu
      have hal := puts_len l rws
      generalize l.foldl putE rws = R at *
      have HLV := Lib.hid (live_any B u7 R wr hu.out (by omega))
      by_cases h40 : 40 < (liveE R).length
      · have t49 : decide ((40 : Int) < ((liveE R).length : Int)) = true := decide_eq_true (by omega)
        have HF : Hid (checkM s l = 8) := by rw [Hid, HF0.out, if_pos h40]
        clear h40
        go_wp2_with fail
        refine HLV.out.mono ?_
        rintro e w5 ⟨v5, rfl, hv5, hb5⟩
        obtain ⟨A5, c5, rfl, _, _, kX⟩ := hv5.form
        have HB5 := Lib.hid (hbl.out.trans (hb5.mono hbl.out.size))
        clear hv5 hb5 kX HLV
        go_wp2_with fail
        go_ret
        exact ⟨by rw [HF.out]; rfl, HB5.out⟩
      · have t49 : decide ((40 : Int) < ((liveE R).length : Int)) = false := decide_eq_false (by omega)
        have HF : Hid (checkM s l = 0) := by rw [Hid, HF0.out, if_neg h40]
        clear h40
        go_wp2_with fail
        refine HLV.out.mono ?_
        rintro e w5 ⟨v5, rfl, hv5, hb5⟩
        obtain ⟨A5, c5, rfl, _, _, kX⟩ := hv5.form
        have HB5 := Lib.hid (hbl.out.trans (hb5.mono hbl.out.size))
        clear hv5 hb5 kX HLV
        go_wp2_with fail
        go_ret
        exact ⟨by rw [HF.out]; rfl, HB5.out⟩
end Go.Proofs.Ytaepdbkfaoiimaa
/- The contract of store.Write. Conditions: the store is sound. -/
set_option linter.unusedVariables false
set_option linter.unusedSimpArgs false
namespace Go.Proofs.Ytaepdbkfaoiimaa
open Go.RowKit
attribute [local go_sem ↓] eql_err eql_nilerr neq_err neq_nilerr guard_err guard_nilerr guardn_err guardn_nilerr
theorem write_bad {c : Chip} {s : SM} {l : List Ent} (h : checkM s l ≠ 0) : writeM c s l = (c, s, checkM s l) := if_pos h
theorem write_log {c c' : Chip} {s s' : SM} {l : List Ent} {n : Nat} (h : checkM s l = 0) (hl : logM (bytesL l.length l) 2 c s = (c', s', n)) : writeM c s l = (c', if n = 0 then { s' with mem := l.foldl putE s'.mem } else s', n) := by
  unfold writeM
  rw [if_neg (by simp [h]), hl]
  simp only
  by_cases hn : n = 0
  · subst hn; rw [if_pos rfl, if_pos rfl]
  · rw [if_neg hn, if_neg hn]
theorem write_nine {c c' : Chip} {s s' : SM} {l : List Ent} (h : checkM s l = 0) (hl : logM (bytesL l.length l) 2 c s = (c', s', 9)) : writeM c s l = (c', s', 9) := write_log h hl
theorem write_zero {c c' : Chip} {s s' : SM} {l : List Ent} (h : checkM s l = 0) (hl : logM (bytesL l.length l) 2 c s = (c', s', 0)) : writeM c s l = (c', { s' with mem := l.foldl putE s'.mem }, 0) := write_log h hl
/-- What lies where, while Write tries its block. -/
structure WrS (B q p : Nat) (F : List Nat) (w : World) (l : List Ent) (c0 : Chip) (s0 : SM) (g : Nat) (c : Chip) (s : SM) (F' : List Nat) (W : World) : Prop where
  st : StoreR B W q p s F'
  ch : ChipR B W p c
  fr : Fr B (· ∈ q :: p :: F) w W
  new : ∀ b ∈ F', b ∈ F ∨ w.heap.size ≤ b
  inv : Inv c s
  log : logM (bytesL l.length l) g c s = logM (bytesL l.length l) 2 c0 s0
  rows : s.rows = s0.rows
  ep : g = 2 ∧ s.m.ep ≤ s0.m.ep ∨ g = 1 ∧ s.m.ep ≤ s0.m.ep + 6 ∧ (c.b s.m.log.toNat).weak = false
theorem WrS.post {B q p : Nat} {F : List Nat} {w W W1 : World} {l : List Ent} {c0 c c1 : Chip} {s0 s s1 : SM} {g : Nat} {F' : List Nat} (h : WrS B q p F w l c0 s0 g c s F' W) {n : Nat} {e : Ending} (hp : SPost B q p F' W (c1, s1, n) e W1) : SPost B q p F w (c1, s1, n) e W1 := SPost.step h.fr h.new hp
set_option maxRecDepth 20000 in
set_option maxHeartbeats 8000000 in
theorem write_any (B : Nat) (q p : Nat) (c : Chip) (s : SM) (F : List Nat) (v : Value) (l : List Ent) (w : World) (h : StoreR B w q p s F) (hc : ChipR B w p c) (hi : Inv c s) (hl : Ents B w v l) (hep : s.m.ep + 9 ≤ 100000) :
    Calls Try.prog 69 #[.pointer (some ⟨q, 0, none⟩), v] w (SPost B q p F w (writeM c s l)) := by
  have hck := scheck_any B q p c s F v l w h hc hi hl
  have hB0 : B ≤ w.heap.size := Nat.le_of_lt (Nat.lt_of_le_of_lt h.base h.lt)
  have hqp := h.apart hc q (by simp)
  obtain ⟨A, cp, rfl, hc1, hc2, _⟩ := hl.form
  by_cases hn : checkM s l = 0
  case neg =>
    have HX := Lib.hid (write_bad (c := c) hn)
    have HE := Lib.hid (errV_pos hn)
    have HPO : Hid (∀ W, Below w.heap.size w W → SPost B q p F w (c, s, checkM s l) (.returned (errV (checkM s l))) W) := fun W hW => ⟨rfl, hc.below hW, ⟨F, h.below hW, fun b hb => .inl hb⟩, Fr.of_below hW⟩
    rw [HE.out] at hck
    have HCK := Lib.hid hck
    clear hck hn h hc hi hl
    go_enter Try.func69, Try.ntmps69
    go_wp2_with fail
    refine HCK.out.mono ?_
    rintro e w1 ⟨rfl, hb1⟩
    have HP := Lib.hid (HPO.out w1 hb1)
    clear hb1 HCK HPO
    go_wp2_with fail
    go_ret
    rw [HX.out]
    rw [HE.out] at HP
    exact HP.out
  obtain ⟨hl0, hl4, hby, hnew⟩ := checkM_zero hn
  have HW9 := Lib.hid (fun c' s' => write_nine (c := c) (c' := c') (s' := s') hn)
  have HW0 := Lib.hid (fun c' s' => write_zero (c := c) (c' := c') (s' := s') hn)
  rw [hn, show errV 0 = Value.nilIface from rfl] at hck
  have HCK := Lib.hid hck
  have HBY : Hid (∀ W, Below w.heap.size w W → Calls Try.prog 37 #[.slice A l.length cp] W fun d w' => d = .returned (.tuple #[.string (bytesL l.length l), .nilIface]) ∧ Below W.heap.size W w') := by
    intro W hW
    have := bytes_any B _ l W (hl.below hW) (by omega)
    rw [hby, show bytesS l = bytesL l.length l from if_pos hby] at this
    exact this
  have HPA := Lib.hid (bytesF_parts hby)
  have HBF := Lib.hid hby
  have HNW := Lib.hid hnew
  have HL := Lib.hid hl
  have HS0 : Hid (∀ W, Below w.heap.size w W → WrS B q p F w l c s 2 c s F W) := fun W hW => ⟨h.below hW, hc.below hW, Fr.of_below hW, fun b hb => .inl hb, hi, rfl, rfl, .inl ⟨rfl, Int.le_refl _⟩⟩
  clear hck hn h hc hi hl hby hnew
  go_enter Try.func69, Try.ntmps69
  go_wp2_with fail
  refine HCK.out.mono ?_
  rintro e w1 ⟨rfl, hb1⟩
  have HB1 := Lib.hid hb1
  have HY1 := Lib.hid (HBY.out w1 hb1)
  clear hb1 HCK HBY
  go_wp2_with fail
  refine HY1.out.mono ?_
  rintro e w2 ⟨rfl, hb2⟩
  have HS2 := Lib.hid (HS0.out w2 (HB1.out.trans (hb2.mono HB1.out.size)))
  clear hb2 HY1 HS0 HB1
  go_wp2_with fail
  go_loopg [5] 2 (fun g e wr => ∃ (c' : Chip) (s' : SM) (F' : List Nat), Hid (WrS B q p F w l c s g c' s' F' wr))
  case atStart => exact ⟨c, s, F, HS2.out⟩
  case round =>
    obtain ⟨c', s', F', hS⟩ := hrel
    obtain ⟨g, rfl⟩ : ∃ g, gk = g + 1 := ⟨gk - 1, by rcases hS.out.ep with h | h <;> omega⟩
    have hep1 : s'.m.ep ≤ s.m.ep + 6 := by rcases hS.out.ep with h | h <;> omega
    obtain ⟨c1, s1, n1, e1, _, g1⟩ := room_calm hS.out.inv (by omega)
    have hrm := room_any B q p c' s' F' wr hS.out.st hS.out.ch hS.out.inv (by omega)
    have hlog := hS.out.log
    rw [logM, e1] at hlog
    rw [e1] at hrm
    by_cases hn1 : n1 = 0
    case neg =>
      have h9 : n1 = 9 := by rcases g1 with ⟨h, _⟩ | ⟨h, _⟩; exact absurd h hn1; exact h
      subst h9
      simp only at hlog
      rw [if_pos (by decide)] at hlog
      have HX := Lib.hid (HW9.out c1 s1 hlog.symm)
      have HRM := Lib.hid hrm
      clear hlog hrm g1 e1 hn1
      go_wp2_with fail
      refine HRM.out.mono ?_
      rintro e w3 ⟨rfl, hr⟩
      have HR := Lib.hid hr
      clear hr HRM
      simp only
      rw [show errV 9 = Value.iface 137 (.int .i64 9) from rfl]
      go_wp2_with fail
      go_ret
      rw [HX.out]
      exact hS.out.post ⟨rfl, HR.out⟩
    subst hn1
    rcases g1 with ⟨_, hi1, hrw1, hep2, hep3, _, _, h8, hwk1⟩ | ⟨h9, _⟩
    case inr => omega
    simp only at hlog
    rw [if_neg (by simp)] at hlog
    have hrows : s1.rows = s.rows := hrw1.trans hS.out.rows
    obtain ⟨c2, n2, e2, _, g2⟩ := logw_calm (l := l) hi1 hl4 HBF.out (by rw [hrows]; exact HNW.out) h8
    rw [e2] at hlog
    simp only at hlog
    have HRM := Lib.hid hrm
    have HS1 : Hid (∀ w3, SPost B q p F' wr (c1, s1, 0) (.returned (errV 0)) w3 → ∃ F1, StoreR B w3 q p s1 F1 ∧ ChipR B w3 p c1 ∧ Fr B (· ∈ q :: p :: F) w w3 ∧ (∀ b ∈ F1, b ∈ F ∨ w.heap.size ≤ b)) := by
      intro w3 hp
      obtain ⟨_, hc, ⟨F1, hs, hF⟩, hf⟩ := hS.out.post hp
      exact ⟨F1, hs, hc, hf, hF⟩
    have HCW0 := Lib.hid (fun W (hW : ChipR B W p c1) => cwrite_any B p c1 s1.m.log (bytesL l.length l) W hW (by have := HPA.out.2; omega))
    rw [e2] at HCW0
    have HEP := Lib.hid hS.out.ep
    clear hrm e2 hrw1 e1
    by_cases hn7 : n2 = 7
    case neg =>
      rw [if_pos hn7] at hlog
      by_cases hn0 : n2 = 0
      case neg =>
        have h9 : n2 = 9 := by rcases g2 with ⟨h, _⟩ | ⟨h, _⟩ | ⟨h, _⟩; exact absurd h hn0; exact absurd h hn7; exact h
        subst h9
        have HX := Lib.hid (HW9.out c2 s1 hlog.symm)
        clear hlog g2 hn7 hn0 hi1 hwk1 h8
        go_wp2_with fail
        refine HRM.out.mono ?_
        rintro e w3 ⟨rfl, hr⟩
        obtain ⟨F1, hs3, hc3, hf3, hF3⟩ := HS1.out w3 ⟨rfl, hr⟩
        have HS3 := Lib.hid hs3
        have HC3 := Lib.hid hc3
        have HF3 := Lib.hid (And.intro hf3 hF3)
        obtain ⟨A1, c1', A2, c2', t, n, hk, _⟩ := hs3
        have x0 := hk.cell 0
        have x2 := hk.cell 2
        simp at x0 x2
        have HZ : Hid (∀ w', w' = w3.drew → w'.cell? ⟨q, 0, none⟩ = some (.pointer (some ⟨p, 0, none⟩)) ∧ w'.cell? ⟨q, 2, none⟩ = some (.int .i64 s1.m.log)) := fun w' e => by subst e; exact ⟨x0, x2⟩
        have HZ2 : Hid (∀ w', Fr B (· = p) w3.drew w' → w'.cell? ⟨q, 0, none⟩ = some (.pointer (some ⟨p, 0, none⟩)) ∧ w'.cell? ⟨q, 2, none⟩ = some (.int .i64 s1.m.log)) := by
          intro w' hf
          have hk2 := (hk.drewN 1).fr hf (.inr (.inl hqp))
          have y0 := hk2.cell 0
          have y2 := hk2.cell 2
          simp at y0 y2
          exact ⟨y0, y2⟩
        have HCW := Lib.hid (HCW0.out w3.drew (hc3.drewN 1))
        clear hr hc3 hf3 hF3 hk HRM HS1 HCW0
        simp only
        rw [show errV 0 = Value.nilIface from rfl]
        go_wp2_with fail
        go_region_held3 (fun w' => w'.cell? ⟨q, 0, none⟩ = some (.pointer (some ⟨p, 0, none⟩)) ∧ w'.cell? ⟨q, 2, none⟩ = some (.int .i64 s1.m.log))
          ((first | exact HZ.out _ (by rfl) | exact HZ2.out _ hf5))
          ((first | (go_at_call 45; refine HCW.out.mono ?_; rintro e w5 ⟨rfl, hc5, hf5⟩; rw [show errV 9 = Value.iface 137 (.int .i64 9) from rfl])))
        have hs5 := (HS3.out.drewN 1).chip (HC3.out.drewN 1) hf5
        have HFI : Hid (SPost B q p F w (c2, s1, 9) (.returned (errV 9)) w5) := ⟨rfl, hc5, ⟨F1, hs5, HF3.out.2⟩, (HF3.out.1.drewN 1).trans' hf5 (fun b _ e => by subst e; simp)⟩
        clear hs5 hc5 hf5 HCW x0 x2
        go_wp2_with fail
        go_ret
        rw [HX.out]
        exact HFI.out
      subst hn0
      have HX := Lib.hid (HW0.out c2 s1 hlog.symm)
      have hml := Fallen.mem_len hi1
      clear hlog g2 hn7 hi1 hwk1 h8
      go_wp2_with fail
      refine HRM.out.mono ?_
      rintro e w3 ⟨rfl, hr⟩
      obtain ⟨F1, hs3, hc3, hf3, hF3⟩ := HS1.out w3 ⟨rfl, hr⟩
      have HS3 := Lib.hid hs3
      have HC3 := Lib.hid hc3
      have HF3 := Lib.hid (And.intro hf3 hF3)
      obtain ⟨A1, c1', A2, c2', t, n, hk, _⟩ := hs3
      have x0 := hk.cell 0
      have x2 := hk.cell 2
      simp at x0 x2
      have HZ : Hid (∀ w', w' = w3.drew → w'.cell? ⟨q, 0, none⟩ = some (.pointer (some ⟨p, 0, none⟩)) ∧ w'.cell? ⟨q, 2, none⟩ = some (.int .i64 s1.m.log)) := fun w' e => by subst e; exact ⟨x0, x2⟩
      have HZ2 : Hid (∀ w', Fr B (· = p) w3.drew w' → w'.cell? ⟨q, 0, none⟩ = some (.pointer (some ⟨p, 0, none⟩)) ∧ w'.cell? ⟨q, 2, none⟩ = some (.int .i64 s1.m.log)) := by
        intro w' hf
        have hk2 := (hk.drewN 1).fr hf (.inr (.inl hqp))
        have y0 := hk2.cell 0
        have y2 := hk2.cell 2
        simp at y0 y2
        exact ⟨y0, y2⟩
      have HCW := Lib.hid (HCW0.out w3.drew (hc3.drewN 1))
      clear hr hc3 hf3 hF3 hk HRM HS1 HCW0
      simp only
      rw [show errV 0 = Value.nilIface from rfl]
      go_wp2_with fail
      go_region_held3 (fun w' => w'.cell? ⟨q, 0, none⟩ = some (.pointer (some ⟨p, 0, none⟩)) ∧ w'.cell? ⟨q, 2, none⟩ = some (.int .i64 s1.m.log))
        ((first | exact HZ.out _ (by rfl) | exact HZ2.out _ hf5))
        ((first | (go_at_call 45; refine HCW.out.mono ?_; rintro e w5 ⟨rfl, hc5, hf5⟩; rw [show errV 0 = Value.nilIface from rfl])))
      have hs5 := (HS3.out.drewN 1).chip (HC3.out.drewN 1) hf5
      have hls5 : Ents B w5 (.slice A l.length cp) l := ((HL.out.fr HF3.out.1).drewN 1).fr hf5
      have HF5 : Hid (Fr B (· ∈ q :: p :: F) w w5) := (HF3.out.1.drewN 1).trans' hf5 (fun b _ e => by subst e; simp)
      have HTK := Lib.hid (take_any B q p s1 F1 _ l w5 hs5 hls5 (by omega) (Nat.le_trans hB0 HF5.out.size))
      have HAP := Lib.hid (hs5.apart hc5)
      have HC5 := Lib.hid hc5
      clear hs5 hc5 hf5 HCW x0 x2 hls5
      go_wp2_with fail
      refine HTK.out.mono ?_
      rintro e w6 ⟨F6, rfl, hs6, hf6, hF6⟩
      have HFI : Hid (SPost B q p F w (c2, { s1 with mem := l.foldl putE s1.mem }, 0) (.returned .nilIface) w6) := by
        refine ⟨rfl, HC5.out.keep hf6 (fun hm => HAP.out p hm rfl), ⟨F6, hs6, fun b hb => ?_⟩, HF5.out.trans' hf6 (fun b hb hm => ?_)⟩
        · rcases hF6 b hb with h | h
          · exact HF3.out.2 b h
          · exact .inr (Nat.le_trans HF5.out.size h)
        · rcases List.mem_cons.1 hm with rfl | hm
          · simp
          · rcases HF3.out.2 b hm with h | h
            · simp [h]
            · omega
      clear hs6 hf6 hF6 HTK
      go_wp2_with fail
      go_ret
      rw [HX.out]
      exact HFI.out
    subst hn7
    rw [if_neg (by simp)] at hlog
    rcases g2 with ⟨h, _⟩ | ⟨_, hwk, hi2, _⟩ | ⟨h, _⟩
    case inl => omega
    case inr.inr => omega
    have hg2 : g + 1 = 2 ∧ s'.m.ep ≤ s.m.ep := by
      rcases HEP.out with h | ⟨_, _, h⟩
      · exact h
      · have := hwk1 h; rw [hwk] at this; cases this
    obtain ⟨hg2, hep0⟩ := hg2
    obtain ⟨c3, s3, n3, e3, _, g3⟩ := flush_calm hi2 (by omega)
    rw [e3] at hlog
    simp only at hlog
    have HFL0 := Lib.hid (fun W F2 (hS : StoreR B W q p s1 F2) (hC : ChipR B W p c2) => flush_any B q p c2 s1 F2 W hS hC hi2 (by omega))
    rw [e3] at HFL0
    clear e3
    by_cases hn3 : n3 = 0
    case neg =>
      have h9 : n3 = 9 := by rcases g3 with ⟨h, _⟩ | ⟨h, _⟩; exact absurd h hn3; exact h
      subst h9
      rw [if_pos (by decide)] at hlog
      have HX := Lib.hid (HW9.out c3 s3 hlog.symm)
      clear hlog g3 hn3 hi1 hi2 hwk hwk1 h8
      go_wp2_with fail
      refine HRM.out.mono ?_
      rintro e w3 ⟨rfl, hr⟩
      obtain ⟨F1, hs3, hc3, hf3, hF3⟩ := HS1.out w3 ⟨rfl, hr⟩
      have HS3 := Lib.hid hs3
      have HC3 := Lib.hid hc3
      have HF3 := Lib.hid (And.intro hf3 hF3)
      obtain ⟨A1, c1', A2, c2', t, n, hk, _⟩ := hs3
      have x0 := hk.cell 0
      have x2 := hk.cell 2
      simp at x0 x2
      have HZ : Hid (∀ w', w' = w3.drew → w'.cell? ⟨q, 0, none⟩ = some (.pointer (some ⟨p, 0, none⟩)) ∧ w'.cell? ⟨q, 2, none⟩ = some (.int .i64 s1.m.log)) := fun w' e => by subst e; exact ⟨x0, x2⟩
      have HZ2 : Hid (∀ w', Fr B (· = p) w3.drew w' → w'.cell? ⟨q, 0, none⟩ = some (.pointer (some ⟨p, 0, none⟩)) ∧ w'.cell? ⟨q, 2, none⟩ = some (.int .i64 s1.m.log)) := by
        intro w' hf
        have hk2 := (hk.drewN 1).fr hf (.inr (.inl hqp))
        have y0 := hk2.cell 0
        have y2 := hk2.cell 2
        simp at y0 y2
        exact ⟨y0, y2⟩
      have HCW := Lib.hid (HCW0.out w3.drew (hc3.drewN 1))
      clear hr hc3 hf3 hF3 hk HRM HS1 HCW0
      simp only
      rw [show errV 0 = Value.nilIface from rfl]
      go_wp2_with fail
      go_region_held3 (fun w' => w'.cell? ⟨q, 0, none⟩ = some (.pointer (some ⟨p, 0, none⟩)) ∧ w'.cell? ⟨q, 2, none⟩ = some (.int .i64 s1.m.log))
        ((first | exact HZ.out _ (by rfl) | exact HZ2.out _ hf5))
        ((first | (go_at_call 45; refine HCW.out.mono ?_; rintro e w5 ⟨rfl, hc5, hf5⟩; rw [show errV 7 = Value.iface 137 (.int .i64 7) from rfl])))
      have hs5 := (HS3.out.drewN 1).chip (HC3.out.drewN 1) hf5
      have HFL := Lib.hid (HFL0.out w5 F1 hs5 hc5)
      have HF5 : Hid (Fr B (· ∈ q :: p :: F) w w5) := (HF3.out.1.drewN 1).trans' hf5 (fun b _ e => by subst e; simp)
      clear hs5 hc5 hf5 HCW x0 x2 HFL0
      go_wp2_with fail
      refine HFL.out.mono ?_
      rintro e w6 ⟨rfl, hr⟩
      have HFI : Hid (SPost B q p F w (c3, s3, 9) (.returned (errV 9)) w6) := SPost.step HF5.out HF3.out.2 ⟨rfl, hr⟩
      clear hr HFL
      simp only
      rw [show errV 9 = Value.iface 137 (.int .i64 9) from rfl]
      go_wp2_with fail
      go_ret
      rw [HX.out]
      exact HFI.out
    subst hn3
    rw [if_neg (by simp)] at hlog
    rcases g3 with ⟨_, hi3, hrw3, hep4, hep5, _, _, _, ⟨b3, hb3, _, hb4, _⟩, _⟩ | ⟨h, _⟩
    case inr => omega
    have HLG := Lib.hid hlog
    have HI3 := Lib.hid hi3
    have HRW : Hid (s3.rows = s.rows) := hrw3.trans hrows
    have HWK : Hid ((c3.b s3.m.log.toNat).weak = false) := by rw [Hid, hb3, Int.toNat_natCast]; exact hb4
    clear hlog hi3 hi1 hi2 hwk hwk1 h8 hrw3 hb3 hb4 hrows
    go_wp2_with fail
    refine HRM.out.mono ?_
    rintro e w3 ⟨rfl, hr⟩
    obtain ⟨F1, hs3, hc3, hf3, hF3⟩ := HS1.out w3 ⟨rfl, hr⟩
    have HS3 := Lib.hid hs3
    have HC3 := Lib.hid hc3
    have HF3 := Lib.hid (And.intro hf3 hF3)
    obtain ⟨A1, c1', A2, c2', t, n, hk, _⟩ := hs3
    have x0 := hk.cell 0
    have x2 := hk.cell 2
    simp at x0 x2
    have HZ : Hid (∀ w', w' = w3.drew → w'.cell? ⟨q, 0, none⟩ = some (.pointer (some ⟨p, 0, none⟩)) ∧ w'.cell? ⟨q, 2, none⟩ = some (.int .i64 s1.m.log)) := fun w' e => by subst e; exact ⟨x0, x2⟩
    have HZ2 : Hid (∀ w', Fr B (· = p) w3.drew w' → w'.cell? ⟨q, 0, none⟩ = some (.pointer (some ⟨p, 0, none⟩)) ∧ w'.cell? ⟨q, 2, none⟩ = some (.int .i64 s1.m.log)) := by
      intro w' hf
      have hk2 := (hk.drewN 1).fr hf (.inr (.inl hqp))
      have y0 := hk2.cell 0
      have y2 := hk2.cell 2
      simp at y0 y2
      exact ⟨y0, y2⟩
    have HCW := Lib.hid (HCW0.out w3.drew (hc3.drewN 1))
    clear hr hc3 hf3 hF3 hk HRM HS1 HCW0
    simp only
    rw [show errV 0 = Value.nilIface from rfl]
    go_wp2_with fail
    go_region_held3 (fun w' => w'.cell? ⟨q, 0, none⟩ = some (.pointer (some ⟨p, 0, none⟩)) ∧ w'.cell? ⟨q, 2, none⟩ = some (.int .i64 s1.m.log))
      ((first | exact HZ.out _ (by rfl) | exact HZ2.out _ hf5))
      ((first | (go_at_call 45; refine HCW.out.mono ?_; rintro e w5 ⟨rfl, hc5, hf5⟩; rw [show errV 7 = Value.iface 137 (.int .i64 7) from rfl])))
    have hs5 := (HS3.out.drewN 1).chip (HC3.out.drewN 1) hf5
    have HFL := Lib.hid (HFL0.out w5 F1 hs5 hc5)
    have HF5 : Hid (Fr B (· ∈ q :: p :: F) w w5) := (HF3.out.1.drewN 1).trans' hf5 (fun b _ e => by subst e; simp)
    clear hs5 hc5 hf5 HCW x0 x2 HFL0
    go_wp2_with fail
    refine HFL.out.mono ?_
    rintro e w6 ⟨rfl, hr⟩
    have hfi : SPost B q p F w (c3, s3, 0) (.returned (errV 0)) w6 := SPost.step HF5.out HF3.out.2 ⟨rfl, hr⟩
    have HFI := Lib.hid hfi
    clear hr HFL hfi
    simp only
    rw [show errV 0 = Value.nilIface from rfl]
    go_wp2_with fail
    go_roundg g
    case measure => omega
    case rel =>
      obtain ⟨_, hc6, ⟨F6, hs6, hF6⟩, hf6⟩ := HFI.out
      exact ⟨c3, s3, F6, hs6, hc6, hf6, hF6, HI3.out, HLG.out, HRW.out, .inr ⟨by omega, by omega, HWK.out⟩⟩
end Go.Proofs.Ytaepdbkfaoiimaa
/- The contract of store.Manifest. Conditions: none but those that it names. -/
set_option linter.unusedVariables false
set_option linter.unusedSimpArgs false
namespace Go.Proofs.Ytaepdbkfaoiimaa
open Go.RowKit
section
variable {B g k i j : Nat} {w : World} {cs : Array Value} {a0 a1 a2 a3 b0 b1 b2 b3 x y : Value}
theorem man_two (hz : Blk w k 91 #[a0, a1, a2, a3]) (hne : k ≠ g) : Blk ((((((w.setCell ⟨g, i, none⟩ x).setCell ⟨g, j, none⟩ y).setCell ⟨k, 0, none⟩ b0).setCell ⟨k, 1, none⟩ b1).setCell ⟨k, 2, none⟩ b2).setCell ⟨k, 3, none⟩ b3) k 91 #[b0, b1, b2, b3] :=
  store4 ((hz.far (p := ⟨g, i, none⟩) hne x).far (p := ⟨g, j, none⟩) hne y) b0 b1 b2 b3
theorem ints_two {v : Value} {l : List Int} (h : Ints B w v l) (hz : Blk w k 91 #[a0, a1, a2, a3]) (hg : Blk w g 91 cs) (hne : k ≠ g) (hBg : B ≤ g) (hBk : B ≤ k) : Ints B ((((((w.setCell ⟨g, i, none⟩ x).setCell ⟨g, j, none⟩ y).setCell ⟨k, 0, none⟩ b0).setCell ⟨k, 1, none⟩ b1).setCell ⟨k, 2, none⟩ b2).setCell ⟨k, 3, none⟩ b3) v l := by
  have h1 := Rd.far' (o := i) h hg hBg (by decide) x
  have h2 := Rd.far' (o := j) h1 (hg.set_ i x) hBg (by decide) y
  have hz2 := (hz.far (p := ⟨g, i, none⟩) hne x).far (p := ⟨g, j, none⟩) hne y
  exact Rd.far' (Rd.far' (Rd.far' (Rd.far' h2 hz2 hBk (by decide) _) (hz2.set_ 0 _) hBk (by decide) _) ((hz2.set_ 0 _).set_ 1 _) hBk (by decide) _) (((hz2.set_ 0 _).set_ 1 _).set_ 2 _) hBk (by decide) _
theorem below_two {n : Nat} {w0 : World} (h : Below n w0 w) (hg : n ≤ g) (hk : n ≤ k) : Below n w0 ((((((w.setCell ⟨g, i, none⟩ x).setCell ⟨g, j, none⟩ y).setCell ⟨k, 0, none⟩ b0).setCell ⟨k, 1, none⟩ b1).setCell ⟨k, 2, none⟩ b2).setCell ⟨k, 3, none⟩ b3) :=
  below4 ((h.setCell (p := ⟨g, i, none⟩) hg x).setCell (p := ⟨g, j, none⟩) hg y) hk b0 b1 b2 b3
end
set_option maxRecDepth 20000 in
set_option maxHeartbeats 4000000 in
theorem sman_any (B : Nat) (q p : Nat) (s : SM) (F : List Nat) (w : World) (h : StoreR B w q p s F) (h1 : s.m.nw.length ≤ 1000) (h2 : s.m.od.length ≤ 1000) :
    Calls Try.prog 80 #[.pointer (some ⟨q, 0, none⟩)] w fun e w' => ∃ A3 c3 A4 c4, e = .returned (.agg #[.int .i64 s.m.ep, .int .i64 s.m.log, .slice A3 s.m.nw.length c3, .slice A4 s.m.od.length c4]) ∧ Ints B w' (.slice A3 s.m.nw.length c3) s.m.nw ∧ Ints B w' (.slice A4 s.m.od.length c4) s.m.od ∧ Below w.heap.size w w' := by
  have fin : ∀ (wr : World) (tmps : Array Value) (A3 A4 : Option Addr) (c3 c4 : Nat), Blk wr w.heap.size 91 #[.int .i64 s.m.ep, .int .i64 s.m.log, .slice A3 s.m.nw.length c3, .slice A4 s.m.od.length c4] → Ints B wr (.slice A3 s.m.nw.length c3) s.m.nw → Ints B wr (.slice A4 s.m.od.length c4) s.m.od → Below w.heap.size w wr → tmps[2]? = some (.pointer (some ⟨w.heap.size, 0, none⟩)) →
      bodyPost Try.prog Try.f80 (fun e w' => ∃ A3 c3 A4 c4, e = .returned (.agg #[.int .i64 s.m.ep, .int .i64 s.m.log, .slice A3 s.m.nw.length c3, .slice A4 s.m.od.length c4]) ∧ Ints B w' (.slice A3 s.m.nw.length c3) s.m.nw ∧ Ints B w' (.slice A4 s.m.od.length c4) s.m.od ∧ Below w.heap.size w w') .ret { tmps := tmps, defers := [] } wr := by
    intro wr tmps A3 A4 c3 c4 hk h3 h4 hb t2
    have y0 := hk.cell 0
    have y1 := hk.cell 1
    have y2 := hk.cell 2
    have y3 := hk.cell 3
    simp at y0 y1 y2 y3
    exact bodyPost_ret (v := .agg #[.int .i64 s.m.ep, .int .i64 s.m.log, .slice A3 s.m.nw.length c3, .slice A4 s.m.od.length c4]) (by simp [results, Try.results80, go_sem, t2, y0, y1, y2, y3]) rfl ⟨A3, c3, A4, c4, rfl, h3, h4, hb⟩
  have FIN := Lib.hid fin
  clear fin
  have hlt := h.lt
  obtain ⟨A1, c1, A2, c2, t, n, hk, hn, ho, _, hB, _⟩ := h
  have x1 := hk.cell 1
  have x2 := hk.cell 2
  have x3 := hk.cell 3
  have x4 := hk.cell 4
  simp at x1 x2 x3 x4
  have hb2 : Below w.heap.size w ((w.alloc (.cells #[.int .i64 0, .int .i64 0, .slice none 0 0, .slice none 0 0] 91)).alloc (.cells #[.int .i64 s.m.ep, .int .i64 s.m.log, .slice A1 s.m.nw.length c1, .slice A2 s.m.od.length c2] 91)) := ((Below.refl _ _).alloc (Nat.le_refl _) _).alloc (by simp) _
  have hg : Blk ((w.alloc (.cells #[.int .i64 0, .int .i64 0, .slice none 0 0, .slice none 0 0] 91)).alloc (.cells #[.int .i64 s.m.ep, .int .i64 s.m.log, .slice A1 s.m.nw.length c1, .slice A2 s.m.od.length c2] 91)) (w.heap.size + 1) 91 #[.int .i64 s.m.ep, .int .i64 s.m.log, .slice A1 s.m.nw.length c1, .slice A2 s.m.od.length c2] := by
    have := Blk.new (w.alloc (.cells #[.int .i64 0, .int .i64 0, .slice none 0 0, .slice none 0 0] 91)) 91 #[.int .i64 s.m.ep, .int .i64 s.m.log, .slice A1 s.m.nw.length c1, .slice A2 s.m.od.length c2]
    rw [World.size_alloc] at this
    exact this
  have hz : Blk ((w.alloc (.cells #[.int .i64 0, .int .i64 0, .slice none 0 0, .slice none 0 0] 91)).alloc (.cells #[.int .i64 s.m.ep, .int .i64 s.m.log, .slice A1 s.m.nw.length c1, .slice A2 s.m.od.length c2] 91)) w.heap.size 91 #[.int .i64 0, .int .i64 0, .slice none 0 0, .slice none 0 0] := (Blk.new w _ _).alloc _
  have HN := Lib.hid (fun W (hW : Below w.heap.size w W) => hn.below hW)
  have HO := Lib.hid (fun W (hW : Below w.heap.size w W) => ho.below hW)
  have HB2 := Lib.hid hb2
  have HG := Lib.hid hg
  have HZ := Lib.hid hz
  clear hk hn ho hb2 hg hz
  go_enter Try.func80, Try.ntmps80
  go_wp2_with fail
  generalize hW : ((w.alloc (.cells #[.int .i64 0, .int .i64 0, .slice none 0 0, .slice none 0 0] 91)).alloc (.cells #[.int .i64 s.m.ep, .int .i64 s.m.log, .slice A1 s.m.nw.length c1, .slice A2 s.m.od.length c2] 91)) = W at *
  have HBW := Lib.hid (fun W' (h : Below W.heap.size W W') => HB2.out.trans (h.mono HB2.out.size))
  have hgl := HG.out.lt
  have g0 := HG.out.cell 0
  have g1 := HG.out.cell 1
  have g2 := HG.out.cell 2
  have g3 := HG.out.cell 3
  have f2 := HG.out.frozen 2
  have f3 := HG.out.frozen 3
  simp at g0 g1 g2 g3
  have HC1 := Lib.hid (clone_any B _ s.m.nw W.drew (HN.out _ HB2.out.drew) (by omega))
  clear x1 x2 x3 x4 hW
  go_region_with (first
    | (go_at_call 115; refine (clone_any B _ s.m.od w4 (HO.out _ hb4) (by omega)).mono ?_; rintro e w5 ⟨v5, rfl, hv5, hb5⟩; obtain ⟨A4, c4, rfl, _, _, _⟩ := hv5.form; have hb45 := hb4.trans (hb5.mono hb4.size); have hg5 := hg4.below hb5 hg4.lt; have hl5 := hg5.lt; have p2 := hg5.cell 2; have p3 := hg5.cell 3; have r2 := hg5.frozen 2; have r3 := hg5.frozen 3; simp at p2 p3)
    | (go_at_call 115; refine HC1.out.mono ?_; rintro e w4 ⟨v4, rfl, hv4, hb4'⟩; obtain ⟨A3, c3, rfl, _, _, _⟩ := hv4.form; have hb4 := HB2.out.drew.trans (hb4'.mono HB2.out.size); have hg4 := (HG.out.drewN 1).below hb4' hgl; have hl4 := hg4.lt; have o2 := hg4.cell 2; have o3 := hg4.cell 3; have q2 := hg4.frozen 2; have q3 := hg4.frozen 3; simp at o2 o3))
  all_goals
    have hz5 := ((HZ.out.drewN 1).below hb4' (show w.heap.size < W.heap.size by have := HZ.out.lt; exact this)).below hb5 (Nat.lt_of_lt_of_le HZ.out.lt hb4'.size)
    have z0 := hz5.cell 0
    have z1 := hz5.cell 1
    have z2 := hz5.cell 2
    have z3 := hz5.cell 3
    have z4 := hz5.frozen 0
    have z5 := hz5.frozen 1
    have z6 := hz5.frozen 2
    have z7 := hz5.frozen 3
    simp at z0 z1 z2 z3
    have p0 := hg5.cell 0
    have p1 := hg5.cell 1
    simp at p0 p1
    have H5 := Lib.hid (And.intro hz5 (And.intro hg5 (And.intro (hv4.below hb5) (And.intro hv5 hb45))))
    have HBW0 : Hid (B ≤ w.heap.size) := by have := hB; have := hlt; exact Nat.le_trans hB (Nat.le_of_lt hlt)
    have HGB : Hid (B ≤ w.heap.size + 1) := Nat.le_trans HBW0.out (Nat.le_succ _)
    clear hz5 hg5 hv4 hv5 hb45 hb5 hb4 hb4' hg4 o2 o3 q2 q3
    go_wp2_with fail
    exact FIN.out _ _ A3 A4 c3 c4 (man_two H5.out.1 (by omega)) (ints_two H5.out.2.2.1 H5.out.1 H5.out.2.1 (by omega) HGB.out HBW0.out) (ints_two H5.out.2.2.2.1 H5.out.1 H5.out.2.1 (by omega) HGB.out HBW0.out) (below_two H5.out.2.2.2.2 (by omega) (Nat.le_refl _)) rfl
end Go.Proofs.Ytaepdbkfaoiimaa
/- The arguments of a law, opened: manifests and acts. Conditions: none. -/
set_option linter.unusedVariables false
namespace Go.Proofs.Ytaepdbkfaoiimaa
open Go.ChangeShapes Go.WideShapes Go.ChangeAt Go.RowKit Go.WideMaps Go.WideElems
open Go.ChangeMaps (open_string shut_string)

theorem lit64 {n : Int} (h : (Lit.int .i64 n).wf = true) : -9223372036854775808 ≤ n ∧ n ≤ 9223372036854775807 := by
  simp [Lit.wf, IntKind.min, IntKind.max, IntKind.signed, IntKind.bits] at h
  omega
set_option maxRecDepth 100000 in
theorem ints_trod {H : Type} {enc : TypeId × Value → H} {W : World} {fuel : Nat} {v : Value} {x : DataW H × List MemPlace} (h : DataW.trod enc Try.prog W 0 (fun _ => true) true fuel 41 [v] = some x) : ∃ l, Ints W.heap.size W v l := by
  obtain ⟨l, h1, _⟩ := slice_trod Try.underlying41 (by kernel_rfl) (show 0 < 1 by omega) (fun n : Int => [.int .i64 n]) (fun _ => rfl) (fun _ => True)
    (fun n cs y hy => by
      obtain ⟨n', h, _, _⟩ := DataW.trod_int Try.underlying3 hy
      exact ⟨n', h, trivial⟩) h
  exact ⟨l, by rw [flat_one] at h1; exact h1⟩
/-- What a manifest's numbers are. -/
def ManOk (m : Man) : Prop := -9223372036854775808 ≤ m.ep ∧ m.ep ≤ 9223372036854775807 ∧ -9223372036854775808 ≤ m.log ∧ m.log ≤ 9223372036854775807
set_option maxRecDepth 100000 in
theorem man_trod {H : Type} {enc : TypeId × Value → H} {W : World} {n : Nat} {cs : List Value} {y : DataW H × List MemPlace} (h : DataW.trod enc Try.prog W 0 (fun _ => true) true n 91 cs = some y) :
    ∃ (m : Man) (vn vo : Value), cs = [.int .i64 m.ep, .int .i64 m.log, vn, vo] ∧ Ints W.heap.size W vn m.nw ∧ Ints W.heap.size W vo m.od ∧ ManOk m := by
  have hs := Try.underlying91
  obtain ⟨ys, n', _, _, hlen, hyl, hf⟩ := DataW.trod_struct hs h
  have c9 : Try.prog.cellsOf 3 = 1 := by kernel_rfl
  have c4 : Try.prog.cellsOf 41 = 1 := by kernel_rfl
  have c35 : Try.prog.cellsOf 91 = 4 := by kernel_rfl
  have h0 : DataW.trod enc Try.prog W 0 _ true n' 3 ((cs.drop 0).take (Try.prog.cellsOf 3)) = ys[0]? := hf 0 _ rfl
  have h1 : DataW.trod enc Try.prog W 0 _ true n' 3 ((cs.drop 1).take (Try.prog.cellsOf 3)) = ys[1]? := hf 1 _ rfl
  have h2 : DataW.trod enc Try.prog W 0 _ true n' 41 ((cs.drop 2).take (Try.prog.cellsOf 41)) = ys[2]? := hf 2 _ rfl
  have h3 : DataW.trod enc Try.prog W 0 _ true n' 41 ((cs.drop 3).take (Try.prog.cellsOf 41)) = ys[3]? := hf 3 _ rfl
  rw [c35] at hlen
  rw [c9] at h0 h1
  rw [c4] at h2 h3
  match cs, hlen with
  | [v0, v1, v2, v3], _ =>
    have hl4 : ys.length = 4 := hyl
    match ys, hl4 with
    | [y0, y1, y2, y3], _ =>
      obtain ⟨a, e0, _, b0⟩ := DataW.trod_int Try.underlying3 (show DataW.trod enc Try.prog W 0 _ true n' _ [v0] = some y0 from h0)
      obtain ⟨b, e1, _, b1⟩ := DataW.trod_int Try.underlying3 (show DataW.trod enc Try.prog W 0 _ true n' _ [v1] = some y1 from h1)
      obtain ⟨l2, q2⟩ := ints_trod (show DataW.trod enc Try.prog W 0 _ true n' _ [v2] = some y2 from h2)
      obtain ⟨l3, q3⟩ := ints_trod (show DataW.trod enc Try.prog W 0 _ true n' _ [v3] = some y3 from h3)
      simp at e0 e1
      subst e0; subst e1
      exact ⟨⟨a, b, l2, l3⟩, v2, v3, rfl, q2, q3, (lit64 b0).1, (lit64 b0).2, (lit64 b1).1, (lit64 b1).2⟩
set_option maxRecDepth 100000 in
theorem man_of {H : Type} {enc : TypeId × Value → H} {W : World} {base : Nat} {v : Value} {d : DataW H} {p : List MemPlace}
    (hval : Value.okWide Try.prog W .any base 91 v) (h : DataW.Trod enc Try.prog W 0 (fun _ => true) true 91 v d p) : ∃ m, ManV W.heap.size W v m ∧ ManOk m := by
  obtain ⟨cs, rfl, _⟩ := okWide_struct Try.underlying91 hval
  obtain ⟨fuel, hf⟩ := h
  obtain ⟨m, vn, vo, e, h2, h3, h4⟩ := man_trod hf
  have e' : cs = #[.int .i64 m.ep, .int .i64 m.log, vn, vo] := by
    have : (Value.agg cs).cells.toList = cs.toList := rfl
    rw [this] at e
    exact Array.toList_inj.1 e
  subst e'
  exact ⟨m, ⟨vn, vo, rfl, h2, h3⟩, h4⟩
/-- A manifest with the slices as they stand. -/
structure ManX where
  m : Man
  vn : Value
  vo : Value
def ManX.cells (x : ManX) : List Value := [.int .i64 x.m.ep, .int .i64 x.m.log, x.vn, x.vo]
def MansR (B : Nat) (w : World) (v : Value) (l : List ManX) : Prop := Rd B 91 4 w v l.length (l.flatMap ManX.cells) ∧ ∀ x ∈ l, Ints B w x.vn x.m.nw ∧ Ints B w x.vo x.m.od ∧ ManOk x.m
set_option maxRecDepth 100000 in
theorem mans_of {H : Type} {enc : TypeId × Value → H} {W : World} {base : Nat} {v : Value} {d : DataW H} {p : List MemPlace}
    (hval : Value.okWide Try.prog W .any base 92 v) (h : DataW.Trod enc Try.prog W 0 (fun _ => true) true 92 v d p) : ∃ l, MansR W.heap.size W v l := by
  obtain ⟨a0, len, cap, rfl⟩ := okWide_slice Try.underlying92 hval
  obtain ⟨fuel, hf⟩ := h
  obtain ⟨l, h1, h2⟩ := slice_trod Try.underlying92 (by kernel_rfl) (show 0 < 4 by omega) ManX.cells (fun _ => rfl) (fun x => Ints W.heap.size W x.vn x.m.nw ∧ Ints W.heap.size W x.vo x.m.od ∧ ManOk x.m)
    (fun n cs y hy => by
      obtain ⟨m, vn, vo, e, h2, h3, h4⟩ := man_trod hy
      exact ⟨⟨m, vn, vo⟩, e, h2, h3, h4⟩) hf
  exact ⟨l, h1, h2⟩
/-- An act, with its slice as it stands. -/
structure Act where
  kind : ByteArray
  s : ByteArray
  a : Int
  b : Int
  v : Value
  l : List Ent
def Act.cells (x : Act) : List Value := [.string x.kind, .string x.s, .int .i64 x.a, .int .i64 x.b, x.v]
def ActOk (x : Act) : Prop := x.kind.size ≤ 9223372036854775807 ∧ x.s.size ≤ 9223372036854775807 ∧ -9223372036854775808 ≤ x.a ∧ x.a ≤ 9223372036854775807 ∧ -9223372036854775808 ≤ x.b ∧ x.b ≤ 9223372036854775807
def ActsR (B : Nat) (w : World) (v : Value) (l : List Act) : Prop := Rd B 74 5 w v l.length (l.flatMap Act.cells) ∧ ∀ x ∈ l, Ents B w x.v x.l ∧ ActOk x
set_option maxRecDepth 100000 in
theorem act_trod {H : Type} {enc : TypeId × Value → H} {W : World} {n : Nat} {cs : List Value} {y : DataW H × List MemPlace} (h : DataW.trod enc Try.prog W 0 (fun _ => true) true n 74 cs = some y) :
    ∃ x : Act, cs = x.cells ∧ Ents W.heap.size W x.v x.l ∧ ActOk x := by
  have hs := Try.underlying74
  obtain ⟨ys, n', _, _, hlen, hyl, hf⟩ := DataW.trod_struct hs h
  have c9 : Try.prog.cellsOf 3 = 1 := by kernel_rfl
  have c4 : Try.prog.cellsOf 32 = 1 := by kernel_rfl
  have cs1 : Try.prog.cellsOf 9 = 1 := by kernel_rfl
  have c35 : Try.prog.cellsOf 74 = 5 := by kernel_rfl
  have h0 : DataW.trod enc Try.prog W 0 _ true n' 9 ((cs.drop 0).take (Try.prog.cellsOf 9)) = ys[0]? := hf 0 _ rfl
  have h1 : DataW.trod enc Try.prog W 0 _ true n' 9 ((cs.drop 1).take (Try.prog.cellsOf 9)) = ys[1]? := hf 1 _ rfl
  have h2 : DataW.trod enc Try.prog W 0 _ true n' 3 ((cs.drop 2).take (Try.prog.cellsOf 3)) = ys[2]? := hf 2 _ rfl
  have h3 : DataW.trod enc Try.prog W 0 _ true n' 3 ((cs.drop 3).take (Try.prog.cellsOf 3)) = ys[3]? := hf 3 _ rfl
  have h4 : DataW.trod enc Try.prog W 0 _ true n' 32 ((cs.drop 4).take (Try.prog.cellsOf 32)) = ys[4]? := hf 4 _ rfl
  rw [c35] at hlen
  rw [cs1] at h0 h1
  rw [c9] at h2 h3
  rw [c4] at h4
  match cs, hlen with
  | [v0, v1, v2, v3, v4], _ =>
    have hl5 : ys.length = 5 := hyl
    match ys, hl5 with
    | [y0, y1, y2, y3, y4], _ =>
      obtain ⟨s0, e0, _, b0⟩ := DataW.trod_string Try.underlying9 (show DataW.trod enc Try.prog W 0 _ true n' _ [v0] = some y0 from h0)
      obtain ⟨s1, e1, _, b1⟩ := DataW.trod_string Try.underlying9 (show DataW.trod enc Try.prog W 0 _ true n' _ [v1] = some y1 from h1)
      obtain ⟨a, e2, _, b2⟩ := DataW.trod_int Try.underlying3 (show DataW.trod enc Try.prog W 0 _ true n' _ [v2] = some y2 from h2)
      obtain ⟨b, e3, _, b3⟩ := DataW.trod_int Try.underlying3 (show DataW.trod enc Try.prog W 0 _ true n' _ [v3] = some y3 from h3)
      obtain ⟨l4, q4⟩ := ents_trod (show DataW.trod enc Try.prog W 0 _ true n' _ [v4] = some y4 from h4)
      simp at e0 e1 e2 e3
      subst e0; subst e1; subst e2; subst e3
      unfold maxLen at b0 b1
      exact ⟨⟨s0, s1, a, b, v4, l4⟩, rfl, q4, by show s0.size ≤ _; omega, by show s1.size ≤ _; omega, (lit64 b2).1, (lit64 b2).2, (lit64 b3).1, (lit64 b3).2⟩
set_option maxRecDepth 100000 in
theorem act_of {H : Type} {enc : TypeId × Value → H} {W : World} {base : Nat} {v : Value} {d : DataW H} {p : List MemPlace}
    (hval : Value.okWide Try.prog W .any base 74 v) (h : DataW.Trod enc Try.prog W 0 (fun _ => true) true 74 v d p) : ∃ x : Act, v = .agg x.cells.toArray ∧ Ents W.heap.size W x.v x.l ∧ ActOk x := by
  obtain ⟨cs, rfl, _⟩ := okWide_struct Try.underlying74 hval
  obtain ⟨fuel, hf⟩ := h
  obtain ⟨x, e, h2, h3⟩ := act_trod hf
  have e' : cs = x.cells.toArray := by
    have : (Value.agg cs).cells.toList = cs.toList := rfl
    rw [this] at e
    exact Array.toList_inj.1 (by rw [e])
  subst e'
  exact ⟨x, rfl, h2, h3⟩
set_option maxRecDepth 100000 in
theorem acts_of {H : Type} {enc : TypeId × Value → H} {W : World} {base : Nat} {v : Value} {d : DataW H} {p : List MemPlace}
    (hval : Value.okWide Try.prog W .any base 67 v) (h : DataW.Trod enc Try.prog W 0 (fun _ => true) true 67 v d p) : ∃ l, ActsR W.heap.size W v l := by
  obtain ⟨a0, len, cap, rfl⟩ := okWide_slice Try.underlying67 hval
  obtain ⟨fuel, hf⟩ := h
  obtain ⟨l, h1, h2⟩ := slice_trod Try.underlying67 (by kernel_rfl) (show 0 < 5 by omega) Act.cells (fun _ => rfl) (fun x => Ents W.heap.size W x.v x.l ∧ ActOk x)
    (fun n cs y hy => by
      obtain ⟨x, e, h2, h3⟩ := act_trod hy
      exact ⟨x, e, h2, h3⟩) hf
  exact ⟨l, h1, h2⟩
end Go.Proofs.Ytaepdbkfaoiimaa
/- A formatted chip, and what acts make of a store: plain laws. Conditions: none but those that each names. -/
set_option linter.unusedVariables false
set_option linter.unusedSimpArgs false
namespace Go.Proofs.Ytaepdbkfaoiimaa
open Go.RowKit

/-- A manifest is noted on blocks that are blank. -/
theorem note_blank {c : Chip} {n : Man} (hc : CWf c) (hd : c.down = false) (hfu : c.fuse < 0) (h0 : (c.b 0).l = []) (h1 : (c.b 1).l = []) (hf : n.fault = 0) :
    ∃ c1, noteR c 0 n = (c1, 0, 0) ∧ CWf c1 ∧ c1.down = false ∧ c1.fuse < 0 ∧ Head c1 n 0 ∧ SameBut 0 c c1 ∧ ∀ i, (c1.b i).wear = (c.b i).wear := by
  have hwk : (c.b 0).weak = false := by
    cases e : (c.b 0).weak
    · rfl
    · have := hc.weak 0 e; omega
  have hbad : (c.b 0).bad = false := by
    cases e : (c.b 0).bad
    · rfl
    · have := hc.bad 0 e; rw [hwk] at this; cases this
  obtain ⟨c2, n2, e2, s2, f2, g2⟩ := write_calm (c := c) (b := 0) (d := n.bytes) (by decide) hd hbad hwk (mansize hf) (by rw [h0]; simp)
  have w2 : CWf c2 := by have := hc.write_ ((0 : Nat) : Int) n.bytes; rw [e2] at this; exact this
  obtain ⟨hn, hfu'⟩ := f2 hfu
  subst hn
  rcases g2 with ⟨_, d2, p2, l2, x2⟩ | ⟨h, _⟩
  · refine ⟨c2, ?_, w2, d2, hfu', ?_, s2, fun i => ?_⟩
    · unfold noteR
      rw [if_neg (by simpa using hf), if_neg (by rw [show ((0 : Int).toNat) = 0 from rfl, h0]; simp)]
      rw [show ((0 : Nat) : Int) = 0 from rfl] at e2
      rw [e2]
      simp
    · refine ⟨?_, .inl rfl⟩
      unfold findM
      rw [l2, s2.other 1 (by decide), h1, h0]
      show [].foldl (fStep 1) ([⟨pad n.bytes, false⟩].foldl (fStep 0) (Man.zero, -1)) = _
      rw [List.foldl_nil, List.foldl_cons, List.foldl_nil, fStep_eq, man_sheet hf]
      have := (fault_zero.1 hf).1
      show (if (0 : Int) < n.ep then (n, (0 : Int)) else (Man.zero, -1)) = (n, 0)
      rw [if_pos (by omega)]
    · by_cases e : i = 0
      · subst e; exact x2
      · rw [s2.other i e]
  · cases h
theorem wrap64_small {n : Int} (h0 : 0 ≤ n) (h1 : n ≤ 1000000000000) : wrap64 n = n := by unfold wrap64; omega
theorem wrap64_one : 0 ≤ wrap64 (0 + 1) ∧ wrap64 (0 + 1) ≤ 1 := by unfold wrap64; omega
/-- A store that has done so many acts, so many of which weakened a block. -/
structure Good (k j : Nat) (c : Chip) (s : SM) : Prop where
  inv : Inv c s
  calm : c.fuse < 0
  nw : s.m.nw.length ≤ 2
  ep : s.m.ep ≤ 1 + 12 * (k : Int)
  weak : weaks c ≤ j
  wear : ∀ i, 2 ≤ i → 0 ≤ (c.b i).wear ∧ (c.b i).wear ≤ 1 + 12 * (k : Int)
/-- A chip is formatted. -/
theorem format_calm : ∃ c1 c2 c3 c4 b, Chip.new.erase 0 = (c1, 0) ∧ c1.erase 1 = (c2, 0) ∧ c2.down = false ∧ blankM [] c2 = (c3, b, 0) ∧ noteR c3 0 (manL 1 b) = (c4, 0, 0) ∧
    Inv c4 ⟨manL 1 b, 0, [], []⟩ ∧ c4.fuse < 0 ∧ weaks c4 = 0 ∧ (∀ i, 0 ≤ (c4.b i).wear ∧ (c4.b i).wear ≤ 1) := by
  obtain ⟨c1, n1, e1, s1, f1, g1⟩ := erase_calm (c := Chip.new) (b := 0) (by decide) rfl rfl rfl
  obtain ⟨hn, hf1⟩ := f1 (by decide)
  subst hn
  have w1 : CWf c1 := by have := CWf.new.erase_ ((0 : Nat) : Int); rw [e1] at this; exact this
  rcases g1 with ⟨_, d1, p1, l1, x1⟩ | ⟨h, _⟩
  case inr => cases h
  have o1 : c1.b 1 = ⟨[], 0, false, false⟩ := s1.other 1 (by decide)
  obtain ⟨c2, n2, e2, s2, f2, g2⟩ := erase_calm (c := c1) (b := 1) (by decide) d1 (by rw [o1]) (by rw [o1])
  obtain ⟨hn, hf2⟩ := f2 hf1
  subst hn
  have w2 : CWf c2 := by have := w1.erase_ ((1 : Nat) : Int); rw [e2] at this; exact this
  rcases g2 with ⟨_, d2, p2, l2, x2⟩ | ⟨h, _⟩
  case inr => cases h
  have hb2 : ∀ i, (c2.b i).l = [] ∧ (c2.b i).weak = false ∧ (c2.b i).bad = false ∧ (2 ≤ i → (c2.b i).wear = 0) ∧ 0 ≤ (c2.b i).wear ∧ (c2.b i).wear ≤ 1 := by
    intro i
    by_cases i1 : i = 1
    · subst i1
      refine ⟨l2, by rw [s2.weak, o1], by rw [s2.bad, o1], fun h => by omega, ?_⟩
      rw [x2, o1]; exact wrap64_one
    · rw [s2.other i i1]
      by_cases i0 : i = 0
      · subst i0
        refine ⟨l1, s1.weak, s1.bad, fun h => by omega, ?_⟩
        rw [x1]; exact wrap64_one
      · rw [s1.other i i0]; exact ⟨rfl, rfl, rfl, fun _ => rfl, Int.le_refl _, show (0 : Int) ≤ 1 by decide⟩
  have hwk0 : weaks c2 = 0 := by
    unfold weaks
    rw [List.countP_eq_zero]
    intro i _
    simp [(hb2 i).2.1]
  obtain ⟨c3, b, n3, e3, w3, x3, f3, g3⟩ := seek_calm lays_erase [] 25 c2 (by have := goods_le c2; omega) w2 d2 ⟨2, by omega, by omega, (hb2 2).2.1, by simp⟩
  obtain ⟨hn, hf3⟩ := f3 hf2
  subst hn
  rcases g3 with ⟨_, d3, p3, q, rfl, q2, q24, _, hq, _, hqw, hwear⟩ | ⟨h, _⟩
  case inr => cases h
  have hfl : (manL 1 (q : Int)).fault = 0 := manL_fault (by decide) (by decide) (by omega) (by omega)
  obtain ⟨c4, e4, w4, d4, f4, h4, s4, x4⟩ := note_blank (n := manL 1 (q : Int)) w3 d3 hf3 (by rw [x3.keep 0 (.inr (by omega))]; exact (hb2 0).1) (by rw [x3.keep 1 (.inr (by omega))]; exact (hb2 1).1) hfl
  have hwk : ∀ i, (c4.b i).weak = false := fun i => by
    by_cases e : i = 0
    · subst e; rw [s4.weak, x3.weak]; exact (hb2 0).2.1
    · rw [s4.other i e, x3.weak]; exact (hb2 i).2.1
  have hw0 : weaks c4 = 0 := by
    unfold weaks
    rw [List.countP_eq_zero]
    intro i _
    simp [hwk i]
  refine ⟨c1, c2, c3, c4, (q : Int), e1, e2, d2, e3, e4, ⟨w4, d4, h4, ⟨hfl, trivial, ⟨[], ?_, rfl, by simp, by simp⟩, by omega, by simp [manL], by simp [manL], ⟨by simp [Rises], by simp⟩, ?_, ?_⟩⟩, f4, hw0, fun i => ?_⟩
  · show logE (c4.b ((q : Int)).toNat).l = some []
    rw [Int.toNat_natCast, s4.other q (by omega), hq]
    rfl
  · show (rowsOf [] []).length ≤ 40
    decide +kernel
  · show (liveE (mergeAll [])).length ≤ 40
    decide +kernel
  · rw [x4 i, hwear i]
    have := (hb2 i).2.2.2
    by_cases e : i = q
    · subst e
      rw [if_pos rfl, this.1 q2]
      exact wrap64_one
    · rw [if_neg e]; exact this.2
theorem format_good : ∃ c1 c2 c3 c4 b, Chip.new.erase 0 = (c1, 0) ∧ c1.erase 1 = (c2, 0) ∧ c2.down = false ∧ blankM [] c2 = (c3, b, 0) ∧ noteR c3 0 (manL 1 b) = (c4, 0, 0) ∧ Good 0 0 c4 ⟨manL 1 b, 0, [], []⟩ := by
  obtain ⟨c1, c2, c3, c4, b, e1, e2, d2, e3, e4, hi, hf, hw, hwe⟩ := format_calm
  exact ⟨c1, c2, c3, c4, b, e1, e2, d2, e3, e4, hi, hf, by simp [manL], by simp [manL], by omega, fun i _ => by have := hwe i; omega⟩
/-- Weakening a block leaves what a store holds. -/
theorem weaken_l (c : Chip) (b : Int) (i : Nat) : ((c.weaken b).1.b i).l = (c.b i).l ∧ ((c.weaken b).1.b i).bad = (c.b i).bad ∧ ((c.weaken b).1.b i).wear = (c.b i).wear := by
  unfold Chip.weaken
  split
  · exact ⟨rfl, rfl, rfl⟩
  · by_cases e : i = b.toNat
    · subst e; simp
    · show ((c.set b.toNat _).b i).l = _ ∧ _
      rw [Chip.set_far c _ e]; exact ⟨rfl, rfl, rfl⟩
theorem countP_one {n j : Nat} {f g : Nat → Bool} (h : ∀ i, i ≠ j → g i = f i) : (List.range n).countP g ≤ (List.range n).countP f + 1 := by
  induction n with
  | zero => simp
  | succ n ih =>
    rw [List.range_succ, List.countP_append, List.countP_append]
    by_cases e : n = j
    · subst e
      have : (List.range n).countP g = (List.range n).countP f := by
        refine List.countP_congr fun i hi => ?_
        rw [h i (by have := List.mem_range.1 hi; omega)]
      rw [this]
      have : [n].countP g ≤ 1 := by rw [List.countP_singleton]; split <;> omega
      omega
    · have : [n].countP g = [n].countP f := by rw [List.countP_singleton, List.countP_singleton, h n e]
      omega
theorem weaks_weaken (c : Chip) (b : Int) : weaks (c.weaken b).1 ≤ weaks c + 1 := by
  unfold Chip.weaken
  split
  · show weaks c ≤ _; omega
  · refine countP_one (j := b.toNat) fun i hi => ?_
    show ((c.set b.toNat _).b i).weak = _
    rw [Chip.set_far c _ hi]
theorem Good.weaken {k j : Nat} {c : Chip} {s : SM} (h : Good k j c s) (hj : j ≤ 5) (b : Int) : Good (k + 1) (j + 1) (c.weaken b).1 s := by
  have hl := weaken_l c b
  have hw := weaks_weaken c b
  have hwk := h.weak
  have hi := h.inv
  have hfd : (c.weaken b).1.fuse = c.fuse ∧ (c.weaken b).1.down = c.down := by unfold Chip.weaken; split <;> exact ⟨rfl, rfl⟩
  obtain ⟨es, hlog⟩ := hi.body.log
  refine ⟨⟨hi.wf.weaken_ b, by rw [hfd.2]; exact hi.up, hi.head.same (hl 0).1 (hl 1).1, ⟨hi.body.fault, tabsAt_keep hi.body.tabs fun x _ => (hl _).1, ⟨es, ?_, hlog.mem, ?_, hlog.ok⟩, by omega, hi.body.nwl, hi.body.odl, hi.body.old, hi.body.rows, hi.body.trows⟩⟩, by rw [hfd.1]; exact h.calm, h.nw, by have := h.ep; omega, by omega, fun i h2 => ?_⟩
  · rw [(hl _).1]; exact hlog.read
  · rw [(hl _).1]; exact hlog.few
  · rw [(hl i).2.2]; have := h.wear i h2; omega
theorem Good.mono {k j k' j' : Nat} {c : Chip} {s : SM} (h : Good k j c s) (hk : k ≤ k') (hj : j ≤ j') : Good k' j' c s :=
  ⟨h.inv, h.calm, h.nw, by have := h.ep; omega, by have := h.weak; omega, fun i hi => by have := h.wear i hi; omega⟩
theorem weaks_grew {c c' : Chip} {K : Int} (h : Grew c c' K) : weaks c' = weaks c := by
  unfold weaks
  congr 1
  funext i
  rw [h.weak]
theorem Good.step {k j : Nat} {c c' : Chip} {s s' : SM} {K : Int} (h : Good k j c s) (hk : k ≤ 1000) (hi : Inv c' s') (hf : c'.fuse < 0) (hn : s'.m.nw.length ≤ 2) (he : s'.m.ep ≤ s.m.ep + 12) (hg : Grew c c' K) (hK : K ≤ 12) : Good (k + 1) j c' s' := by
  refine ⟨hi, hf, hn, by have := h.ep; omega, by rw [weaks_grew hg]; exact h.weak, fun i h2 => ?_⟩
  have := (hg.mono hK).wear (1 + 12 * (k : Int)) (by omega) (by omega) h.wear i h2
  omega
/-- What is wrong with a batch of changes to rows. -/
def checkR (r : List Ent) (l : List Ent) : Nat :=
  if l.length = 0 ∨ 4 < l.length then 2
  else if bytesF l ≠ 0 then bytesF l
  else if 40 < (liveE (l.foldl putE r)).length then 8 else 0
theorem checkM_eq (s : SM) (l : List Ent) : checkM s l = checkR s.rows l := rfl
def rowsW (r : List Ent) (l : List Ent) : List Ent := if checkR r l = 0 then liveE (l.foldl putE r) else r
def kWrite : List UInt8 := [119, 114, 105, 116, 101]
def kFlush : List UInt8 := [102, 108, 117, 115, 104]
def kCompact : List UInt8 := [99, 111, 109, 112, 97, 99, 116]
def kWeaken : List UInt8 := [119, 101, 97, 107, 101, 110]
/-- An act to a store. -/
def doM (c : Chip) (s : SM) (a : Act) : Chip × SM × Nat :=
  if a.kind.toList = kWrite then writeM c s a.l
  else if a.kind.toList = kFlush then flushM c s
  else if a.kind.toList = kCompact then compM c s
  else if a.kind.toList = kWeaken then ((c.weaken a.a).1, s, 0) else (c, s, 0)
def rowsA (r : List Ent) (a : Act) : List Ent := if a.kind.toList = kWrite then rowsW r a.l else r
def weakA (a : Act) : Nat := if a.kind.toList = kWeaken then 1 else 0
theorem write_good {k j : Nat} {c : Chip} {s : SM} (h : Good k j c s) (hk : k ≤ 1000) (l : List Ent) :
    ∃ c' s', writeM c s l = (c', s', checkR s.rows l) ∧ Good (k + 1) j c' s' ∧ s'.rows = rowsW s.rows l := by
  by_cases hc : checkM s l = 0
  · obtain ⟨c', s', n, e, f, g⟩ := write_store h.inv (by have := h.ep; omega) hc
    obtain ⟨hn, hf⟩ := f h.calm
    subst hn
    rcases g with ⟨_, hi, hr, he1, he2, hg, hn⟩ | ⟨h9, _⟩
    · refine ⟨c', s', by rw [e, ← checkM_eq, hc], h.step hk hi hf (hn h.nw) (by omega) hg (by omega), ?_⟩
      rw [hr, rowsW, if_pos (by rw [← checkM_eq]; exact hc)]
    · omega
  · exact ⟨c, s, by rw [writeM, if_pos hc, checkM_eq], h.mono (by omega) (Nat.le_refl _), by rw [rowsW, if_neg (by rw [← checkM_eq]; exact hc)]⟩
theorem flush_good {k j : Nat} {c : Chip} {s : SM} (h : Good k j c s) (hk : k ≤ 1000) :
    ∃ c' s', flushM c s = (c', s', 0) ∧ Good (k + 1) j c' s' ∧ s'.rows = s.rows ∧ s'.mem = [] ∧ (∃ q : Nat, s'.m.log = q ∧ (c'.b q).l = [] ∧ (c'.b q).weak = false ∧ (c.b q).bad = false) ∧ (∀ b ∈ s'.m.nw, b ∈ s.m.nw ∨ (c.b b.toNat).bad = false) := by
  obtain ⟨c', s', n, e, f, g⟩ := flush_calm h.inv (by have := h.ep; omega)
  obtain ⟨hn, hf⟩ := f h.calm
  subst hn
  rcases g with ⟨_, hi, hr, he1, he2, hg, hm, hn, hq, hb⟩ | ⟨h9, _⟩
  · exact ⟨c', s', e, h.step hk hi hf hn (by omega) hg (by omega), hr, hm, hq, hb⟩
  · omega
theorem comp_good {k j : Nat} {c : Chip} {s : SM} (h : Good k j c s) (hk : k ≤ 1000) :
    ∃ c' s', compM c s = (c', s', 0) ∧ Good (k + 1) j c' s' ∧ s'.rows = s.rows ∧ s'.mem = s.mem ∧ s'.m.nw = [] ∧ s'.m.log = s.m.log ∧ s'.tabs = parts 14 (liveE (mergeAll s.tabs)) := by
  obtain ⟨c', s', n, e, f, g⟩ := comp_calm h.inv (by have := h.ep; omega)
  obtain ⟨hn, hf⟩ := f h.calm
  subst hn
  rcases g with ⟨_, hi, hr, he, hg, hm, hn, hlg, _, ht⟩ | ⟨h9, _⟩
  · exact ⟨c', s', e, h.step hk hi hf (by rw [hn]; simp) (by omega) hg (by omega), hr, hm, hn, hlg, ht⟩
  · omega
theorem do_good {k j : Nat} {c : Chip} {s : SM} (h : Good k j c s) (hk : k ≤ 1000) (a : Act) (hj : j + weakA a ≤ 6) :
    ∃ c' s' n, doM c s a = (c', s', n) ∧ Good (k + 1) (j + weakA a) c' s' ∧ s'.rows = rowsA s.rows a ∧ n = (if a.kind.toList = kWrite then checkR s.rows a.l else 0) := by
  unfold doM rowsA
  by_cases h1 : a.kind.toList = kWrite
  · have hw : weakA a = 0 := by unfold weakA; rw [h1]; rfl
    rw [if_pos h1, if_pos h1, if_pos h1, hw]
    obtain ⟨c', s', e, g, r⟩ := write_good h hk a.l
    exact ⟨c', s', _, e, g, r, rfl⟩
  rw [if_neg h1, if_neg h1, if_neg h1]
  by_cases h2 : a.kind.toList = kFlush
  · have hw : weakA a = 0 := by unfold weakA; rw [h2]; rfl
    rw [if_pos h2, hw]
    obtain ⟨c', s', e, g, r, _⟩ := flush_good h hk
    exact ⟨c', s', _, e, g, r, rfl⟩
  rw [if_neg h2]
  by_cases h3 : a.kind.toList = kCompact
  · have hw : weakA a = 0 := by unfold weakA; rw [h3]; rfl
    rw [if_pos h3, hw]
    obtain ⟨c', s', e, g, r, _⟩ := comp_good h hk
    exact ⟨c', s', _, e, g, r, rfl⟩
  rw [if_neg h3]
  by_cases h4 : a.kind.toList = kWeaken
  · have hw : weakA a = 1 := by unfold weakA; rw [if_pos h4]
    rw [if_pos h4, hw]
    exact ⟨_, _, _, rfl, h.weaken (by omega) a.a, rfl, rfl⟩
  · have hw : weakA a = 0 := by unfold weakA; rw [if_neg h4]
    rw [if_neg h4, hw]
    exact ⟨_, _, _, rfl, h.mono (by omega) (Nat.le_refl _), rfl, rfl⟩
def weakN (l : List Act) : Nat := (l.map weakA).sum
def lightA (most : Int) (l : List Act) : Bool := decide ((l.length : Int) ≤ most) && l.all (fun a => decide (a.s.size ≤ 100) && lightE 6 a.l)
end Go.Proofs.Ytaepdbkfaoiimaa
/- The contracts of store.Format on a new chip, and of the law's Stored. Conditions: none. -/
set_option linter.unusedVariables false
set_option linter.unusedSimpArgs false
namespace Go.Proofs.Ytaepdbkfaoiimaa
open Go.RowKit
attribute [local go_sem ↓] eql_err eql_nilerr neq_err neq_nilerr guard_err guard_nilerr guardn_err guardn_nilerr
set_option maxRecDepth 20000 in
set_option maxHeartbeats 4000000 in
/-- A new chip is formatted. -/
theorem format_any (B p : Nat) (w : World) (h : ChipR B w p Chip.new) :
    Calls Try.prog 101 #[.pointer (some ⟨p, 0, none⟩)] w fun e w' => ∃ c b, e = .returned .nilIface ∧ ChipR B w' p c ∧ Good 0 0 c ⟨manL 1 b, 0, [], []⟩ ∧ Fr B (· = p) w w' := by
  obtain ⟨c1, c2, c3, c4, b, e1, e2, d2, e3, e4, hgood⟩ := format_good
  have HG := Lib.hid hgood
  have H1 : Hid (Calls Try.prog 47 #[.pointer (some ⟨p, 0, none⟩), .int .i64 0] w fun e w' => e = .returned .nilIface ∧ ChipR B w' p c1 ∧ Fr B (· = p) w w') := by
    have := cerase_any B p Chip.new 0 w h
    rw [e1] at this
    exact this
  have H2 : Hid (∀ W, ChipR B W p c1 → Calls Try.prog 47 #[.pointer (some ⟨p, 0, none⟩), .int .i64 1] W fun e w' => e = .returned .nilIface ∧ ChipR B w' p c2 ∧ Fr B (· = p) W w') := fun W hW => by
    have := cerase_any B p c1 1 W hW
    rw [e2] at this
    exact this
  have H3 : Hid (∀ W, ChipR B W p c2 → Calls Try.prog 125 #[.pointer (some ⟨p, 0, none⟩), .slice none 0 0] W fun e w' => e = .returned (.tuple #[.int .i64 b, .nilIface]) ∧ ChipR B w' p c3 ∧ Fr B (· = p) W w') := fun W hW => by
    have := blank_any B p c2 (.slice none 0 0) [] W hW (Rd.nil _ _ _ _) d2
    rw [e3] at this
    exact this
  have H4 : Hid (∀ W, ChipR B W p c3 → Calls Try.prog 67 #[.pointer (some ⟨p, 0, none⟩), .int .i64 0, .agg #[.int .i64 1, .int .i64 b, .slice none 0 0, .slice none 0 0]] W fun e w' => e = .returned (.tuple #[.int .i64 0, .nilIface]) ∧ ChipR B w' p c4 ∧ Fr B (· = p) W w') := fun W hW => by
    have := note_any B p c3 0 _ (manL 1 b) W hW (.inl rfl) ⟨_, _, rfl, Rd.nil _ _ _ _, Rd.nil _ _ _ _⟩ (by simp [manL]) (by simp [manL])
    rw [e4] at this
    exact this
  clear e1 e2 d2 e3 e4 hgood h
  go_enter Try.func101, Try.ntmps101
  go_wp2_with fail
  refine wp_loop_rounds 3 ?_
  rw [rounds_succ]
  go_wp2_with (go_at_call 47; refine H1.out.mono ?_; rintro e w1 ⟨rfl, hc1, hf1⟩)
  have HF1 := Lib.hid hf1
  have H2' := Lib.hid (H2.out w1 hc1)
  clear hf1 hc1 H1 H2
  rw [rounds_succ]
  go_wp2_with (go_at_call 47; refine H2'.out.mono ?_; rintro e w2 ⟨rfl, hc2, hf2⟩)
  have HF2 := Lib.hid (HF1.out.trans hf2 (fun _ _ => trivial))
  have H3' := Lib.hid (H3.out w2 hc2)
  clear hf2 hc2 H2' H3
  rw [rounds_succ]
  go_wp2_with (go_at_call 125; refine H3'.out.mono ?_; rintro e w3 ⟨rfl, hc3, hf3⟩)
  have HF3 := Lib.hid (HF2.out.trans hf3 (fun _ _ => trivial))
  have H4' := Lib.hid (H4.out w3 hc3)
  clear hf3 hc3 H3' H4
  go_wp2_with (go_at_call 67; refine H4'.out.mono ?_; rintro e w4 ⟨rfl, hc4, hf4⟩)
  have HF4 := Lib.hid (HF3.out.trans hf4 (fun _ _ => trivial))
  have HC4 := Lib.hid hc4
  clear hf4 hc4 H4'
  go_ret
  exact ⟨c4, b, rfl, HC4.out, HG.out, HF4.out⟩
theorem rows_none : rowsOf [] [] = [] := List.eq_nil_of_length_eq_zero (by decide +kernel)
/-- A store that has done so many acts lies in these blocks. -/
structure StS (B : Nat) (W : World) (q p k j : Nat) (c : Chip) (s : SM) (F : List Nat) : Prop where
  st : StoreR B W q p s F
  ch : ChipR B W p c
  ok : Good k j c s
set_option maxRecDepth 20000 in
set_option maxHeartbeats 4000000 in
theorem stored_any (w : World) :
    Calls Try.prog 68 #[] w fun e w' => ∃ p q c s F, e = .returned (.tuple #[.pointer (some ⟨p, 0, none⟩), .pointer (some ⟨q, 0, none⟩), .bool true]) ∧ StS w.heap.size w' q p 0 0 c s F ∧ s.rows = [] ∧ w.heap.size ≤ p ∧ (∀ b ∈ F, w.heap.size ≤ b) ∧ Below w.heap.size w w' := by
  have HNEW := Lib.hid (cnew_any w.heap.size w (Nat.le_refl _))
  go_enter Try.func68, Try.ntmps68
  go_wp2_with (go_at_call 43; refine HNEW.out.mono ?_; rintro e w1 ⟨p, rfl, hp, hr1, hb1⟩)
  have HB1 := Lib.hid hb1
  have HFO := Lib.hid (format_any w.heap.size p w1 hr1)
  clear hr1 hb1 HNEW
  go_wp2_with (go_at_call 101; refine HFO.out.mono ?_; rintro e w2 ⟨c, b, rfl, hc2, hg, hf2⟩)
  have HB2 : Hid (Below w.heap.size w w2) := HB1.out.trans (hf2.below HB1.out.size)
  have HC2 := Lib.hid hc2
  have HG := Lib.hid hg
  have HOP := Lib.hid (open_any w.heap.size p c _ w2 hc2 hg.inv)
  clear hc2 hf2 HFO HB1 hg
  go_wp2_with (go_at_call 102; refine HOP.out.mono ?_; rintro e w3 ⟨q, F, rfl, hs3, hb3, hq3, hF3⟩)
  have HFI : Hid (StS w.heap.size w3 q p 0 0 c ⟨manL 1 b, 0, [], []⟩ F ∧ (∀ b ∈ F, w.heap.size ≤ b) ∧ Below w.heap.size w w3) := ⟨⟨hs3, HC2.out.below hb3, HG.out⟩, fun b hb => Nat.le_trans HB2.out.size (hF3 b hb), HB2.out.trans (hb3.mono HB2.out.size)⟩
  clear hs3 hb3 hF3 HOP
  exact bodyPost_ret (v := .tuple #[.pointer (some ⟨p, 0, none⟩), .pointer (some ⟨q, 0, none⟩), .bool true]) (by simp [results, Try.results68, go_sem] <;> rfl) rfl ⟨p, q, c, _, F, rfl, HFI.out.1, rows_none, hp, HFI.out.2⟩
end Go.Proofs.Ytaepdbkfaoiimaa
