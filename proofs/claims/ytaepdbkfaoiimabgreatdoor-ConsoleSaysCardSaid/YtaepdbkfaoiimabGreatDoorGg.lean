/- Several texts of this proof, one behind the other: walks and plain laws that the statement rests on. Conditions: none but those that each lemma names. -/
import Derived.RangeFuncNested
import Derived.RangeFuncBound
import Derived.RangeFuncCalls
import Derived.RangeFuncLeaves
import Derived.Shelf.Abstract
import Derived.Shelf.RegionOpen
import Derived.WalkKit
import Derived.OwnWalkIn
import Derived.TacticsInMore
import Derived.LoopNIn
import Derived.LoopIn
import Derived.Test.YtaepdbkfaoiimabGreatDoorGa
import Derived.Test.YtaepdbkfaoiimabGreatDoorGf
import Derived.StillTailTactics
/- slices.Chunk of entries: its closure's contract, for every body of a loop. Conditions: the step is above nought. -/
set_option linter.unusedVariables false
set_option linter.unusedSimpArgs false
namespace Go.Proofs.YtaepdbkfaoiimabGreatDoor
open Go.RowKit Go.Shelf
attribute [local go_sem] Oper.semAt_some

/-- A chunk's number. -/
abbrev Ck (nn len : Nat) := { k : Nat // nn * k < len }
def ckUpto (nn len k : Nat) : List (Ck nn len) := (List.range k).filterMap fun j => if h : nn * j < len then some ⟨j, h⟩ else none
theorem ckUpto_succ {nn len k : Nat} (h : nn * k < len) : ckUpto nn len (k + 1) = ckUpto nn len k ++ [⟨k, h⟩] := by
  simp [ckUpto, List.range_succ, h]
theorem ckUpto_le (nn len k : Nat) : (ckUpto nn len k).length ≤ k := by
  have := List.length_filterMap_le (fun j => if h : nn * j < len then some (⟨j, h⟩ : Ck nn len) else none) (List.range k)
  simpa [ckUpto] using this
def ckVal (nn len g o : Nat) (k : Ck nn len) : Array Value := #[.slice (some ⟨g, o + nn * k.1 * 3, none⟩) (min nn (len - nn * k.1)) (min nn (len - nn * k.1))]
def KpC (Bs Bn : Nat) (W W' : World) : Prop := W'.heap[Bs]? = W.heap[Bs]? ∧ W'.heap[Bn]? = W.heap[Bn]?
theorem blk_of_heap {w w' : World} {b T : Nat} {cs : Array Value} (h : Blk w b T cs) (e : w'.heap[b]? = w.heap[b]?) : Blk w' b T cs := e.trans h

set_option maxRecDepth 100000 in
set_option maxHeartbeats 2000000 in
theorem chunk1_in (n : Nat) (hn : 1 ≤ n) (l Bs Bn g o len cap nn : Nat) (A : Option Addr) (hA : 0 < len → A = some ⟨g, o, none⟩) (hn0 : 0 < nn) (hn1 : nn ≤ 1000000) (hl1 : len ≤ 1000000) (hcap : len ≤ cap) (hcap2 : cap ≤ 9223372036854775807) (J Jx : List (Ck nn len) → World → Prop)
    (hY : ∀ pre x W, J pre W → pre.length < len → YieldAt Fence.wide (n - 1) Tryz.prog l (ckVal nn len g o x) W fun e W' =>
      (e = .returned (.bool true) ∧ J (pre ++ [x]) W' ∧ KpC Bs Bn W W') ∨ (e = .returned (.bool false) ∧ Jx (pre ++ [x]) W'))
    (hJd : ∀ pre W k, J pre W → J pre (W.drewN k))
    (W : World) (hBs : Blk W Bs 31 #[.slice A len cap]) (hBn : Blk W Bn 3 #[.int .i64 nn]) (h0 : J [] W) :
    CallsIn Fence.wide n Tryz.prog 162 #[.func (.yield l) #[] #[], .pointer (some ⟨Bs, 0, none⟩), .pointer (some ⟨Bn, 0, none⟩)] W fun e W' => (∃ v, e = .returned v) ∧
      ((∃ ys, (∃ k, len ≤ nn * k ∧ ys = ckUpto nn len k) ∧ J ys W') ∨ (∃ pre, (∃ k, pre = ckUpto nn len k) ∧ Jx pre W')) := by
  refine callsIn_of_wp Tryz.func162 rfl trivial ?_ rfl
  simp only [Tryz.ntmps162, List.size_toArray, List.length_cons, List.length_nil, Nat.reduceAdd, Nat.reduceSub, Array.replicate_succ, Array.replicate_zero, List.push_toArray, List.append_toArray, List.nil_append, List.cons_append]
  gi_wp2
  gi_loopw [4] (fun i wr => ∃ k m : Nat, nn * k = m ∧ i = .int .i64 (m : Int) ∧ (0 < k → nn * (k - 1) < len) ∧ J (ckUpto nn len k) wr ∧ Blk wr Bs 31 #[.slice A len cap] ∧ Blk wr Bn 3 #[.int .i64 nn])
    (fun i _ => len + nn - (intOf i).toNat)
  case atStart => exact ⟨0, 0, by simp, rfl, by omega, h0, hBs, hBn⟩
  case round =>
    obtain ⟨k, m, hkm, rfl, hk, hJs, hbs, hbn⟩ := hrel
    have q0 := hbs.cell 0
    have q1 := hbn.cell 0
    simp at q0 q1
    by_cases hlt : m < len
    · obtain rfl := hA (by omega)
      have t1 : decide ((m : Int) < ((len : Nat) : Int)) = true := decide_eq_true (by omega)
      have s0 : (0 : Int) ≤ (m : Int) := by omega
      have s1 : (m : Int) ≤ (len : Int) := by omega
      have s2 : (len : Int) ≤ (cap : Int) := by omega
      gi_wp2
      refine wpIn_wide.2 ?_
      go_quiet (fail)
      have hJ2 := hJd _ _ nq hJs
      obtain ⟨e, hee⟩ : ∃ e : Nat, min nn (len - m) = e := ⟨_, rfl⟩
      have he1 : 1 ≤ e := by omega
      have he2 : e ≤ len - m := by omega
      rw [show min (nn : Int) ((len - m : Nat) : Int) = (e : Int) from by omega]
      have r1 : (m : Int) ≤ (m : Int) + (e : Int) := by omega
      have r2 : (m : Int) + (e : Int) ≤ (cap : Int) := by omega
      have r0 : (0 : Int) ≤ (m : Int) + (e : Int) := by omega
      have r3 : ((m : Int) + (e : Int)).toNat = m + e := by omega
      have r4 : m + e - m = e := by omega
      have q0' : (wr.drewN nq).cell? ⟨Bs, 0, none⟩ = some (.slice (some ⟨g, o, none⟩) len cap) := q0
      have q1' : (wr.drewN nq).cell? ⟨Bn, 0, none⟩ = some (.int .i64 nn) := q1
      have hmk : nn * k < len := by omega
      have hln : (ckUpto nn len k).length < len := by
        have h1 := ckUpto_le nn len k
        have h2 : k ≤ nn * k := Nat.le_mul_of_pos_left k hn0
        omega
      obtain ⟨fn, tmps, assign, body, hy, hR⟩ := hY _ ⟨k, hmk⟩ _ hJ2 hln
      have hval : ckVal nn len g o ⟨k, hmk⟩ = #[.slice (some ⟨g, o + m * 3, none⟩) e e] := by
        unfold ckVal
        simp only [hkm, hee]
      rw [hval] at hy
      gi_wp2
      refine hR.mono ?_
      rintro e2 W3 (⟨rfl, hJ3, hk3⟩ | ⟨rfl, hJx3⟩)
      · have hbs3 := blk_of_heap (w := wr.drewN nq) (w' := W3) hbs hk3.1
        have hbn3 := blk_of_heap (w := wr.drewN nq) (w' := W3) hbn hk3.2
        have q2 := hbn3.cell 0
        simp at q2
        gi_wp2
        go_roundw
        case rel => exact ⟨k + 1, m + nn, by rw [Nat.mul_add, hkm, Nat.mul_one], by go_num, fun _ => hmk, by rw [ckUpto_succ hmk]; exact hJ3, hbs3, hbn3⟩
        case measure => simp [intOf] <;> omega
      · gi_wp2
        refine bodyPost_ret (results_none rfl _ _ _) rfl ?_
        exact ⟨⟨_, rfl⟩, .inr ⟨_, ⟨k + 1, rfl⟩, by rw [ckUpto_succ hmk]; exact hJx3⟩⟩
    · have t1 : decide ((m : Int) < ((len : Nat) : Int)) = false := decide_eq_false (by omega)
      gi_wp2
      go_end0
      exact ⟨⟨_, rfl⟩, .inl ⟨_, ⟨k, by omega, rfl⟩, hJs⟩⟩
theorem chunk_stops (n : Nat) (hn : 1 ≤ n) (Bs Bn g o len cap nn : Nat) (A : Option Addr) (hA : 0 < len → A = some ⟨g, o, none⟩) (hn0 : 0 < nn) (hn1 : nn ≤ 1000000) (hl1 : len ≤ 1000000) (hcap : len ≤ cap) (hcap2 : cap ≤ 9223372036854775807)
    (w : World) (hBs : Blk w Bs 31 #[.slice A len cap]) (hBn : Blk w Bn 3 #[.int .i64 nn]) :
    SeqStopsK Fence.wide n Tryz.prog 162 #[.pointer (some ⟨Bs, 0, none⟩), .pointer (some ⟨Bn, 0, none⟩)] (ckVal nn len g o) (KpC Bs Bn)
      (fun ys => ∃ k, len ≤ nn * k ∧ ys = ckUpto nn len k) (fun pre => ∃ k, pre = ckUpto nn len k) len w := fun l J Jx W hW hJ hJx hY h0 =>
  chunk1_in n hn l Bs Bn g o len cap nn A hA hn0 hn1 hl1 hcap hcap2 J Jx hY (fun pre W k h => hJ pre W (W.drewN k) none h ⟨rfl, rfl, rfl, Nat.le_refl _, fun _ _ _ => rfl⟩ (fun r e => by cases e)) W (hBs.below hW hBs.lt) (hBn.below hW hBn.lt) h0
theorem chunk_any (A : Option Addr) (len cap : Nat) (nn : Nat) (hn0 : 0 < nn) (w : World) :
    Calls Tryz.prog 136 #[.slice A len cap, .int .i64 nn] w fun e w' => e = .returned (.func (.func 162) #[] #[.pointer (some ⟨w.heap.size, 0, none⟩), .pointer (some ⟨w.heap.size + 1, 0, none⟩)]) ∧
      w' = (w.alloc (.cells #[.slice A len cap] 31)).alloc (.cells #[.int .i64 nn] 3) := by
  have t1 : decide ((nn : Int) < 1) = false := decide_eq_false (by omega)
  go_enter Tryz.func136, Tryz.ntmps136
  go_wp2_with fail
  go_ret
  exact ⟨rfl, rfl⟩
/-- What a chunk has. -/
def ckList (nn : Nat) (l : List Ent) (k : Nat) : List Ent := (l.drop (nn * k)).take nn
end Go.Proofs.YtaepdbkfaoiimabGreatDoor
/- The contract of table.Write. Conditions: the entries are those of a table. -/
set_option linter.unusedVariables false
set_option linter.unusedSimpArgs false
namespace Go.Proofs.YtaepdbkfaoiimabGreatDoor
open Go.RowKit Go.Shelf
attribute [local go_sem] Oper.semAt_some
attribute [local go_sem ↓] eql_err eql_nilerr neq_err neq_nilerr guard_err guard_nilerr guardn_err guardn_nilerr

/-- One page more is written, unless there was an error. -/
def pStepW (b : Int) (st : Chip × Nat) (d : ByteArray) : Chip × Nat := if st.2 = 0 then st.1.write b d else st
def tabWrite (c : Chip) (b : Int) (l : List Ent) : Chip × Nat := (rawPages l).foldl (pStepW b) (c.erase b)
theorem fr_grown {B : Nat} {w w' : World} {row : Option Nat} (h : w.grownBy w' row) (hr : ∀ r, row = some r → B ≤ r ∧ ∃ o : Obj, w.heap[r]? = some o ∧ o.isCells = false) : Fr B (fun k => row = some k) w w' := by
  refine ⟨h.os, h.tape, h.output, h.size, fun k hk hc => h.block k hk fun e => ?_⟩
  obtain ⟨h1, o, h2, h3⟩ := hr k e.symm
  rcases hc with hc | hc | ⟨cs, T, fz, hh, _⟩
  · omega
  · exact hc e.symm
  · rw [hh] at h2
    cases h2
    cases h3
theorem keeps_fr {B p : Nat} {w w' : World} (h : Fr B (· = p) w w') (hp : ∃ cs T fz, w.heap[p]? = some (.cells cs T fz)) : KeepsOthers w w' :=
  ⟨h.size, fun k o hk ho => (h.block k (heap_lt hk) (.inr (.inl fun e => by
    obtain ⟨cs, T, fz, hp⟩ := hp
    rw [e, hp] at hk
    cases hk
    cases ho))).trans hk⟩
theorem blk_grown {B g T : Nat} {cs : Array Value} {w w' : World} {row : Option Nat} (hb : Blk w g T cs) (h : w.grownBy w' row) (hr : ∀ r, row = some r → B ≤ r ∧ ∃ o : Obj, w.heap[r]? = some o ∧ o.isCells = false) : Blk w' g T cs :=
  (h.block g hb.lt fun e => by
    obtain ⟨h1, o, h2, h3⟩ := hr g e.symm
    rw [show w.heap[g]? = some (.cells cs T (0, 0)) from hb] at h2
    cases h2
    cases h3).trans hb
theorem ents_chunk {B : Nat} {w : World} {g o cap nn k : Nat} {l : List Ent} (h : Ents B w (.slice (some ⟨g, o, none⟩) l.length cap) l) :
    Ents B w (.slice (some ⟨g, o + nn * k * 3, none⟩) (min nn (l.length - nn * k)) (min nn (l.length - nn * k))) (ckList nn l k) := by
  have hlen : (ckList nn l k).length = min nn (l.length - nn * k) := by simp [ckList]
  refine ⟨⟨?_, _, _, by rw [hlen], Nat.le_refl _, ?_, fun hp => ?_⟩, fun e he => h.2 e (List.mem_of_mem_drop (List.mem_of_mem_take he))⟩
  · rw [flat3_len]
  · have := h.1.len
    omega
  · obtain ⟨b', o', e, hk, hb, hc⟩ := rd_at' h.1 (by omega)
    injection e with e
    injection e with eb eo
    subst eb; subst eo
    refine ⟨_, _, rfl, hk, hb, fun j u hu => ?_⟩
    have hfm : ∀ (m : Nat) (l : List Ent), (l.drop m).flatMap Ent.cells = (l.flatMap Ent.cells).drop (m * 3) := by
      intro m
      induction m with
      | zero => intro l; simp
      | succ m ih =>
        intro l
        cases l with
        | nil => simp
        | cons a l => rw [List.drop_succ_cons, ih, List.flatMap_cons, Nat.succ_mul, Nat.add_comm (m * 3) 3, ← List.drop_drop]; rfl
    have hft : ∀ (m : Nat) (l : List Ent), (l.take m).flatMap Ent.cells = (l.flatMap Ent.cells).take (m * 3) := by
      intro m
      induction m with
      | zero => intro l; simp
      | succ m ih =>
        intro l
        cases l with
        | nil => simp
        | cons a l =>
          rw [List.take_succ_cons, List.flatMap_cons, ih, List.flatMap_cons, Nat.succ_mul, Nat.add_comm (m * 3) 3, List.take_append, show (Ent.cells a).length = 3 from rfl, List.take_of_length_le (l := Ent.cells a) (show 3 ≤ 3 + m * 3 by omega), show 3 + m * 3 - 3 = m * 3 from by omega]
    rw [ckList, hft, hfm, List.getElem?_take] at hu
    split at hu
    · rw [List.getElem?_drop] at hu
      rw [Nat.add_assoc]
      exact hc _ u hu
    · cases hu
theorem bytes_chunk {l q : List Ent} (hl : tabF l = 0) (hq : ∀ e ∈ q, e ∈ l) (h2 : q.length ≤ 2) : bytesS q = bytesL q.length q ∧ bytesF q = 0 := by
  have hall := chkT_all (tabF_parts hl).2.2
  have hq0 : ∀ e ∈ q, faultE e = 0 := fun e he => hall e (hq e he)
  have hff := ff_zero.2 hq0
  have hsz := bytesL_size q.length q hq0
  have hF : bytesF q = 0 := by rw [bytesF, if_pos hff, if_neg (by omega)]
  exact ⟨by rw [bytesS, hF]; rfl, hF⟩

/-- A store into a variable of an error leaves a chip as it is. -/
theorem chipR_far {B p x : Nat} {c : Chip} {W : World} {cs : Array Value} (h : ChipR B W p c) (hx : Blk W x 25 cs) (hB : B ≤ x) (y : Value) : ChipR B (W.setCell ⟨x, 0, none⟩ y) p c := by
  have far : ∀ {k T : Nat} {cs : Array Value}, Blk W k T cs → T ≠ 25 → Blk (W.setCell ⟨x, 0, none⟩ y) k T cs := fun {k T cs} hb hT => hb.far (fun e => by
    have e : k = x := e
    subst e
    have := hx
    rw [Blk, show W.heap[k]? = some (.cells _ T (0, 0)) from hb] at this
    cases this
    exact hT rfl) _
  obtain ⟨V, u, hv, hu, hw⟩ := h
  refine ⟨V, u, ⟨far hv.blk (by decide), fun b hb => (hv.rows b hb).far hx hB (by decide) _, hv.base⟩, ?_, hw⟩
  generalize c.pend = o at hu ⊢
  match o, hu with
  | none, hu => exact hu
  | some (.wr b d), ⟨qh, qd, bx, bn, bd, h1, h2, h3, h4, h5, h6⟩ => exact ⟨qh, qd, bx, bn, bd, h1, far h2 (by decide), far h3 (by decide), far h4 (by decide), far h5 (by decide), far h6 (by decide)⟩
  | some (.er b), ⟨qh, qd, bx, h1, h2, h3, h4⟩ => exact ⟨qh, qd, bx, h1, far h2 (by decide), far h3 (by decide), far h4 (by decide)⟩
/-- Within table.Write: what lies where. -/
structure TwS (B p : Nat) (b : Int) (v : Value) (l : List Ent) (w : World) (x7 : Nat) (n : Nat) (c : Chip) (W : World) : Prop where
  b3 : Blk W w.heap.size 40 #[.pointer (some ⟨p, 0, none⟩)]
  b4 : Blk W (w.heap.size + 1) 3 #[.int .i64 b]
  b6 : Blk W (w.heap.size + 1 + 1) 25 #[.nilIface]
  b7 : Blk W x7 25 #[errV n]
  lt : w.heap.size + 1 + 1 < x7
  rep : ChipR B W p c
  ents : Ents B W v l
  fr : Fr B (· = p) w W
  hp : p < w.heap.size
  hB : B ≤ w.heap.size
section
variable {B p : Nat} {b : Int} {v : Value} {l : List Ent} {w : World} {x7 : Nat} {n : Nat} {c : Chip} {W W' : World}
theorem TwS.keep (h : TwS B p b v l w x7 n c W) {M : Nat → Prop} (hf : Fr B M W W') (hM : ∀ k, M k → w.heap.size ≤ k ∧ (W.heap.size ≤ k ∨ ∃ o : Obj, W.heap[k]? = some o ∧ o.isCells = false)) : TwS B p b v l w x7 n c W' := by
  have hnc : ∀ {k T : Nat} {cs : Array Value}, Blk W k T cs → ¬ M k := fun {k T cs} hb hm => by
    rcases (hM k hm).2 with h1 | ⟨o, h1, h2⟩
    · have := hb.lt; omega
    · rw [show W.heap[k]? = some (.cells cs T (0, 0)) from hb] at h1
      cases h1
      cases h2
  have hpM : ¬ M p := by obtain ⟨V, u, hv, _⟩ := h.rep; exact hnc hv.blk
  exact ⟨h.b3.fr hf (.inr (.inl (hnc h.b3))), h.b4.fr hf (.inr (.inl (hnc h.b4))), h.b6.fr hf (.inr (.inl (hnc h.b6))), h.b7.fr hf (.inr (.inl (hnc h.b7))), h.lt, h.rep.keep hf hpM, h.ents.fr hf,
    h.fr.trans' hf (fun k hk hm => by have := (hM k hm).1; omega), h.hp, h.hB⟩
theorem TwS.below (h : TwS B p b v l w x7 n c W) (hb : Below W.heap.size W W') : TwS B p b v l w x7 n c W' :=
  h.keep (M := fun _ => False) (.of_below hb) (fun k hk => hk.elim)
theorem TwS.drewN (h : TwS B p b v l w x7 n c W) (k : Nat) : TwS B p b v l w x7 n c (W.drewN k) := h.below (below_drewN (Below.refl _ _) k)
theorem TwS.alloc (h : TwS B p b v l w x7 n c W) (o : Obj) : TwS B p b v l w x7 n c (W.alloc o) := h.below ((Below.refl _ _).alloc (Nat.le_refl _) _)
theorem TwS.grown {row : Option Nat} {B0 : Nat} (h : TwS B p b v l w x7 n c W) (hg : W.grownBy W' row) (hr : ∀ r, row = some r → B0 ≤ r ∧ ∃ o : Obj, W.heap[r]? = some o ∧ o.isCells = false) (hB0 : w.heap.size ≤ B0) : TwS B p b v l w x7 n c W' :=
  h.keep (fr_grown hg (fun r e => ⟨Nat.le_trans (Nat.le_trans h.hB hB0) (hr r e).1, (hr r e).2⟩)) (fun k e => ⟨Nat.le_trans hB0 (hr k e).1, .inr (hr k e).2⟩)
/-- The error is laid down. -/
theorem TwS.store (h : TwS B p b v l w x7 n c W) (n' : Nat) : TwS B p b v l w x7 n' c (W.setCell ⟨x7, 0, none⟩ (errV n')) := by
  have h1 := h.lt
  have h0 := h.hB
  have hfr : Fr B (· = p) w (W.setCell ⟨x7, 0, none⟩ (errV n')) := h.fr.setCell (by show B ≤ x7; omega) (.inr (by show w.heap.size ≤ x7; omega)) (fun e => absurd e (by show ¬ x7 < w.heap.size; omega)) _
  have hne : ∀ k, k < x7 → k ≠ x7 := fun k hk => by omega
  have hch : ChipR B (W.setCell ⟨x7, 0, none⟩ (errV n')) p c := chipR_far h.rep h.b7 (by omega) _
  have hx7 := h.b7.set_ 0 (errV n')
  refine ⟨h.b3.far (fun e => by have e : w.heap.size = x7 := e; omega) _, h.b4.far (fun e => by have e : w.heap.size + 1 = x7 := e; omega) _, h.b6.far (fun e => by have e : w.heap.size + 1 + 1 = x7 := e; omega) _, hx7, h.lt, hch, ⟨h.ents.1.far h.b7 (by omega) (by decide) _, h.ents.2⟩, hfr, h.hp, h.hB⟩
/-- The chip has been written to. -/
theorem TwS.chip (h : TwS B p b v l w x7 n c W) {c' : Chip} (hr : ChipR B W' p c') (hf : Fr B (· = p) W W') : TwS B p b v l w x7 n c' W' := by
  have hne : ∀ {k T : Nat} {cs : Array Value}, Blk W k T cs → mutT T = false → Blk W' k T cs := fun hb hT => hb.fr hf (.inr (.inr hT))
  exact ⟨hne h.b3 (by decide), hne h.b4 (by decide), hne h.b6 (by decide), hne h.b7 (by decide), h.lt, hr, h.ents.fr hf, h.fr.trans' hf (fun k _ hm => hm), h.hp, h.hB⟩
theorem TwS.cells (h : TwS B p b v l w x7 n c W) : W.cell? ⟨w.heap.size, 0, none⟩ = some (.pointer (some ⟨p, 0, none⟩)) ∧ W.cell? ⟨w.heap.size + 1, 0, none⟩ = some (.int .i64 b) ∧ W.cell? ⟨w.heap.size + 1 + 1, 0, none⟩ = some .nilIface ∧ W.cell? ⟨x7, 0, none⟩ = some (errV n) :=
  ⟨by rw [h.b3.cell]; rfl, by rw [h.b4.cell]; rfl, by rw [h.b6.cell]; rfl, by rw [h.b7.cell]; rfl⟩
end
theorem TwS.last {B p : Nat} {b : Int} {v : Value} {l : List Ent} {w : World} {x7 : Nat} {n : Nat} {c : Chip} {W : World} (h : TwS B p b v l w x7 n c W) {D : Nat} {o : Obj} (hD : w.heap.size ≤ D) (hK : W.heap[D]? = some o) (ho : o.isCells = false) (y : Value) (o' : Obj) :
    ChipR B ((W.setCell ⟨w.heap.size + 1 + 1, 0, none⟩ y).putObj D o') p c ∧ Fr B (· = p) w ((W.setCell ⟨w.heap.size + 1 + 1, 0, none⟩ y).putObj D o') ∧ ((W.setCell ⟨w.heap.size + 1 + 1, 0, none⟩ y).putObj D o').cell? ⟨w.heap.size + 1 + 1, 0, none⟩ = some y := by
  have h0 := h.hB
  have h1 := chipR_far h.rep h.b6 (by omega) y
  have h2 : Fr B (· = p) w (W.setCell ⟨w.heap.size + 1 + 1, 0, none⟩ y) := h.fr.setCell (by show B ≤ w.heap.size + 1 + 1; omega) (.inr (by show w.heap.size ≤ w.heap.size + 1 + 1; omega)) (fun e => absurd e (by show ¬ w.heap.size + 1 + 1 < w.heap.size; omega)) _
  have h6 : Blk (W.setCell ⟨w.heap.size + 1 + 1, 0, none⟩ y) (w.heap.size + 1 + 1) 25 #[y] := h.b6.set_ 0 y
  have hne : D ≠ w.heap.size + 1 + 1 := fun e => by
    subst e
    rw [show W.heap[w.heap.size + 1 + 1]? = some (.cells #[.nilIface] 25 (0, 0)) from h.b6] at hK
    cases hK
    cases ho
  have hK2 : (W.setCell ⟨w.heap.size + 1 + 1, 0, none⟩ y).heap[D]? = some o := (Below.heap_setCell _ _ _ _ hne).trans hK
  have hg := grownBy_putObj' (W.setCell ⟨w.heap.size + 1 + 1, 0, none⟩ y) D o'
  have hr : ∀ r, some D = some r → w.heap.size ≤ r ∧ ∃ o : Obj, (W.setCell ⟨w.heap.size + 1 + 1, 0, none⟩ y).heap[r]? = some o ∧ o.isCells = false := fun r e => by cases e; exact ⟨hD, o, hK2, ho⟩
  have hf := fr_grown (B := B) hg (fun r e => ⟨Nat.le_trans h0 (hr r e).1, (hr r e).2⟩)
  have hpD : ¬ some D = some p := fun e => by
    cases e
    have := h.hp
    omega
  refine ⟨h1.keep hf hpD, h2.trans' hf (fun k hk hm => by cases hm; omega), ?_⟩
  rw [(blk_grown h6 hg hr).cell]
  rfl
theorem errV_form (n : Nat) : errV n = .nilIface ∨ ∃ k : Nat, errV n = .iface 39 (.int .i64 k) := by
  unfold errV
  split
  · exact .inl rfl
  · exact .inr ⟨n, rfl⟩
theorem kpc_t {Bs Bn : Nat} {A B C : World} (h : KpC Bs Bn A B) (k : KpC Bs Bn B C) : KpC Bs Bn A C := ⟨k.1.trans h.1, k.2.trans h.2⟩
theorem kpc_b {Bs Bn : Nat} (W : World) (l : Nat) (o' : Obj) (h1 : Bs < l) (h2 : Bn < l) : KpC Bs Bn W (W.putObj l o') := by
  have h : ∀ k, k < l → (W.putObj l o').heap[k]? = W.heap[k]? := fun k hk => by
    show (W.heap.setIfInBounds l o')[k]? = W.heap[k]?
    rw [Array.getElem?_setIfInBounds, if_neg (by omega)]
  exact ⟨h _ h1, h _ h2⟩
/-- Nothing has turned but two blocks. -/
structure Keep2 (p x : Nat) (W W' : World) : Prop where
  size : W.heap.size ≤ W'.heap.size
  block : ∀ k, k < W.heap.size → k ≠ p → k ≠ x → W'.heap[k]? = W.heap[k]?
section
variable {p x : Nat} {W W' W2 : World}
theorem Keep2.trans (h : Keep2 p x W W') (k : Keep2 p x W' W2) : Keep2 p x W W2 := ⟨Nat.le_trans h.size k.size, fun i h1 h2 h3 => (k.block i (Nat.lt_of_lt_of_le h1 h.size) h2 h3).trans (h.block i h1 h2 h3)⟩
theorem Keep2.of_below (h : Below W.heap.size W W') : Keep2 p x W W' := ⟨h.size, fun k hk _ _ => h.block k hk⟩
theorem Keep2.of_fr {B : Nat} (h : Fr B (· = p) W W') : Keep2 p x W W' := ⟨h.size, fun k hk h1 _ => h.block k hk (.inr (.inl h1))⟩
theorem Keep2.set (W : World) (u : Value) : Keep2 p x W (W.setCell ⟨x, 0, none⟩ u) := ⟨by simp [World.setCell], fun k _ _ h => Below.heap_setCell _ _ _ _ (fun e => h e)⟩
theorem Keep2.refl (W : World) : Keep2 p x W W := ⟨Nat.le_refl _, fun _ _ _ _ => rfl⟩
theorem Keep2.others (h : Keep2 p x W W') (hp : ∃ cs T fz, W.heap[p]? = some (.cells cs T fz)) (hx : ∃ cs T fz, W.heap[x]? = some (.cells cs T fz)) : KeepsOthers W W' :=
  ⟨h.size, fun k o hk ho => (h.block k (heap_lt hk) (fun e => by
    obtain ⟨cs, T, fz, hp⟩ := hp
    rw [e, hp] at hk; cases hk; cases ho) (fun e => by
    obtain ⟨cs, T, fz, hx⟩ := hx
    rw [e, hx] at hk; cases hk; cases ho)).trans hk⟩
end
/-- What has come of the chunks. -/
def ckSt (b : Int) (l : List Ent) (st0 : Chip × Nat) (pre : List (Ck 2 l.length)) : Chip × Nat := (pre.map (fun k => bytesL (ckList 2 l k.1).length (ckList 2 l k.1))).foldl (pStepW b) st0
theorem ckSt_all (b : Int) (l : List Ent) (st0 : Chip × Nat) {k : Nat} (hk : l.length ≤ 2 * k) : ckSt b l st0 (ckUpto 2 l.length k) = ((chunks2 l).map (fun p => bytesL p.length p)).foldl (pStepW b) st0 := by
  have h1 : (ckUpto 2 l.length k).map (fun j => ckList 2 l j.1) = chunks2 l := by
    clear st0 b
    have key : ∀ (n : Nat) (l : List Ent) (k : Nat), l.length ≤ n → l.length ≤ 2 * k → (List.range k).filterMap (fun j => if 2 * j < l.length then some (ckList 2 l j) else none) = chunks2 l := by
      intro n
      induction n using Nat.strongRecOn with
      | _ n ih =>
        intro l k hn hk
        match l, hn, hk with
        | [], _, _ => simp [chunks2]
        | [a], _, hk =>
          obtain ⟨k, rfl⟩ : ∃ k', k = k' + 1 := ⟨k - 1, by simp at hk; omega⟩
          rw [List.range_succ_eq_map]
          simp [chunks2, ckList, List.filterMap_map]
        | a :: b :: l, hn, hk =>
          simp only [List.length_cons] at hn hk
          obtain ⟨k, rfl⟩ : ∃ k', k = k' + 1 := ⟨k - 1, by omega⟩
          have := ih (n - 2) (by omega) l k (by omega) (by omega)
          rw [List.range_succ_eq_map, List.filterMap_cons]
          simp only [Nat.mul_zero, List.length_cons, Nat.zero_lt_succ, if_true]
          rw [chunks2, ← this, List.filterMap_map]
          congr 1
          congr 1
          funext j
          have e1 : (2 * (j + 1) < l.length + 1 + 1) = (2 * j < l.length) := by apply propext; omega
          have e2 : ckList 2 (a :: b :: l) (j + 1) = ckList 2 l j := by
            unfold ckList
            rw [Nat.mul_add, Nat.mul_one, Nat.add_comm (2 * j) 2, ← List.drop_drop]
            rfl
          simp only [Function.comp, Nat.succ_eq_add_one, e1, e2]
    rw [← key l.length l k (Nat.le_refl _) hk, ckUpto, List.map_filterMap]
    congr 1
    funext j
    by_cases h : 2 * j < l.length <;> simp [h]
  rw [ckSt, ← h1, List.map_map]
  rfl
set_option maxRecDepth 100000 in
set_option maxHeartbeats 4000000 in
theorem twrite_any (B p : Nat) (c : Chip) (b : Int) (v : Value) (l : List Ent) (w : World) (h : ChipR B w p c) (hl : Ents B w v l) (ht : tabF l = 0) :
    Calls Tryz.prog 137 #[.pointer (some ⟨p, 0, none⟩), .int .i64 b, v] w fun e w' => e = .returned (errV (tabWrite c b l).2) ∧ ChipR B w' p (tabWrite c b l).1 ∧ Fr B (· = p) w w' := by
  have hpart := tabF_parts ht
  have hB0 : B ≤ w.heap.size := by obtain ⟨V, u, hv, _⟩ := h; have := hv.base; have := hv.blk.lt; omega
  obtain ⟨A, cp, rfl, hc1, hc2, _⟩ := hl.form
  obtain ⟨g, o, rfl, _, _, _⟩ := rd_at' hl.1 hpart.1
  have hbl0 : Below w.heap.size w (((w.alloc (.cells #[.pointer (some ⟨p, 0, none⟩)] 40)).alloc (.cells #[.int .i64 b] 3)).alloc (.cells #[.nilIface] 25)) :=
    ((((Below.refl _ _).alloc (Nat.le_refl _) _).alloc (by simp) _).alloc (by simp; omega) _)
  have HCK := Lib.hid (tcheck_any B _ l _ (hl.below hbl0))
  rw [ht, show errV 0 = Value.nilIface from rfl] at HCK
  have HL := Lib.hid hl
  have HR := Lib.hid h
  have HBL0 := Lib.hid hbl0
  have HT0 : Hid (∀ w2, Below (((w.alloc (.cells #[.pointer (some ⟨p, 0, none⟩)] 40)).alloc (.cells #[.int .i64 b] 3)).alloc (.cells #[.nilIface] 25)).heap.size (((w.alloc (.cells #[.pointer (some ⟨p, 0, none⟩)] 40)).alloc (.cells #[.int .i64 b] 3)).alloc (.cells #[.nilIface] 25)) w2 →
      TwS B p b (.slice (some ⟨g, o, none⟩) l.length cp) l w w2.heap.size 0 c (w2.alloc (.cells #[.nilIface] 25))) := by
    intro w2 hb2
    have hs := hb2.size
    simp at hs
    have hbb : Below w.heap.size w (w2.alloc (.cells #[.nilIface] 25)) := (hbl0.trans (hb2.mono (by simp; omega))).alloc (by omega) _
    have k3 : Blk (((w.alloc (.cells #[.pointer (some ⟨p, 0, none⟩)] 40)).alloc (.cells #[.int .i64 b] 3)).alloc (.cells #[.nilIface] 25)) w.heap.size 40 #[.pointer (some ⟨p, 0, none⟩)] := ((Blk.new w _ _).alloc _).alloc _
    have k4 : Blk (((w.alloc (.cells #[.pointer (some ⟨p, 0, none⟩)] 40)).alloc (.cells #[.int .i64 b] 3)).alloc (.cells #[.nilIface] 25)) (w.heap.size + 1) 3 #[.int .i64 b] := by
      have := (Blk.new (w.alloc (.cells #[.pointer (some ⟨p, 0, none⟩)] 40)) 3 #[.int .i64 b]).alloc (.cells #[.nilIface] 25)
      simpa using this
    have k6 : Blk (((w.alloc (.cells #[.pointer (some ⟨p, 0, none⟩)] 40)).alloc (.cells #[.int .i64 b] 3)).alloc (.cells #[.nilIface] 25)) (w.heap.size + 1 + 1) 25 #[.nilIface] := by
      have := Blk.new ((w.alloc (.cells #[.pointer (some ⟨p, 0, none⟩)] 40)).alloc (.cells #[.int .i64 b] 3)) 25 #[.nilIface]
      simpa using this
    exact ⟨(k3.below hb2 k3.lt).alloc _, (k4.below hb2 k4.lt).alloc _, (k6.below hb2 k6.lt).alloc _, Blk.new w2 _ _, by omega, h.below hbb, hl.below hbb, .of_below hbb, h.lt, hB0⟩
  have HSZ : Hid (∀ w2, Below (((w.alloc (.cells #[.pointer (some ⟨p, 0, none⟩)] 40)).alloc (.cells #[.int .i64 b] 3)).alloc (.cells #[.nilIface] 25)).heap.size (((w.alloc (.cells #[.pointer (some ⟨p, 0, none⟩)] 40)).alloc (.cells #[.int .i64 b] 3)).alloc (.cells #[.nilIface] 25)) w2 → w.heap.size + 1 + 1 < w2.heap.size ∧ w2.cell? ⟨w.heap.size, 0, none⟩ = some (.pointer (some ⟨p, 0, none⟩)) ∧ w2.cell? ⟨w.heap.size + 1, 0, none⟩ = some (.int .i64 b)) := by
    intro w2 hb2
    have hs := hb2.size
    simp at hs
    have hT := HT0.out w2 hb2
    have old : ∀ k (v : Value), k < w2.heap.size → (w2.alloc (.cells #[.nilIface] 25)).cell? ⟨k, 0, none⟩ = some v → w2.cell? ⟨k, 0, none⟩ = some v := by
      intro k v hk hv
      rw [World.cell?_of_block (Below.heap_alloc w2 _ k hk)] at hv
      exact hv
    exact ⟨by omega, old _ _ (by omega) hT.cells.1, old _ _ (by omega) hT.cells.2.1⟩
  clear h hl hbl0
  have HER := Lib.hid (fun W (h : ChipR B W p c) => cerase_any B p c b W h)
  have HTW : Hid (tabWrite c b l = (rawPages l).foldl (pStepW b) (c.erase b)) := rfl
  generalize hr1 : c.erase b = r1 at *
  obtain ⟨c1, n1⟩ := r1
  clear hr1
  have HT := Lib.hid ht
  refine (callsIn_wide (n := 6)).1 ?_
  refine callsIn_of_wp_marks Tryz.func137 rfl trivial ?_ rfl
  simp only [Tryz.ntmps137, List.size_toArray, List.length_cons, List.length_nil, Nat.reduceAdd, Nat.reduceSub, Array.replicate_succ, Array.replicate_zero, List.push_toArray, List.append_toArray, List.nil_append, List.cons_append]
  refine wpIn_wide.2 ?_
  by_cases hn1 : n1 = 0
  case' pos =>
    subst hn1
    have HT1 : Hid (∀ x7 w3, TwS B p b (.slice (some ⟨g, o, none⟩) l.length cp) l w x7 0 c1 w3 → TwS B p b (.slice (some ⟨g, o, none⟩) l.length cp) l w x7 0 c1 (w3.setCell ⟨x7, 0, none⟩ .nilIface)) := fun x7 w3 h => h.store 0
    go_wp2_with (first
      | (go_at_call 87; refine HCK.out.mono ?_; rintro e2 w2 ⟨rfl, hb2⟩; have HT2 := Lib.hid (HT0.out w2 hb2); obtain ⟨z1, z3, z4⟩ := HSZ.out w2 hb2; have z5 : w.heap.size < w2.heap.size := (by omega); have z6 : w.heap.size + 1 < w2.heap.size := (by omega); clear hb2 HT0 HSZ HBL0)
      | (go_at_call 21; refine (HER.out _ HT2.out.rep).mono ?_; rintro e3 w3 ⟨rfl, hr3, hf3⟩; have HT3 := Lib.hid (HT2.out.chip hr3 hf3); have y3 := HT3.out.b7.cell 0; have y4 := HT3.out.b7.frozen 0; simp at y3; have y0 := HT3.out.cells.1; have y1 := HT3.out.cells.2.1; rw [show errV ((c1, 0) : Chip × Nat).2 = Value.nilIface from rfl]; have HT4 := Lib.hid (HT1.out _ _ HT3.out); clear hr3 hf3))
    have hpg : Hid ((rawPages l) = bitsB (fOf (l.map Ent.k)) :: (chunks2 l).map (fun p => bytesL p.length p)) := rfl
    have hfl : fOf (l.map Ent.k) < 18446744073709551616 := fOf_lt _
    have HKY := Lib.hid (fun (W' : World) (h : TwS B p b (.slice (some ⟨g, o, none⟩) l.length cp) l w w2.heap.size 0 c1 W') => (keys_any B (.slice (some ⟨g, o, none⟩) l.length cp) l W' h.ents (by omega)).mono (R' := fun e w2' => ∃ u, e = .returned u ∧ Strs B w2' u (l.map Ent.k) ∧ TwS B p b (.slice (some ⟨g, o, none⟩) l.length cp) l w w2.heap.size 0 c1 w2') (fun e w2' ⟨u, h1, h2, h3⟩ => ⟨u, h1, h2, h.below h3⟩))
    have HOF := Lib.hid (fun (W' : World) (u : Value) (hu : Strs B W' u (l.map Ent.k)) (h : TwS B p b (.slice (some ⟨g, o, none⟩) l.length cp) l w w2.heap.size 0 c1 W') => (of_any B u (l.map Ent.k) W' hu).mono (R' := fun e w2' => e = .returned (.int .u64 (fOf (l.map Ent.k) : Nat)) ∧ TwS B p b (.slice (some ⟨g, o, none⟩) l.length cp) l w w2.heap.size 0 c1 w2') (fun e w2' ⟨h1, n, h2⟩ => ⟨h1, by rw [← h2]; exact h.drewN n⟩))
    have HBI := Lib.hid (fun (W' : World) (h : TwS B p b (.slice (some ⟨g, o, none⟩) l.length cp) l w w2.heap.size 0 c1 W') => (bits_any (fOf (l.map Ent.k)) hfl W').mono (R' := fun e w2' => e = .returned (.string (bitsB (fOf (l.map Ent.k)))) ∧ TwS B p b (.slice (some ⟨g, o, none⟩) l.length cp) l w w2.heap.size 0 c1 w2') (fun e w2' ⟨h1, h2⟩ => ⟨h1, h.below h2⟩))
    have HWR := Lib.hid (fun (W' : World) (h : TwS B p b (.slice (some ⟨g, o, none⟩) l.length cp) l w w2.heap.size 0 c1 W') => (cwrite_any B p c1 b (bitsB (fOf (l.map Ent.k))) W' h.rep (by rw [bitsB_size]; omega)).mono (R' := fun e w2' => e = .returned (errV (pStepW b (c1, 0) (bitsB (fOf (l.map Ent.k)))).2) ∧ TwS B p b (.slice (some ⟨g, o, none⟩) l.length cp) l w w2.heap.size 0 (pStepW b (c1, 0) (bitsB (fOf (l.map Ent.k)))).1 w2') (fun e w2' ⟨h1, h2, h3⟩ => ⟨h1, h.chip h2 h3⟩))
    rw [hpg.out, List.foldl_cons] at HTW
    generalize bitsB (fOf (l.map Ent.k)) = d0 at *
    generalize fOf (l.map Ent.k) = f0 at *
    generalize pStepW b (c1, 0) d0 = st0 at *
    have HT5 := Lib.hid (HT4.out.drewN 1)
    have HST : Hid (∀ x7 c W, TwS B p b (.slice (some ⟨g, o, none⟩) l.length cp) l w x7 0 c W → TwS B p b (.slice (some ⟨g, o, none⟩) l.length cp) l w x7 st0.2 c (W.setCell ⟨x7, 0, none⟩ (errV st0.2))) := fun x7 c W h => h.store st0.2
    have hform := errV_form st0.2
    have hev : Hid (∃ ev, errV st0.2 = ev) := ⟨_, rfl⟩
    obtain ⟨ev, hev⟩ := hev
    rw [hev] at HWR HST hform
    have HEV := Lib.hid hev
    clear hev
    rcases hform with rfl | ⟨ek, rfl⟩
    all_goals go_region_held3 (fun w' => w'.cell? ⟨w.heap.size, 0, none⟩ = some (.pointer (some ⟨p, 0, none⟩)) ∧ w'.cell? ⟨w.heap.size + 1, 0, none⟩ = some (.int .i64 b))
      ((first
        | exact ⟨(HT9.out).cells.1, HT9.out.cells.2.1⟩
        | exact ⟨(HT8.out).cells.1, HT8.out.cells.2.1⟩
        | exact ⟨(HT7.out).cells.1, HT7.out.cells.2.1⟩
        | exact ⟨(HT6.out).cells.1, HT6.out.cells.2.1⟩
        | exact ⟨(HTA.out).cells.1, HTA.out.cells.2.1⟩
        | exact ⟨(HT5.out).cells.1, HT5.out.cells.2.1⟩))
      ((first
        | (go_at_call 165; refine (HKY.out _ HT5.out).mono ?_; rintro e6 w6 ⟨u6, rfl, hu6, ht6⟩; have HT6 := Lib.hid ht6; have HU6 := Lib.hid hu6; clear ht6 hu6)
        | (go_at_call 164; refine (HOF.out _ _ HU6.out HT6.out).mono ?_; rintro e7 w7 ⟨rfl, ht7⟩; have HT7 := Lib.hid ht7; clear ht7)
        | (go_at_call 163; refine (HBI.out _ HT7.out).mono ?_; rintro e8 w8 ⟨rfl, ht8⟩; have HT8 := Lib.hid ht8; clear ht8)
        | (go_at_call 46; refine (HWR.out _ HT8.out).mono ?_; rintro e9 w9 ⟨rfl, ht9⟩; have HT9 := Lib.hid ht9; have HTA := Lib.hid (HST.out _ _ _ ht9); have v3 := ht9.b7.cell 0; have v4 := ht9.b7.frozen 0; simp at v3; clear ht9)))
    all_goals
      obtain ⟨WL, hWL⟩ : ∃ WL, w9.setCell ⟨w2.heap.size, 0, none⟩ (errV st0.2) = WL := ⟨_, rfl⟩
      rw [HEV.out] at hWL
      rw [hWL] at HTA ⊢
      have HCH := Lib.hid (chunk_any (some ⟨g, o, none⟩) l.length cp 2 (by decide) WL)
      clear HKY HOF HBI HWR HER HCK HST HT1 HT2 HT3 HT4 HT5 HT6 HT7 HT8 HT9 HU6 hWL
      go_wp2_with (go_at_call 136; refine HCH.out.mono ?_; rintro e10 w10 ⟨rfl, rfl⟩)
  case' neg =>
    have he : errV n1 = .iface 39 (.int .i64 n1) := by unfold errV; rw [if_neg hn1]
    have HT1 : Hid (∀ x7 w3, TwS B p b (.slice (some ⟨g, o, none⟩) l.length cp) l w x7 0 c1 w3 → TwS B p b (.slice (some ⟨g, o, none⟩) l.length cp) l w x7 n1 c1 (w3.setCell ⟨x7, 0, none⟩ (.iface 39 (.int .i64 n1)))) := fun x7 w3 h => by rw [← he]; exact h.store n1
    have HE := Lib.hid he
    have hpg : Hid ((rawPages l) = bitsB (fOf (l.map Ent.k)) :: (chunks2 l).map (fun p => bytesL p.length p)) := rfl
    rw [hpg.out, List.foldl_cons, show pStepW b (c1, n1) (bitsB (fOf (l.map Ent.k))) = (c1, n1) from if_neg hn1] at HTW
    clear he
    go_wp2_with (first
      | (go_at_call 87; refine HCK.out.mono ?_; rintro e2 w2 ⟨rfl, hb2⟩; have HT2 := Lib.hid (HT0.out w2 hb2); obtain ⟨z1, z3, z4⟩ := HSZ.out w2 hb2; have z5 : w.heap.size < w2.heap.size := (by omega); have z6 : w.heap.size + 1 < w2.heap.size := (by omega); clear hb2 HT0 HSZ HBL0)
      | (go_at_call 21; refine (HER.out _ HT2.out.rep).mono ?_; rintro e3 w3 ⟨rfl, hr3, hf3⟩; have HT3 := Lib.hid (HT2.out.chip hr3 hf3); have y3 := HT3.out.b7.cell 0; have y4 := HT3.out.b7.frozen 0; simp at y3; have y0 := HT3.out.cells.1; have y1 := HT3.out.cells.2.1; rw [show errV ((c1, n1) : Chip × Nat).2 = Value.iface 39 (.int .i64 n1) from HE.out]; have HTA := Lib.hid (HT1.out _ _ HT3.out); clear hr3 hf3)
      | (go_at_call 136; (obtain ⟨WL, hWL⟩ : ∃ WL, w3.setCell ⟨w2.heap.size, 0, none⟩ (.iface 39 (.int .i64 n1)) = WL := ⟨_, rfl⟩); rw [hWL] at HTA ⊢; have HCH := Lib.hid (chunk_any (some ⟨g, o, none⟩) l.length cp 2 (by decide) WL); clear HER HCK HT1 HT2 HT3 hWL; refine HCH.out.mono ?_; rintro e10 w10 ⟨rfl, rfl⟩))
    obtain ⟨st0, hst0⟩ : ∃ st0 : Chip × Nat, st0 = (c1, n1) := ⟨_, rfl⟩
    have HTA : Hid (TwS B p b (.slice (some ⟨g, o, none⟩) l.length cp) l w w2.heap.size st0.2 st0.1 WL) := by rw [hst0]; exact HTA
    rw [← hst0] at HTW
  · have hTL : TwS B p b (.slice (some ⟨g, o, none⟩) l.length cp) l w w2.heap.size st0.2 st0.1 ((WL.alloc (.cells #[(.slice (some ⟨g, o, none⟩) l.length cp)] 31)).alloc (.cells #[.int .i64 2] 3)) := (HTA.out.alloc _).alloc _
    have HTL := Lib.hid hTL
    have hsL : w.heap.size + 1 + 1 < WL.heap.size := by have := HTA.out.b7.lt; have := HTA.out.lt; omega
    have hsL2 : w2.heap.size < WL.heap.size := HTA.out.b7.lt
    have HBs : Blk ((WL.alloc (.cells #[(.slice (some ⟨g, o, none⟩) l.length cp)] 31)).alloc (.cells #[.int .i64 2] 3)) WL.heap.size 31 #[(.slice (some ⟨g, o, none⟩) l.length cp)] := (Blk.new WL _ _).alloc _
    have HBn : Blk ((WL.alloc (.cells #[(.slice (some ⟨g, o, none⟩) l.length cp)] 31)).alloc (.cells #[.int .i64 2] 3)) (WL.heap.size + 1) 3 #[.int .i64 (2 : Nat)] := by
      have := Blk.new (WL.alloc (.cells #[(.slice (some ⟨g, o, none⟩) l.length cp)] 31)) 3 #[.int .i64 2]
      simpa using this
    have hps : ((WL.alloc (.cells #[(.slice (some ⟨g, o, none⟩) l.length cp)] 31)).alloc (.cells #[.int .i64 2] 3)).heap.size = WL.heap.size + 2 := by simp
    generalize hWW : ((WL.alloc (.cells #[(.slice (some ⟨g, o, none⟩) l.length cp)] 31)).alloc (.cells #[.int .i64 2] 3)) = WW at *
    clear hWW hTL HCH HTA
    refine (wpIn_wide (n := 6)).1 ?_
    refine wpIn_rangeFunc_ownF (n := 6) rfl (by decide) (gf := 162) (lb := #[.pointer (some ⟨WL.heap.size, 0, none⟩), .pointer (some ⟨WL.heap.size + 1, 0, none⟩)]) rfl trivial (enters_of Tryz.func162 (by kernel_rfl) rfl)
      (chunk_stops 5 (by decide) WL.heap.size (WL.heap.size + 1) g o l.length cp 2 (some ⟨g, o, none⟩) (fun _ => rfl) (by decide) (by decide) (by omega) hc1 hc2 WW HBs HBn) kpc_t (fun W k o o' hk _ _ _ => kpc_b (Bs := WL.heap.size) (Bn := WL.heap.size + 1) W k o' (by omega) (by omega)) (Below.refl _ _) (fun _ => rfl)
      (fun pre W => TwS B p b (.slice (some ⟨g, o, none⟩) l.length cp) l w w2.heap.size (ckSt b l st0 pre).2 (ckSt b l st0 pre).1 W ∧ WL.heap.size + 2 ≤ W.heap.size) (fun _ _ _ => False)
      (fun s A' B' row hs hg hr => ⟨hs.1.grown hg hr (by omega), Nat.le_trans hs.2 hg.size⟩) (fun _ _ _ _ _ h _ _ => h) ⟨HTL.out, by omega⟩ ?a1 ?assign ?body ?done ?stop
    case assign =>
      intro l0 x W K hK
      simp only [ckVal]
      gi_wp2
      exact hK
    case body =>
      rintro l0 pre ⟨k, hkx⟩ W ⟨hT, hWs⟩ _
      obtain ⟨m, hm⟩ : ∃ m, min 2 (l.length - 2 * k) = m := ⟨_, rfl⟩
      have hen := ents_chunk (nn := 2) (k := k) hT.ents
      rw [hm] at hen
      have hpc : ∃ cs T fz, W.heap[p]? = some (.cells cs T fz) := by obtain ⟨V, u, hv, _⟩ := hT.rep; exact ⟨_, _, _, hv.blk⟩
      have hxc : ∃ cs T fz, W.heap[w2.heap.size]? = some (.cells cs T fz) := ⟨_, _, _, hT.b7⟩
      have HPC := Lib.hid hpc
      have HXC := Lib.hid hxc
      have hpw := hT.hp
      have hnx : ckSt b l st0 (pre ++ [⟨k, hkx⟩]) = pStepW b (ckSt b l st0 pre) (bytesL (ckList 2 l k).length (ckList 2 l k)) := by simp [ckSt]
      have hbc := bytes_chunk HT.out (q := ckList 2 l k) (fun e he => List.mem_of_mem_drop (List.mem_of_mem_take he)) (by simp [ckList]; omega)
      have hby := bytes_any B _ (ckList 2 l k) W hen (by simp [ckList]; omega)
      have hsz : (bytesL (ckList 2 l k).length (ckList 2 l k)).size ≤ 9223372036854775807 := by
        have hall := chkT_all (tabF_parts HT.out).2.2
        have h1 := bytesL_size (ckList 2 l k).length (ckList 2 l k) (fun e he => hall e (List.mem_of_mem_drop (List.mem_of_mem_take he)))
        have h2 : (ckList 2 l k).length ≤ 2 := by simp [ckList]; omega
        omega
      rw [hbc.1, hbc.2, show errV 0 = Value.nilIface from rfl] at hby
      generalize bytesL (ckList 2 l k).length (ckList 2 l k) = d at *
      have HNX := Lib.hid hnx
      generalize ckSt b l st0 pre = st at *
      have HBY := Lib.hid (hby.mono (R' := fun e w1 => e = .returned (.tuple #[.string d, .nilIface]) ∧ TwS B p b (.slice (some ⟨g, o, none⟩) l.length cp) l w w2.heap.size st.2 st.1 w1 ∧ Keep2 p w2.heap.size W w1) (fun e w1 ⟨h1, h2⟩ => ⟨h1, hT.below h2, .of_below h2⟩))
      have HWR := Lib.hid (fun (W' : World) (h : TwS B p b (.slice (some ⟨g, o, none⟩) l.length cp) l w w2.heap.size 0 st.1 W') => (cwrite_any B p st.1 b d W' h.rep hsz).mono (R' := fun e w2' => e = .returned (errV (st.1.write b d).2) ∧ TwS B p b (.slice (some ⟨g, o, none⟩) l.length cp) l w w2.heap.size 0 (st.1.write b d).1 w2' ∧ Keep2 p w2.heap.size W' w2') (fun e w2' ⟨h1, h2, h3⟩ => ⟨h1, h.chip h2 h3, .of_fr h3⟩))
      have HFIN : Hid (∀ W', TwS B p b (.slice (some ⟨g, o, none⟩) l.length cp) l w w2.heap.size (pStepW b st d).2 (pStepW b st d).1 W' → Keep2 p w2.heap.size W W' → KeepsOthers W W' ∧ KpC WL.heap.size (WL.heap.size + 1) W W' ∧ (TwS B p b (.slice (some ⟨g, o, none⟩) l.length cp) l w w2.heap.size (ckSt b l st0 (pre ++ [⟨k, hkx⟩])).2 (ckSt b l st0 (pre ++ [⟨k, hkx⟩])).1 W' ∧ WL.heap.size + 2 ≤ W'.heap.size)) := by
        intro W' h1 h2
        refine ⟨h2.others hpc hxc, ⟨h2.block _ (by omega) (by omega) (by omega), h2.block _ (by omega) (by omega) (by omega)⟩, ?_, Nat.le_trans hWs h2.size⟩
        rw [hnx]
        exact h1
      clear hen hpc hxc hnx hbc hby hT
      simp only [hm]
      by_cases hs0 : st.2 = 0
      · rw [hs0] at HBY
        have hps : pStepW b st d = st.1.write b d := if_pos hs0
        rw [hps] at HFIN
        generalize st.1.write b d = st' at *
        have hform := errV_form st'.2
        have HSTO : Hid (∀ x7 c W, TwS B p b (.slice (some ⟨g, o, none⟩) l.length cp) l w x7 0 c W → TwS B p b (.slice (some ⟨g, o, none⟩) l.length cp) l w x7 st'.2 c (W.setCell ⟨x7, 0, none⟩ (errV st'.2))) := fun x7 c W h => h.store st'.2
        obtain ⟨ev, hev⟩ : ∃ ev, errV st'.2 = ev := ⟨_, rfl⟩
        rw [hev] at HWR HSTO hform
        clear hev
        rcases hform with rfl | ⟨ek', rfl⟩
        all_goals
          gi_wp2_with (first
            | (refine ⟨trivial, ?_⟩; gi_at_call 96; refine (CallsIn.inRound l0 (callsIn_wide.2 HBY.out)).mono ?_; rintro e4 w4 ⟨rfl, ht4, hk4⟩; have HT4 := Lib.hid ht4; have HK4 := Lib.hid hk4; have q7 := ht4.b7.cell 0; simp at q7; rw [show errV 0 = Value.nilIface from rfl] at q7; have q0 := ht4.cells.1; have q1 := ht4.cells.2.1; clear ht4 hk4)
            | (refine ⟨trivial, ?_⟩; gi_at_call 46; refine (CallsIn.inRound l0 (callsIn_wide.2 (HWR.out _ HT4.out))).mono ?_; rintro e5 w5 ⟨rfl, ht5, hk5⟩; have HT5 := Lib.hid (HSTO.out _ _ _ ht5); have HK5 := Lib.hid (fun u => HK4.out.trans (hk5.trans (Keep2.set w5 u))); have r7 := ht5.b7.cell 0; have r8 := ht5.b7.frozen 0; simp at r7; clear ht5 hk5))
          exact HFIN.out _ HT5.out (HK5.out _)
      · have hps : pStepW b st d = st := if_neg hs0
        rw [hps] at HFIN
        have he : errV st.2 = .iface 39 (.int .i64 st.2) := by unfold errV; rw [if_neg hs0]
        have HE := Lib.hid he
        clear he
        gi_wp2_with (refine ⟨trivial, ?_⟩; gi_at_call 96; refine (CallsIn.inRound l0 (callsIn_wide.2 HBY.out)).mono ?_; rintro e4 w4 ⟨rfl, ht4, hk4⟩; have HT4 := Lib.hid ht4; have HK4 := Lib.hid hk4; have q7 := ht4.b7.cell 0; simp at q7; rw [HE.out] at q7; have q0 := ht4.cells.1; have q1 := ht4.cells.2.1; clear ht4 hk4)
        exact HFIN.out _ HT4.out HK4.out
    case done =>
      rintro D xs W hD ⟨k, hk, rfl⟩ ⟨hT, _⟩ hK
      have hend : ckSt b l st0 (ckUpto 2 l.length k) = tabWrite c b l := by
        rw [HTW.out]
        exact ckSt_all b l st0 hk
      rw [hend] at hT
      have q7 := hT.b7.cell 0
      have q6 := hT.b6.cell 0
      have q6f := hT.b6.frozen 0
      have q6l := hT.b6.lt
      simp at q7 q6
      obtain ⟨ev, hev⟩ : ∃ ev, errV (tabWrite c b l).2 = ev := ⟨_, rfl⟩
      have hform := errV_form (tabWrite c b l).2
      have HTD := Lib.hid (hT.last (D := D) (by omega) hK rfl)
      have HKD : Hid (∀ u, (W.setCell ⟨w.heap.size + 1 + 1, 0, none⟩ u).heap[D]? = some (.deferred (some []))) := fun u => (Below.heap_setCell _ _ _ _ (fun e => by
        have e : D = w.heap.size + 1 + 1 := e
        rw [e, show W.heap[w.heap.size + 1 + 1]? = some (.cells #[.nilIface] 25 (0, 0)) from hT.b6] at hK
        cases hK)).trans hK
      rw [hev] at hform q7
      have HEV2 := Lib.hid hev
      clear hend hK hT HTW hev
      rcases hform with rfl | ⟨ek', rfl⟩
      · have hc := (HTD.out .nilIface (.deferred none)).2.2
        go_wp2_with fail
        refine ⟨by simp, .inl ⟨_, _, rfl, run_takeDeferred (HKD.out _), ?_⟩⟩
        exact ⟨.nilIface, by simp [results, Tryz.results137, go_sem, hc], by rw [HEV2.out], (HTD.out _ _).1, (HTD.out _ _).2.1⟩
      · have hc := (HTD.out (.iface 39 (.int .i64 ek')) (.deferred none)).2.2
        go_wp2_with fail
        refine ⟨by simp, .inl ⟨_, _, rfl, run_takeDeferred (HKD.out _), ?_⟩⟩
        exact ⟨.iface 39 (.int .i64 ek'), by simp [results, Tryz.results137, go_sem, hc], by rw [HEV2.out], (HTD.out _ _).1, (HTD.out _ _).2.1⟩
    case stop =>
      rintro D c pre W _ _ h _
      exact h.elim
  · have hTL : TwS B p b (.slice (some ⟨g, o, none⟩) l.length cp) l w w2.heap.size st0.2 st0.1 ((WL.alloc (.cells #[(.slice (some ⟨g, o, none⟩) l.length cp)] 31)).alloc (.cells #[.int .i64 2] 3)) := (HTA.out.alloc _).alloc _
    have HTL := Lib.hid hTL
    have hsL : w.heap.size + 1 + 1 < WL.heap.size := by have := HTA.out.b7.lt; have := HTA.out.lt; omega
    have hsL2 : w2.heap.size < WL.heap.size := HTA.out.b7.lt
    have HBs : Blk ((WL.alloc (.cells #[(.slice (some ⟨g, o, none⟩) l.length cp)] 31)).alloc (.cells #[.int .i64 2] 3)) WL.heap.size 31 #[(.slice (some ⟨g, o, none⟩) l.length cp)] := (Blk.new WL _ _).alloc _
    have HBn : Blk ((WL.alloc (.cells #[(.slice (some ⟨g, o, none⟩) l.length cp)] 31)).alloc (.cells #[.int .i64 2] 3)) (WL.heap.size + 1) 3 #[.int .i64 (2 : Nat)] := by
      have := Blk.new (WL.alloc (.cells #[(.slice (some ⟨g, o, none⟩) l.length cp)] 31)) 3 #[.int .i64 2]
      simpa using this
    have hps : ((WL.alloc (.cells #[(.slice (some ⟨g, o, none⟩) l.length cp)] 31)).alloc (.cells #[.int .i64 2] 3)).heap.size = WL.heap.size + 2 := by simp
    generalize hWW : ((WL.alloc (.cells #[(.slice (some ⟨g, o, none⟩) l.length cp)] 31)).alloc (.cells #[.int .i64 2] 3)) = WW at *
    clear hWW hTL HCH HTA
    refine (wpIn_wide (n := 6)).1 ?_
    refine wpIn_rangeFunc_ownF (n := 6) rfl (by decide) (gf := 162) (lb := #[.pointer (some ⟨WL.heap.size, 0, none⟩), .pointer (some ⟨WL.heap.size + 1, 0, none⟩)]) rfl trivial (enters_of Tryz.func162 (by kernel_rfl) rfl)
      (chunk_stops 5 (by decide) WL.heap.size (WL.heap.size + 1) g o l.length cp 2 (some ⟨g, o, none⟩) (fun _ => rfl) (by decide) (by decide) (by omega) hc1 hc2 WW HBs HBn) kpc_t (fun W k o o' hk _ _ _ => kpc_b (Bs := WL.heap.size) (Bn := WL.heap.size + 1) W k o' (by omega) (by omega)) (Below.refl _ _) (fun _ => rfl)
      (fun pre W => TwS B p b (.slice (some ⟨g, o, none⟩) l.length cp) l w w2.heap.size (ckSt b l st0 pre).2 (ckSt b l st0 pre).1 W ∧ WL.heap.size + 2 ≤ W.heap.size) (fun _ _ _ => False)
      (fun s A' B' row hs hg hr => ⟨hs.1.grown hg hr (by omega), Nat.le_trans hs.2 hg.size⟩) (fun _ _ _ _ _ h _ _ => h) ⟨HTL.out, by omega⟩ ?a2 ?assign ?body ?done ?stop
    case assign =>
      intro l0 x W K hK
      simp only [ckVal]
      gi_wp2
      exact hK
    case body =>
      rintro l0 pre ⟨k, hkx⟩ W ⟨hT, hWs⟩ _
      obtain ⟨m, hm⟩ : ∃ m, min 2 (l.length - 2 * k) = m := ⟨_, rfl⟩
      have hen := ents_chunk (nn := 2) (k := k) hT.ents
      rw [hm] at hen
      have hpc : ∃ cs T fz, W.heap[p]? = some (.cells cs T fz) := by obtain ⟨V, u, hv, _⟩ := hT.rep; exact ⟨_, _, _, hv.blk⟩
      have hxc : ∃ cs T fz, W.heap[w2.heap.size]? = some (.cells cs T fz) := ⟨_, _, _, hT.b7⟩
      have HPC := Lib.hid hpc
      have HXC := Lib.hid hxc
      have hpw := hT.hp
      have hnx : ckSt b l st0 (pre ++ [⟨k, hkx⟩]) = pStepW b (ckSt b l st0 pre) (bytesL (ckList 2 l k).length (ckList 2 l k)) := by simp [ckSt]
      have hbc := bytes_chunk HT.out (q := ckList 2 l k) (fun e he => List.mem_of_mem_drop (List.mem_of_mem_take he)) (by simp [ckList]; omega)
      have hby := bytes_any B _ (ckList 2 l k) W hen (by simp [ckList]; omega)
      have hsz : (bytesL (ckList 2 l k).length (ckList 2 l k)).size ≤ 9223372036854775807 := by
        have hall := chkT_all (tabF_parts HT.out).2.2
        have h1 := bytesL_size (ckList 2 l k).length (ckList 2 l k) (fun e he => hall e (List.mem_of_mem_drop (List.mem_of_mem_take he)))
        have h2 : (ckList 2 l k).length ≤ 2 := by simp [ckList]; omega
        omega
      rw [hbc.1, hbc.2, show errV 0 = Value.nilIface from rfl] at hby
      generalize bytesL (ckList 2 l k).length (ckList 2 l k) = d at *
      have HNX := Lib.hid hnx
      generalize ckSt b l st0 pre = st at *
      have HBY := Lib.hid (hby.mono (R' := fun e w1 => e = .returned (.tuple #[.string d, .nilIface]) ∧ TwS B p b (.slice (some ⟨g, o, none⟩) l.length cp) l w w2.heap.size st.2 st.1 w1 ∧ Keep2 p w2.heap.size W w1) (fun e w1 ⟨h1, h2⟩ => ⟨h1, hT.below h2, .of_below h2⟩))
      have HWR := Lib.hid (fun (W' : World) (h : TwS B p b (.slice (some ⟨g, o, none⟩) l.length cp) l w w2.heap.size 0 st.1 W') => (cwrite_any B p st.1 b d W' h.rep hsz).mono (R' := fun e w2' => e = .returned (errV (st.1.write b d).2) ∧ TwS B p b (.slice (some ⟨g, o, none⟩) l.length cp) l w w2.heap.size 0 (st.1.write b d).1 w2' ∧ Keep2 p w2.heap.size W' w2') (fun e w2' ⟨h1, h2, h3⟩ => ⟨h1, h.chip h2 h3, .of_fr h3⟩))
      have HFIN : Hid (∀ W', TwS B p b (.slice (some ⟨g, o, none⟩) l.length cp) l w w2.heap.size (pStepW b st d).2 (pStepW b st d).1 W' → Keep2 p w2.heap.size W W' → KeepsOthers W W' ∧ KpC WL.heap.size (WL.heap.size + 1) W W' ∧ (TwS B p b (.slice (some ⟨g, o, none⟩) l.length cp) l w w2.heap.size (ckSt b l st0 (pre ++ [⟨k, hkx⟩])).2 (ckSt b l st0 (pre ++ [⟨k, hkx⟩])).1 W' ∧ WL.heap.size + 2 ≤ W'.heap.size)) := by
        intro W' h1 h2
        refine ⟨h2.others hpc hxc, ⟨h2.block _ (by omega) (by omega) (by omega), h2.block _ (by omega) (by omega) (by omega)⟩, ?_, Nat.le_trans hWs h2.size⟩
        rw [hnx]
        exact h1
      clear hen hpc hxc hnx hbc hby hT
      simp only [hm]
      by_cases hs0 : st.2 = 0
      · rw [hs0] at HBY
        have hps : pStepW b st d = st.1.write b d := if_pos hs0
        rw [hps] at HFIN
        generalize st.1.write b d = st' at *
        have hform := errV_form st'.2
        have HSTO : Hid (∀ x7 c W, TwS B p b (.slice (some ⟨g, o, none⟩) l.length cp) l w x7 0 c W → TwS B p b (.slice (some ⟨g, o, none⟩) l.length cp) l w x7 st'.2 c (W.setCell ⟨x7, 0, none⟩ (errV st'.2))) := fun x7 c W h => h.store st'.2
        obtain ⟨ev, hev⟩ : ∃ ev, errV st'.2 = ev := ⟨_, rfl⟩
        rw [hev] at HWR HSTO hform
        clear hev
        rcases hform with rfl | ⟨ek', rfl⟩
        all_goals
          gi_wp2_with (first
            | (refine ⟨trivial, ?_⟩; gi_at_call 96; refine (CallsIn.inRound l0 (callsIn_wide.2 HBY.out)).mono ?_; rintro e4 w4 ⟨rfl, ht4, hk4⟩; have HT4 := Lib.hid ht4; have HK4 := Lib.hid hk4; have q7 := ht4.b7.cell 0; simp at q7; rw [show errV 0 = Value.nilIface from rfl] at q7; have q0 := ht4.cells.1; have q1 := ht4.cells.2.1; clear ht4 hk4)
            | (refine ⟨trivial, ?_⟩; gi_at_call 46; refine (CallsIn.inRound l0 (callsIn_wide.2 (HWR.out _ HT4.out))).mono ?_; rintro e5 w5 ⟨rfl, ht5, hk5⟩; have HT5 := Lib.hid (HSTO.out _ _ _ ht5); have HK5 := Lib.hid (fun u => HK4.out.trans (hk5.trans (Keep2.set w5 u))); have r7 := ht5.b7.cell 0; have r8 := ht5.b7.frozen 0; simp at r7; clear ht5 hk5))
          exact HFIN.out _ HT5.out (HK5.out _)
      · have hps : pStepW b st d = st := if_neg hs0
        rw [hps] at HFIN
        have he : errV st.2 = .iface 39 (.int .i64 st.2) := by unfold errV; rw [if_neg hs0]
        have HE := Lib.hid he
        clear he
        gi_wp2_with (refine ⟨trivial, ?_⟩; gi_at_call 96; refine (CallsIn.inRound l0 (callsIn_wide.2 HBY.out)).mono ?_; rintro e4 w4 ⟨rfl, ht4, hk4⟩; have HT4 := Lib.hid ht4; have HK4 := Lib.hid hk4; have q7 := ht4.b7.cell 0; simp at q7; rw [HE.out] at q7; have q0 := ht4.cells.1; have q1 := ht4.cells.2.1; clear ht4 hk4)
        exact HFIN.out _ HT4.out HK4.out
    case done =>
      rintro D xs W hD ⟨k, hk, rfl⟩ ⟨hT, _⟩ hK
      have hend : ckSt b l st0 (ckUpto 2 l.length k) = tabWrite c b l := by
        rw [HTW.out]
        exact ckSt_all b l st0 hk
      rw [hend] at hT
      have q7 := hT.b7.cell 0
      have q6 := hT.b6.cell 0
      have q6f := hT.b6.frozen 0
      have q6l := hT.b6.lt
      simp at q7 q6
      obtain ⟨ev, hev⟩ : ∃ ev, errV (tabWrite c b l).2 = ev := ⟨_, rfl⟩
      have hform := errV_form (tabWrite c b l).2
      have HTD := Lib.hid (hT.last (D := D) (by omega) hK rfl)
      have HKD : Hid (∀ u, (W.setCell ⟨w.heap.size + 1 + 1, 0, none⟩ u).heap[D]? = some (.deferred (some []))) := fun u => (Below.heap_setCell _ _ _ _ (fun e => by
        have e : D = w.heap.size + 1 + 1 := e
        rw [e, show W.heap[w.heap.size + 1 + 1]? = some (.cells #[.nilIface] 25 (0, 0)) from hT.b6] at hK
        cases hK)).trans hK
      rw [hev] at hform q7
      have HEV2 := Lib.hid hev
      clear hend hK hT HTW hev
      rcases hform with rfl | ⟨ek', rfl⟩
      · have hc := (HTD.out .nilIface (.deferred none)).2.2
        go_wp2_with fail
        refine ⟨by simp, .inl ⟨_, _, rfl, run_takeDeferred (HKD.out _), ?_⟩⟩
        exact ⟨.nilIface, by simp [results, Tryz.results137, go_sem, hc], by rw [HEV2.out], (HTD.out _ _).1, (HTD.out _ _).2.1⟩
      · have hc := (HTD.out (.iface 39 (.int .i64 ek')) (.deferred none)).2.2
        go_wp2_with fail
        refine ⟨by simp, .inl ⟨_, _, rfl, run_takeDeferred (HKD.out _), ?_⟩⟩
        exact ⟨.iface 39 (.int .i64 ek'), by simp [results, Tryz.results137, go_sem, hc], by rw [HEV2.out], (HTD.out _ _).1, (HTD.out _ _).2.1⟩
    case stop =>
      rintro D c pre W _ _ h _
      exact h.elim
  · have hTL : TwS B p b (.slice (some ⟨g, o, none⟩) l.length cp) l w w2.heap.size st0.2 st0.1 ((WL.alloc (.cells #[(.slice (some ⟨g, o, none⟩) l.length cp)] 31)).alloc (.cells #[.int .i64 2] 3)) := (HTA.out.alloc _).alloc _
    have HTL := Lib.hid hTL
    have hsL : w.heap.size + 1 + 1 < WL.heap.size := by have := HTA.out.b7.lt; have := HTA.out.lt; omega
    have hsL2 : w2.heap.size < WL.heap.size := HTA.out.b7.lt
    have HBs : Blk ((WL.alloc (.cells #[(.slice (some ⟨g, o, none⟩) l.length cp)] 31)).alloc (.cells #[.int .i64 2] 3)) WL.heap.size 31 #[(.slice (some ⟨g, o, none⟩) l.length cp)] := (Blk.new WL _ _).alloc _
    have HBn : Blk ((WL.alloc (.cells #[(.slice (some ⟨g, o, none⟩) l.length cp)] 31)).alloc (.cells #[.int .i64 2] 3)) (WL.heap.size + 1) 3 #[.int .i64 (2 : Nat)] := by
      have := Blk.new (WL.alloc (.cells #[(.slice (some ⟨g, o, none⟩) l.length cp)] 31)) 3 #[.int .i64 2]
      simpa using this
    have hps : ((WL.alloc (.cells #[(.slice (some ⟨g, o, none⟩) l.length cp)] 31)).alloc (.cells #[.int .i64 2] 3)).heap.size = WL.heap.size + 2 := by simp
    generalize hWW : ((WL.alloc (.cells #[(.slice (some ⟨g, o, none⟩) l.length cp)] 31)).alloc (.cells #[.int .i64 2] 3)) = WW at *
    clear hWW hTL HCH HTA
    refine (wpIn_wide (n := 6)).1 ?_
    refine wpIn_rangeFunc_ownF (n := 6) rfl (by decide) (gf := 162) (lb := #[.pointer (some ⟨WL.heap.size, 0, none⟩), .pointer (some ⟨WL.heap.size + 1, 0, none⟩)]) rfl trivial (enters_of Tryz.func162 (by kernel_rfl) rfl)
      (chunk_stops 5 (by decide) WL.heap.size (WL.heap.size + 1) g o l.length cp 2 (some ⟨g, o, none⟩) (fun _ => rfl) (by decide) (by decide) (by omega) hc1 hc2 WW HBs HBn) kpc_t (fun W k o o' hk _ _ _ => kpc_b (Bs := WL.heap.size) (Bn := WL.heap.size + 1) W k o' (by omega) (by omega)) (Below.refl _ _) (fun _ => rfl)
      (fun pre W => TwS B p b (.slice (some ⟨g, o, none⟩) l.length cp) l w w2.heap.size (ckSt b l st0 pre).2 (ckSt b l st0 pre).1 W ∧ WL.heap.size + 2 ≤ W.heap.size) (fun _ _ _ => False)
      (fun s A' B' row hs hg hr => ⟨hs.1.grown hg hr (by omega), Nat.le_trans hs.2 hg.size⟩) (fun _ _ _ _ _ h _ _ => h) ⟨HTL.out, by omega⟩ ?a3 ?assign ?body ?done ?stop
    case assign =>
      intro l0 x W K hK
      simp only [ckVal]
      gi_wp2
      exact hK
    case body =>
      rintro l0 pre ⟨k, hkx⟩ W ⟨hT, hWs⟩ _
      obtain ⟨m, hm⟩ : ∃ m, min 2 (l.length - 2 * k) = m := ⟨_, rfl⟩
      have hen := ents_chunk (nn := 2) (k := k) hT.ents
      rw [hm] at hen
      have hpc : ∃ cs T fz, W.heap[p]? = some (.cells cs T fz) := by obtain ⟨V, u, hv, _⟩ := hT.rep; exact ⟨_, _, _, hv.blk⟩
      have hxc : ∃ cs T fz, W.heap[w2.heap.size]? = some (.cells cs T fz) := ⟨_, _, _, hT.b7⟩
      have HPC := Lib.hid hpc
      have HXC := Lib.hid hxc
      have hpw := hT.hp
      have hnx : ckSt b l st0 (pre ++ [⟨k, hkx⟩]) = pStepW b (ckSt b l st0 pre) (bytesL (ckList 2 l k).length (ckList 2 l k)) := by simp [ckSt]
      have hbc := bytes_chunk HT.out (q := ckList 2 l k) (fun e he => List.mem_of_mem_drop (List.mem_of_mem_take he)) (by simp [ckList]; omega)
      have hby := bytes_any B _ (ckList 2 l k) W hen (by simp [ckList]; omega)
      have hsz : (bytesL (ckList 2 l k).length (ckList 2 l k)).size ≤ 9223372036854775807 := by
        have hall := chkT_all (tabF_parts HT.out).2.2
        have h1 := bytesL_size (ckList 2 l k).length (ckList 2 l k) (fun e he => hall e (List.mem_of_mem_drop (List.mem_of_mem_take he)))
        have h2 : (ckList 2 l k).length ≤ 2 := by simp [ckList]; omega
        omega
      rw [hbc.1, hbc.2, show errV 0 = Value.nilIface from rfl] at hby
      generalize bytesL (ckList 2 l k).length (ckList 2 l k) = d at *
      have HNX := Lib.hid hnx
      generalize ckSt b l st0 pre = st at *
      have HBY := Lib.hid (hby.mono (R' := fun e w1 => e = .returned (.tuple #[.string d, .nilIface]) ∧ TwS B p b (.slice (some ⟨g, o, none⟩) l.length cp) l w w2.heap.size st.2 st.1 w1 ∧ Keep2 p w2.heap.size W w1) (fun e w1 ⟨h1, h2⟩ => ⟨h1, hT.below h2, .of_below h2⟩))
      have HWR := Lib.hid (fun (W' : World) (h : TwS B p b (.slice (some ⟨g, o, none⟩) l.length cp) l w w2.heap.size 0 st.1 W') => (cwrite_any B p st.1 b d W' h.rep hsz).mono (R' := fun e w2' => e = .returned (errV (st.1.write b d).2) ∧ TwS B p b (.slice (some ⟨g, o, none⟩) l.length cp) l w w2.heap.size 0 (st.1.write b d).1 w2' ∧ Keep2 p w2.heap.size W' w2') (fun e w2' ⟨h1, h2, h3⟩ => ⟨h1, h.chip h2 h3, .of_fr h3⟩))
      have HFIN : Hid (∀ W', TwS B p b (.slice (some ⟨g, o, none⟩) l.length cp) l w w2.heap.size (pStepW b st d).2 (pStepW b st d).1 W' → Keep2 p w2.heap.size W W' → KeepsOthers W W' ∧ KpC WL.heap.size (WL.heap.size + 1) W W' ∧ (TwS B p b (.slice (some ⟨g, o, none⟩) l.length cp) l w w2.heap.size (ckSt b l st0 (pre ++ [⟨k, hkx⟩])).2 (ckSt b l st0 (pre ++ [⟨k, hkx⟩])).1 W' ∧ WL.heap.size + 2 ≤ W'.heap.size)) := by
        intro W' h1 h2
        refine ⟨h2.others hpc hxc, ⟨h2.block _ (by omega) (by omega) (by omega), h2.block _ (by omega) (by omega) (by omega)⟩, ?_, Nat.le_trans hWs h2.size⟩
        rw [hnx]
        exact h1
      clear hen hpc hxc hnx hbc hby hT
      simp only [hm]
      by_cases hs0 : st.2 = 0
      · rw [hs0] at HBY
        have hps : pStepW b st d = st.1.write b d := if_pos hs0
        rw [hps] at HFIN
        generalize st.1.write b d = st' at *
        have hform := errV_form st'.2
        have HSTO : Hid (∀ x7 c W, TwS B p b (.slice (some ⟨g, o, none⟩) l.length cp) l w x7 0 c W → TwS B p b (.slice (some ⟨g, o, none⟩) l.length cp) l w x7 st'.2 c (W.setCell ⟨x7, 0, none⟩ (errV st'.2))) := fun x7 c W h => h.store st'.2
        obtain ⟨ev, hev⟩ : ∃ ev, errV st'.2 = ev := ⟨_, rfl⟩
        rw [hev] at HWR HSTO hform
        clear hev
        rcases hform with rfl | ⟨ek', rfl⟩
        all_goals
          gi_wp2_with (first
            | (refine ⟨trivial, ?_⟩; gi_at_call 96; refine (CallsIn.inRound l0 (callsIn_wide.2 HBY.out)).mono ?_; rintro e4 w4 ⟨rfl, ht4, hk4⟩; have HT4 := Lib.hid ht4; have HK4 := Lib.hid hk4; have q7 := ht4.b7.cell 0; simp at q7; rw [show errV 0 = Value.nilIface from rfl] at q7; have q0 := ht4.cells.1; have q1 := ht4.cells.2.1; clear ht4 hk4)
            | (refine ⟨trivial, ?_⟩; gi_at_call 46; refine (CallsIn.inRound l0 (callsIn_wide.2 (HWR.out _ HT4.out))).mono ?_; rintro e5 w5 ⟨rfl, ht5, hk5⟩; have HT5 := Lib.hid (HSTO.out _ _ _ ht5); have HK5 := Lib.hid (fun u => HK4.out.trans (hk5.trans (Keep2.set w5 u))); have r7 := ht5.b7.cell 0; have r8 := ht5.b7.frozen 0; simp at r7; clear ht5 hk5))
          exact HFIN.out _ HT5.out (HK5.out _)
      · have hps : pStepW b st d = st := if_neg hs0
        rw [hps] at HFIN
        have he : errV st.2 = .iface 39 (.int .i64 st.2) := by unfold errV; rw [if_neg hs0]
        have HE := Lib.hid he
        clear he
        gi_wp2_with (refine ⟨trivial, ?_⟩; gi_at_call 96; refine (CallsIn.inRound l0 (callsIn_wide.2 HBY.out)).mono ?_; rintro e4 w4 ⟨rfl, ht4, hk4⟩; have HT4 := Lib.hid ht4; have HK4 := Lib.hid hk4; have q7 := ht4.b7.cell 0; simp at q7; rw [HE.out] at q7; have q0 := ht4.cells.1; have q1 := ht4.cells.2.1; clear ht4 hk4)
        exact HFIN.out _ HT4.out HK4.out
    case done =>
      rintro D xs W hD ⟨k, hk, rfl⟩ ⟨hT, _⟩ hK
      have hend : ckSt b l st0 (ckUpto 2 l.length k) = tabWrite c b l := by
        rw [HTW.out]
        exact ckSt_all b l st0 hk
      rw [hend] at hT
      have q7 := hT.b7.cell 0
      have q6 := hT.b6.cell 0
      have q6f := hT.b6.frozen 0
      have q6l := hT.b6.lt
      simp at q7 q6
      obtain ⟨ev, hev⟩ : ∃ ev, errV (tabWrite c b l).2 = ev := ⟨_, rfl⟩
      have hform := errV_form (tabWrite c b l).2
      have HTD := Lib.hid (hT.last (D := D) (by omega) hK rfl)
      have HKD : Hid (∀ u, (W.setCell ⟨w.heap.size + 1 + 1, 0, none⟩ u).heap[D]? = some (.deferred (some []))) := fun u => (Below.heap_setCell _ _ _ _ (fun e => by
        have e : D = w.heap.size + 1 + 1 := e
        rw [e, show W.heap[w.heap.size + 1 + 1]? = some (.cells #[.nilIface] 25 (0, 0)) from hT.b6] at hK
        cases hK)).trans hK
      rw [hev] at hform q7
      have HEV2 := Lib.hid hev
      clear hend hK hT HTW hev
      rcases hform with rfl | ⟨ek', rfl⟩
      · have hc := (HTD.out .nilIface (.deferred none)).2.2
        go_wp2_with fail
        refine ⟨by simp, .inl ⟨_, _, rfl, run_takeDeferred (HKD.out _), ?_⟩⟩
        exact ⟨.nilIface, by simp [results, Tryz.results137, go_sem, hc], by rw [HEV2.out], (HTD.out _ _).1, (HTD.out _ _).2.1⟩
      · have hc := (HTD.out (.iface 39 (.int .i64 ek')) (.deferred none)).2.2
        go_wp2_with fail
        refine ⟨by simp, .inl ⟨_, _, rfl, run_takeDeferred (HKD.out _), ?_⟩⟩
        exact ⟨.iface 39 (.int .i64 ek'), by simp [results, Tryz.results137, go_sem, hc], by rw [HEV2.out], (HTD.out _ _).1, (HTD.out _ _).2.1⟩
    case stop =>
      rintro D c pre W _ _ h _
      exact h.elim
end Go.Proofs.YtaepdbkfaoiimabGreatDoor
/- Plain: what table.Write leaves. Conditions: none. -/
set_option linter.unusedVariables false
namespace Go.Proofs.YtaepdbkfaoiimabGreatDoor
open Go.RowKit

/-- From c to c' nothing has turned but block b's pages, and the fuse. -/
structure SameBut (b : Nat) (c c' : Chip) : Prop where
  other : ∀ i, i ≠ b → c'.b i = c.b i
  weak : (c'.b b).weak = (c.b b).weak
  bad : (c'.b b).bad = (c.b b).bad
theorem SameBut.refl (b : Nat) (c : Chip) : SameBut b c c := ⟨fun _ _ => rfl, rfl, rfl⟩
theorem SameBut.trans {b : Nat} {c c' c2 : Chip} (h : SameBut b c c') (k : SameBut b c' c2) : SameBut b c c2 := ⟨fun i hi => (k.other i hi).trans (h.other i hi), k.weak.trans h.weak, k.bad.trans h.bad⟩
theorem write_calm {c : Chip} {b : Nat} {d : ByteArray} (hb : b < 24) (hd : c.down = false) (hbad : (c.b b).bad = false) (hwk : (c.b b).weak = false) (hs : d.size ≤ 64) (hl : (c.b b).l.length < 8) :
    ∃ c' n, c.write b d = (c', n) ∧ SameBut b c c' ∧ (c.fuse < 0 → n = 0 ∧ c'.fuse < 0) ∧
      ((n = 0 ∧ c'.down = false ∧ c'.pend = c.pend ∧ (c'.b b).l = (c.b b).l ++ [⟨pad d, false⟩] ∧ (c'.b b).wear = (c.b b).wear) ∨ (n = 9 ∧ c'.down = true ∧ c'.pend = some (.wr b (pad d)) ∧ c'.b = c.b)) := by
  have hr : c.ready b = 0 := by unfold Chip.ready; rw [hd, if_neg (by simp), if_neg (by omega), Int.toNat_natCast, hbad]; simp
  unfold Chip.write
  rw [if_neg (by simp [hr]), if_neg (by omega), Int.toNat_natCast, if_neg (by omega), hwk, if_neg (by simp)]
  unfold Chip.step
  by_cases hf : c.fuse = 0
  · rw [if_pos hf]
    exact ⟨_, _, rfl, ⟨fun _ _ => rfl, rfl, rfl⟩, fun h => by omega, .inr ⟨rfl, rfl, rfl, rfl⟩⟩
  · rw [if_neg hf]
    refine ⟨_, _, rfl, ⟨fun i hi => ?_, ?_, ?_⟩, fun h => ⟨rfl, ?_⟩, .inl ⟨rfl, hd, rfl, ?_, ?_⟩⟩
    · simp [doP, Chip.set, hi]
    · simp [doP, Chip.set]
    · simp [doP, Chip.set]
    · show (if 0 < c.fuse then c.fuse - 1 else c.fuse) < 0
      rw [if_neg (by omega)]; exact h
    · simp [doP, Chip.set]
    · simp [doP, Chip.set]
theorem erase_calm {c : Chip} {b : Nat} (hb : b < 24) (hd : c.down = false) (hbad : (c.b b).bad = false) (hwk : (c.b b).weak = false) :
    ∃ c' n, c.erase b = (c', n) ∧ SameBut b c c' ∧ (c.fuse < 0 → n = 0 ∧ c'.fuse < 0) ∧
      ((n = 0 ∧ c'.down = false ∧ c'.pend = c.pend ∧ (c'.b b).l = [] ∧ (c'.b b).wear = wrap64 ((c.b b).wear + 1)) ∨ (n = 9 ∧ c'.down = true ∧ c'.pend = some (.er b) ∧ c'.b = c.b)) := by
  have hr : c.ready b = 0 := by unfold Chip.ready; rw [hd, if_neg (by simp), if_neg (by omega), Int.toNat_natCast, hbad]; simp
  unfold Chip.erase
  rw [if_neg (by simp [hr]), Int.toNat_natCast, hwk, if_neg (by simp)]
  unfold Chip.step
  by_cases hf : c.fuse = 0
  · rw [if_pos hf]
    exact ⟨_, _, rfl, ⟨fun _ _ => rfl, rfl, rfl⟩, fun h => by omega, .inr ⟨rfl, rfl, rfl, rfl⟩⟩
  · rw [if_neg hf]
    refine ⟨_, _, rfl, ⟨fun i hi => ?_, ?_, ?_⟩, fun h => ⟨rfl, ?_⟩, .inl ⟨rfl, hd, rfl, ?_, ?_⟩⟩
    · simp [doP, Chip.set, hi]
    · simp [doP, Chip.set]
    · simp [doP, Chip.set]
    · show (if 0 < c.fuse then c.fuse - 1 else c.fuse) < 0
      rw [if_neg (by omega)]; exact h
    · simp [doP, Chip.set]
    · simp [doP, Chip.set]
theorem fold_stuck {b : Int} {ds : List ByteArray} {st : Chip × Nat} (h : st.2 ≠ 0) : ds.foldl (pStepW b) st = st := by
  induction ds with
  | nil => rfl
  | cons d ds ih => rw [List.foldl_cons, show pStepW b st d = st from if_neg h]; exact ih
theorem fold_calm {b : Nat} (hb : b < 24) : ∀ (ds : List ByteArray) (c : Chip), c.down = false → (c.b b).bad = false → (c.b b).weak = false → (∀ d ∈ ds, d.size ≤ 64) → (c.b b).l.length + ds.length ≤ 8 →
    ∃ c' n, ds.foldl (pStepW b) (c, 0) = (c', n) ∧ SameBut b c c' ∧ (c.fuse < 0 → n = 0 ∧ c'.fuse < 0) ∧ (c'.b b).wear = (c.b b).wear ∧
      ((n = 0 ∧ c'.down = false ∧ c'.pend = c.pend ∧ (c'.b b).l = (c.b b).l ++ ds.map (fun d => ⟨pad d, false⟩)) ∨ (n = 9 ∧ c'.down = true ∧ ∃ d, c'.pend = some (.wr b d)))
  | [], c, hd, _, _, _, _ => ⟨c, 0, rfl, .refl _ _, fun h => ⟨rfl, h⟩, rfl, .inl ⟨rfl, hd, rfl, by simp⟩⟩
  | d :: ds, c, hd, hbad, hwk, hs, hl => by
    rw [List.length_cons] at hl
    obtain ⟨c1, n1, e1, s1, f1, h1⟩ := write_calm hb hd hbad hwk (hs d List.mem_cons_self) (by omega)
    have e2 : pStepW b (c, 0) d = (c1, n1) := by rw [pStepW, if_pos rfl]; exact e1
    rw [List.foldl_cons, e2]
    rcases h1 with ⟨rfl, d1, p1, l1, w1⟩ | ⟨rfl, d1, p1, b1⟩
    · obtain ⟨c2, n2, e3, s2, f2, w2, h2⟩ := fold_calm hb ds c1 d1 (s1.bad.trans hbad) (s1.weak.trans hwk) (fun x hx => hs x (List.mem_cons_of_mem _ hx)) (by rw [l1, List.length_append, List.length_singleton]; omega)
      refine ⟨c2, n2, e3, s1.trans s2, fun h => f2 (f1 h).2, w2.trans w1, ?_⟩
      rcases h2 with ⟨rfl, d2, p2, l2⟩ | h2
      · exact .inl ⟨rfl, d2, p2.trans p1, by rw [l2, l1]; simp⟩
      · exact .inr h2
    · rw [fold_stuck (by simp)]
      exact ⟨c1, 9, rfl, s1, fun h => absurd (f1 h).1 (by omega), by rw [b1], .inr ⟨rfl, d1, _, p1⟩⟩
theorem rawPages_size {l : List Ent} (h : tabF l = 0) : ∀ d ∈ rawPages l, d.size ≤ 64 := by
  intro d hd
  rcases List.mem_cons.1 hd with rfl | hd
  · rw [bitsB_size]; omega
  · obtain ⟨q, hq, rfl⟩ := List.mem_map.1 hd
    have hm := chunks2_mem hq
    have hall := chkT_all (tabF_parts h).2.2
    have := bytesL_size q.length q (fun e he => hall e (hm.2 e he))
    omega
/-- **What table.Write leaves**: the table; or the machine has fallen within that block. -/
theorem tabWrite_calm {c : Chip} {b : Nat} {l : List Ent} (hb : b < 24) (hd : c.down = false) (hbad : (c.b b).bad = false) (hwk : (c.b b).weak = false) (ht : tabF l = 0) :
    ∃ c' n, tabWrite c b l = (c', n) ∧ SameBut b c c' ∧ (c.fuse < 0 → n = 0 ∧ c'.fuse < 0) ∧
      ((n = 0 ∧ c'.down = false ∧ c'.pend = c.pend ∧ TabAt c' b l ∧ (c'.b b).wear = wrap64 ((c.b b).wear + 1)) ∨ (n = 9 ∧ c'.down = true ∧ ∃ p, c'.pend = some p ∧ p.blk = b)) := by
  obtain ⟨c1, n1, e1, s1, f1, h1⟩ := erase_calm hb hd hbad hwk
  unfold tabWrite
  rw [e1]
  rcases h1 with ⟨rfl, d1, p1, l1, w1⟩ | ⟨rfl, d1, p1, b1⟩
  · have hlen : (rawPages l).length ≤ 8 := by
      have := tabF_parts ht
      have := chunks2_len l
      simp [rawPages]
      omega
    obtain ⟨c2, n2, e3, s2, f2, w2, h2⟩ := fold_calm hb (rawPages l) c1 d1 (s1.bad.trans hbad) (s1.weak.trans hwk) (rawPages_size ht) (by rw [l1]; simpa using hlen)
    refine ⟨c2, n2, e3, s1.trans s2, fun h => f2 (f1 h).2, ?_⟩
    rcases h2 with ⟨rfl, d2, p2, l2⟩ | ⟨rfl, d2, x, p2⟩
    · exact .inl ⟨rfl, d2, p2.trans p1, ⟨by rw [l2, l1]; rfl, ht⟩, w2.trans w1⟩
    · exact .inr ⟨rfl, d2, _, p2, rfl⟩
  · rw [fold_stuck (by simp)]
    exact ⟨c1, 9, rfl, s1, fun h => absurd (f1 h).1 (by omega), .inr ⟨rfl, d1, _, p1, rfl⟩⟩
end Go.Proofs.YtaepdbkfaoiimabGreatDoor
