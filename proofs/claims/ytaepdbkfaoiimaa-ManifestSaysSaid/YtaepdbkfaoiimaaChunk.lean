/- slices.Chunk of entries: its closure's contract, for every body of a loop. Conditions: the step is above nought. -/
import Derived.RangeFuncNested
import Derived.RangeFuncBound
import Derived.RangeFuncCalls
import Derived.RangeFuncLeaves
import Derived.Shelf.Abstract
import Derived.Shelf.RegionOpen
import Derived.WalkKit
import Derived.OwnWalkIn
import Derived.TacticsInMore
import Derived.LoopNIn
import Derived.LoopIn
import Derived.Test.YtaepdbkfaoiimaaBase
import Derived.Test.YtaepdbkfaoiimaaTab
set_option linter.unusedVariables false
set_option linter.unusedSimpArgs false
namespace Go.Proofs.Ytaepdbkfaoiimaa
open Go.RowKit Go.Shelf
attribute [local go_sem] Oper.semAt_some

/-- A chunk's number. -/
abbrev Ck (nn len : Nat) := { k : Nat // nn * k < len }
def ckUpto (nn len k : Nat) : List (Ck nn len) := (List.range k).filterMap fun j => if h : nn * j < len then some ⟨j, h⟩ else none
theorem ckUpto_succ {nn len k : Nat} (h : nn * k < len) : ckUpto nn len (k + 1) = ckUpto nn len k ++ [⟨k, h⟩] := by
  simp [ckUpto, List.range_succ, h]
theorem ckUpto_le (nn len k : Nat) : (ckUpto nn len k).length ≤ k := by
  have := List.length_filterMap_le (fun j => if h : nn * j < len then some (⟨j, h⟩ : Ck nn len) else none) (List.range k)
  simpa [ckUpto] using this
def ckVal (nn len g o : Nat) (k : Ck nn len) : Array Value := #[.slice (some ⟨g, o + nn * k.1 * 3, none⟩) (min nn (len - nn * k.1)) (min nn (len - nn * k.1))]
def KpC (Bs Bn : Nat) (W W' : World) : Prop := W'.heap[Bs]? = W.heap[Bs]? ∧ W'.heap[Bn]? = W.heap[Bn]?
theorem blk_of_heap {w w' : World} {b T : Nat} {cs : Array Value} (h : Blk w b T cs) (e : w'.heap[b]? = w.heap[b]?) : Blk w' b T cs := e.trans h

set_option maxRecDepth 100000 in
set_option maxHeartbeats 2000000 in
theorem chunk1_in (n : Nat) (hn : 1 ≤ n) (l Bs Bn g o len cap nn : Nat) (A : Option Addr) (hA : 0 < len → A = some ⟨g, o, none⟩) (hn0 : 0 < nn) (hn1 : nn ≤ 1000000) (hl1 : len ≤ 1000000) (hcap : len ≤ cap) (hcap2 : cap ≤ 9223372036854775807) (J Jx : List (Ck nn len) → World → Prop)
    (hY : ∀ pre x W, J pre W → pre.length < len → YieldAt Fence.wide (n - 1) Try.prog l (ckVal nn len g o x) W fun e W' =>
      (e = .returned (.bool true) ∧ J (pre ++ [x]) W' ∧ KpC Bs Bn W W') ∨ (e = .returned (.bool false) ∧ Jx (pre ++ [x]) W'))
    (hJd : ∀ pre W k, J pre W → J pre (W.drewN k))
    (W : World) (hBs : Blk W Bs 32 #[.slice A len cap]) (hBn : Blk W Bn 3 #[.int .i64 nn]) (h0 : J [] W) :
    CallsIn Fence.wide n Try.prog 138 #[.func (.yield l) #[] #[], .pointer (some ⟨Bs, 0, none⟩), .pointer (some ⟨Bn, 0, none⟩)] W fun e W' => (∃ v, e = .returned v) ∧
      ((∃ ys, (∃ k, len ≤ nn * k ∧ ys = ckUpto nn len k) ∧ J ys W') ∨ (∃ pre, (∃ k, pre = ckUpto nn len k) ∧ Jx pre W')) := by
  refine callsIn_of_wp Try.func138 rfl trivial ?_ rfl
  simp only [Try.ntmps138, List.size_toArray, List.length_cons, List.length_nil, Nat.reduceAdd, Nat.reduceSub, Array.replicate_succ, Array.replicate_zero, List.push_toArray, List.append_toArray, List.nil_append, List.cons_append]
  gi_wp2
  gi_loopw [4] (fun i wr => ∃ k m : Nat, nn * k = m ∧ i = .int .i64 (m : Int) ∧ (0 < k → nn * (k - 1) < len) ∧ J (ckUpto nn len k) wr ∧ Blk wr Bs 32 #[.slice A len cap] ∧ Blk wr Bn 3 #[.int .i64 nn])
    (fun i _ => len + nn - (intOf i).toNat)
  case atStart => exact ⟨0, 0, by simp, rfl, by omega, h0, hBs, hBn⟩
  case round =>
    obtain ⟨k, m, hkm, rfl, hk, hJs, hbs, hbn⟩ := hrel
    have q0 := hbs.cell 0
    have q1 := hbn.cell 0
    simp at q0 q1
    by_cases hlt : m < len
    · obtain rfl := hA (by omega)
      have t1 : decide ((m : Int) < ((len : Nat) : Int)) = true := decide_eq_true (by omega)
      have s0 : (0 : Int) ≤ (m : Int) := by omega
      have s1 : (m : Int) ≤ (len : Int) := by omega
      have s2 : (len : Int) ≤ (cap : Int) := by omega
      gi_wp2
      refine wpIn_wide.2 ?_
      go_quiet (fail)
      have hJ2 := hJd _ _ nq hJs
      obtain ⟨e, hee⟩ : ∃ e : Nat, min nn (len - m) = e := ⟨_, rfl⟩
      have he1 : 1 ≤ e := by omega
      have he2 : e ≤ len - m := by omega
      rw [show min (nn : Int) ((len - m : Nat) : Int) = (e : Int) from by omega]
      have r1 : (m : Int) ≤ (m : Int) + (e : Int) := by omega
      have r2 : (m : Int) + (e : Int) ≤ (cap : Int) := by omega
      have r0 : (0 : Int) ≤ (m : Int) + (e : Int) := by omega
      have r3 : ((m : Int) + (e : Int)).toNat = m + e := by omega
      have r4 : m + e - m = e := by omega
      have q0' : (wr.drewN nq).cell? ⟨Bs, 0, none⟩ = some (.slice (some ⟨g, o, none⟩) len cap) := q0
      have q1' : (wr.drewN nq).cell? ⟨Bn, 0, none⟩ = some (.int .i64 nn) := q1
      have hmk : nn * k < len := by omega
      have hln : (ckUpto nn len k).length < len := by
        have h1 := ckUpto_le nn len k
        have h2 : k ≤ nn * k := Nat.le_mul_of_pos_left k hn0
        omega
      obtain ⟨fn, tmps, assign, body, hy, hR⟩ := hY _ ⟨k, hmk⟩ _ hJ2 hln
      have hval : ckVal nn len g o ⟨k, hmk⟩ = #[.slice (some ⟨g, o + m * 3, none⟩) e e] := by
        unfold ckVal
        simp only [hkm, hee]
      rw [hval] at hy
      gi_wp2
      refine hR.mono ?_
      rintro e2 W3 (⟨rfl, hJ3, hk3⟩ | ⟨rfl, hJx3⟩)
      · have hbs3 := blk_of_heap (w := wr.drewN nq) (w' := W3) hbs hk3.1
        have hbn3 := blk_of_heap (w := wr.drewN nq) (w' := W3) hbn hk3.2
        have q2 := hbn3.cell 0
        simp at q2
        gi_wp2
        go_roundw
        case rel => exact ⟨k + 1, m + nn, by rw [Nat.mul_add, hkm, Nat.mul_one], by go_num, fun _ => hmk, by rw [ckUpto_succ hmk]; exact hJ3, hbs3, hbn3⟩
        case measure => simp [intOf] <;> omega
      · gi_wp2
        refine bodyPost_ret (results_none rfl _ _ _) rfl ?_
        exact ⟨⟨_, rfl⟩, .inr ⟨_, ⟨k + 1, rfl⟩, by rw [ckUpto_succ hmk]; exact hJx3⟩⟩
    · have t1 : decide ((m : Int) < ((len : Nat) : Int)) = false := decide_eq_false (by omega)
      gi_wp2
      go_end0
      exact ⟨⟨_, rfl⟩, .inl ⟨_, ⟨k, by omega, rfl⟩, hJs⟩⟩
theorem chunk_stops (n : Nat) (hn : 1 ≤ n) (Bs Bn g o len cap nn : Nat) (A : Option Addr) (hA : 0 < len → A = some ⟨g, o, none⟩) (hn0 : 0 < nn) (hn1 : nn ≤ 1000000) (hl1 : len ≤ 1000000) (hcap : len ≤ cap) (hcap2 : cap ≤ 9223372036854775807)
    (w : World) (hBs : Blk w Bs 32 #[.slice A len cap]) (hBn : Blk w Bn 3 #[.int .i64 nn]) :
    SeqStopsK Fence.wide n Try.prog 138 #[.pointer (some ⟨Bs, 0, none⟩), .pointer (some ⟨Bn, 0, none⟩)] (ckVal nn len g o) (KpC Bs Bn)
      (fun ys => ∃ k, len ≤ nn * k ∧ ys = ckUpto nn len k) (fun pre => ∃ k, pre = ckUpto nn len k) len w := fun l J Jx W hW hJ hJx hY h0 =>
  chunk1_in n hn l Bs Bn g o len cap nn A hA hn0 hn1 hl1 hcap hcap2 J Jx hY (fun pre W k h => hJ pre W (W.drewN k) none h ⟨rfl, rfl, rfl, Nat.le_refl _, fun _ _ _ => rfl⟩ (fun r e => by cases e)) W (hBs.below hW hBs.lt) (hBn.below hW hBn.lt) h0
theorem chunk_any (A : Option Addr) (len cap : Nat) (nn : Nat) (hn0 : 0 < nn) (w : World) :
    Calls Try.prog 127 #[.slice A len cap, .int .i64 nn] w fun e w' => e = .returned (.func (.func 138) #[] #[.pointer (some ⟨w.heap.size, 0, none⟩), .pointer (some ⟨w.heap.size + 1, 0, none⟩)]) ∧
      w' = (w.alloc (.cells #[.slice A len cap] 32)).alloc (.cells #[.int .i64 nn] 3) := by
  have t1 : decide ((nn : Int) < 1) = false := decide_eq_false (by omega)
  go_enter Try.func127, Try.ntmps127
  go_wp2_with fail
  go_ret
  exact ⟨rfl, rfl⟩
/-- What a chunk has. -/
def ckList (nn : Nat) (l : List Ent) (k : Nat) : List Ent := (l.drop (nn * k)).take nn
end Go.Proofs.Ytaepdbkfaoiimaa
