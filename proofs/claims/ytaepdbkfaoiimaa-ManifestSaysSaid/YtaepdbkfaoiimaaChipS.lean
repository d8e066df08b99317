/- A step of the chip, Write, Erase and Restart. Conditions: none but the sizes of any memory. -/
import Derived.Test.YtaepdbkfaoiimaaChipW
import Derived.Laws.EntriesVeiled
import Derived.Shelf.Abstract
import Derived.LoopN
set_option linter.unusedVariables false
set_option linter.unusedSimpArgs false
namespace Go.Proofs.Ytaepdbkfaoiimaa
open Go.RowKit

theorem hmf (fn : Fn) (first cap : Array Value) (w : World) : (Instr.makeFunc fn first cap).run Try.prog w = .ok (.func fn first cap) w := rfl
attribute [local go_sem] hmf
set_option maxHeartbeats 1000000 in
theorem step_fall (B p : Nat) (V : Nat → Value) (c : Chip) (u : Value) (F1 F2 : Nat) (k1 k2 : Array Value) (w : World) (hv : ChipV B w p V c u) (hf : c.fuse = 0) :
    Calls Try.prog 90 #[.pointer (some ⟨p, 0, none⟩), .func (.func F1) #[] k1, .func (.func F2) #[] k2] w fun e w' => e = .returned (errV 9) ∧ (∃ qh qd,
      ChipV B w' p V { c with down := true } (.func (.func 122) #[] #[.pointer (some ⟨qh, 0, none⟩), .pointer (some ⟨qd, 0, none⟩)]) ∧
      Blk w' qh 1 #[.func (.func F2) #[] k2] ∧ Blk w' qd 1 #[.func (.func F1) #[] k1]) ∧ Fr B (· = p) w w' := by
  have c1 := hv.tail.1
  have c2 := hv.tail.2.1
  have c3 := hv.tail.2.2
  rw [hf] at c1
  have z2 := hv.blk.frozen 97
  have z3 := hv.blk.frozen 98
  have HV := Lib.hid hv
  have HF := Lib.hid hf
  have hlt := hv.blk.lt
  clear hv hf
  go_enter Try.func90, Try.ntmps90
  go_wp2_with fail
  go_ret
  have v1 := HV.out.setT (c' := { c with down := true }) (u' := u) (j := 1) (by omega) rfl (x := .bool true) rfl
  have v2 := v1.setT (c' := { c with down := true }) (u' := .func (.func 122) #[] #[.pointer (some ⟨w.heap.size + 1, 0, none⟩), .pointer (some ⟨w.heap.size, 0, none⟩)]) (j := 2) (by omega) rfl rfl
  have f1 := fr_chip (fr_chip (Fr.refl B (· = p) w) HV.out 97 (.bool true) HV.out.mut) v1 98 (.func (.func 122) #[] #[.pointer (some ⟨w.heap.size + 1, 0, none⟩), .pointer (some ⟨w.heap.size, 0, none⟩)]) HV.out.mut
  generalize hw2 : (w.setCell ⟨p, 97, none⟩ (.bool true)).setCell ⟨p, 98, none⟩ (.func (.func 122) #[] #[.pointer (some ⟨w.heap.size + 1, 0, none⟩), .pointer (some ⟨w.heap.size, 0, none⟩)]) = w2 at *
  have hsz : w2.heap.size = w.heap.size := by rw [← hw2]; simp [World.setCell]
  have q1 := (Blk.new w2 1 #[.func (.func F1) #[] k1]).alloc (.cells #[.func (.func F2) #[] k2] 1)
  have q2 := Blk.new (w2.alloc (.cells #[.func (.func F1) #[] k1] 1)) 1 #[.func (.func F2) #[] k2]
  rw [World.size_alloc, hsz] at q2
  rw [hsz] at q1
  exact ⟨rfl, ⟨_, _, v2.below (((Below.refl _ _).alloc (Nat.le_refl _) _).alloc (by simp) _), q2, q1⟩, (f1.alloc _).alloc _⟩
set_option maxRecDepth 20000 in
set_option maxHeartbeats 1000000 in
theorem step_go (B p : Nat) (V : Nat → Value) (c : Chip) (u : Value) (F1 F2 : Nat) (k1 k2 : Array Value) (w : World) (R : World → Prop) (hE : ∀ (args : Array Value) (w : World), (callFunc F1 args).run Try.prog w = .ok (.enter F1 args) w) (hv : ChipV B w p V c u) (hf : c.fuse ≠ 0) (hf1 : -1 ≤ c.fuse) (hf2 : c.fuse ≤ 9223372036854775807)
    (hd : ∀ w1, ChipV B w1 p V { c with fuse := if 0 < c.fuse then c.fuse - 1 else c.fuse } u → Fr B (· = p) w w1 → Calls Try.prog F1 k1 w1 fun e w2 => e = .returned (.tuple #[]) ∧ R w2 ∧ Fr B (· = p) w1 w2) :
    Calls Try.prog 90 #[.pointer (some ⟨p, 0, none⟩), .func (.func F1) #[] k1, .func (.func F2) #[] k2] w fun e w' => e = .returned (errV 0) ∧ R w' ∧ Fr B (· = p) w w' := by
  have c1 := hv.tail.1
  have c2 := hv.tail.2.1
  have c3 := hv.tail.2.2
  have z2 := hv.blk.frozen 96
  have HV := Lib.hid hv
  have HD := Lib.hid hd
  have hlt := hv.blk.lt
  clear hv hd
  have t1 : (c.fuse == 0) = false := by simpa using hf
  by_cases hp : 0 < c.fuse
  · clear hf
    go_enter Try.func90, Try.ntmps90
    go_wp2_with fail
    have e1 : (if 0 < c.fuse then c.fuse - 1 else c.fuse) = c.fuse - 1 := if_pos hp
    have v1 := HV.out.setT (c' := { c with fuse := c.fuse - 1 }) (u' := u) (j := 0) (by omega) rfl (x := .int .i64 (c.fuse - 1)) rfl
    have f1 := fr_chip (Fr.refl B (· = p) w) HV.out 96 (.int .i64 (c.fuse - 1)) HV.out.mut
    have hsz : (w.setCell ⟨p, 96, none⟩ (.int .i64 (c.fuse - 1))).heap.size = w.heap.size := by simp [World.setCell]
    have hb1 : Below (w.setCell ⟨p, 96, none⟩ (.int .i64 (c.fuse - 1))).heap.size (w.setCell ⟨p, 96, none⟩ (.int .i64 (c.fuse - 1))) (((w.setCell ⟨p, 96, none⟩ (.int .i64 (c.fuse - 1))).alloc (.cells #[.func (.func F1) #[] k1] 1)).alloc (.cells #[.func (.func F2) #[] k2] 1)) :=
      ((Below.refl _ _).alloc (Nat.le_refl _) _).alloc (by simp) _
    have hd := HD.out _ (by rw [e1]; exact v1.below hb1) ((f1.alloc _).alloc _)
    have f2 := (f1.alloc (.cells #[.func (.func F1) #[] k1] 1)).alloc (.cells #[.func (.func F2) #[] k2] 1)
    clear e1 v1 f1 hsz hb1 HD HV
    have HDD := Lib.hid hd
    have HF2 := Lib.hid f2
    clear hd f2
    refine HDD.out.mono ?_
    rintro e w2 ⟨rfl, hR, hf2⟩
    have HRR := Lib.hid hR
    have HFF := Lib.hid (HF2.out.trans hf2 (fun _ _ => trivial))
    clear hR hf2 HDD HF2 hE
    go_wp2_with fail
    go_ret
    exact ⟨rfl, HRR.out, HFF.out⟩
  · have t2 : decide (0 < c.fuse) = false := by simpa using hp
    have e1 : (if 0 < c.fuse then c.fuse - 1 else c.fuse) = c.fuse := if_neg hp
    have E1 := Lib.hid e1
    clear hf e1
    go_enter Try.func90, Try.ntmps90
    go_wp2_with fail
    have hb1 : Below w.heap.size w ((w.alloc (.cells #[.func (.func F1) #[] k1] 1)).alloc (.cells #[.func (.func F2) #[] k2] 1)) :=
      ((Below.refl _ _).alloc (Nat.le_refl _) _).alloc (by simp) _
    have hd := HD.out _ (by rw [E1.out]; exact HV.out.below hb1) (Fr.of_below hb1)
    have f2 : Fr B (· = p) w ((w.alloc (.cells #[.func (.func F1) #[] k1] 1)).alloc (.cells #[.func (.func F2) #[] k2] 1)) := Fr.of_below hb1
    clear hb1 HD HV
    have HDD := Lib.hid hd
    have HF2 := Lib.hid f2
    clear hd f2
    refine HDD.out.mono ?_
    rintro e w2 ⟨rfl, hR, hf2⟩
    have HRR := Lib.hid hR
    have HFF := Lib.hid (HF2.out.trans hf2 (fun _ _ => trivial))
    clear hR hf2 HDD HF2 hE
    go_wp2_with fail
    go_ret
    exact ⟨rfl, HRR.out, HFF.out⟩
/-- The cells of block n, erased. -/
theorem ChipV.clear {B : Nat} {w : World} {p : Nat} {V : Nat → Value} {c : Chip} {u : Value} (h : ChipV B w p V c u) {n : Nat} (hn : n < 24) {v : Value} (l : List Sheet) (x : Int)
    (hr : Rd B 150 2 w v l.length (sheetL l)) :
    ChipV B ((w.setCell ⟨p, n * 4, none⟩ v).setCell ⟨p, n * 4 + 1, none⟩ (.int .i64 x)) p (fun i => if i = n then v else V i) (c.set n { c.b n with l := l, wear := x }) u := by
  have h1 : ChipV B (w.setCell ⟨p, n * 4, none⟩ v) p (fun i => if i = n then v else V i) (c.set n { c.b n with l := l }) u := by
    refine h.set_ (b := n) (j := 0) hn (by omega) (fun i hi hne => ?_) ?_ ⟨rfl, rfl⟩ (fun i hi => ?_)
    · simp only [blkL]; rw [Chip.set_far _ _ hne, if_neg hne]
    · simp [blkL]
    · by_cases e : i = n
      · subst e
        rw [Chip.set_same, if_pos rfl]
        exact hr
      · rw [Chip.set_far _ _ e, if_neg e]
        exact h.rows i hi
  refine h1.set_ (b := n) (j := 1) hn (by omega) (fun i hi hne => ?_) ?_ ⟨rfl, rfl⟩ (fun i hi => ?_)
  · simp only [blkL]; rw [Chip.set_far _ _ hne, Chip.set_far _ _ hne]
  · simp [blkL]
  · have := h1.rows i hi
    by_cases e : i = n
    · subst e
      rw [Chip.set_same] at this ⊢
      exact this
    · rw [Chip.set_far _ _ e] at this ⊢
      exact this
set_option maxHeartbeats 1000000 in
theorem erase1_any (B p n bx : Nat) (V : Nat → Value) (c : Chip) (u : Value) (w : World) (hv : ChipV B w p V c u) (hn : n < 24) (h1 : Blk w bx 146 #[.pointer (some ⟨p, n * 4, none⟩)]) :
    Calls Try.prog 95 #[.pointer (some ⟨bx, 0, none⟩)] w fun e w' =>
      e = .returned (.tuple #[]) ∧ (∃ V', ChipV B w' p V' (doP c (.er n)) u) ∧ Fr B (· = p) w w' := by
  have c1 := (hv.cell hn).1
  have c2 := (hv.cell hn).2.1
  have x1 := h1.cell 0
  simp at x1
  have z1 := hv.blk.frozen (n * 4)
  have z2 := hv.blk.frozen (n * 4 + 1)
  have ne : ¬ p = bx := fun e => by rw [← e] at h1; exact blk_ne hv.blk h1 (by decide)
  have HV := Lib.hid hv
  clear hv h1
  go_enter Try.func95, Try.ntmps95
  go_wp2_with fail
  go_end0
  refine ⟨rfl, ⟨_, HV.out.clear hn [] (wrap64 ((c.b n).wear + 1)) (Rd.nil _ _ _ _)⟩, ?_⟩
  have v1 := HV.out.clear hn [] (wrap64 ((c.b n).wear + 1)) (Rd.nil _ _ _ _)
  exact (fr_chip (Fr.refl B (· = p) w) HV.out _ _ HV.out.mut).setCell HV.out.base (.inl rfl) HV.out.mut _
/-- n blank pages, and k of them torn. -/
def zeroPages (n : Nat) : List Value := sheetL (List.replicate n ⟨⟨#[]⟩, false⟩)
def tornPages (k n : Nat) : List Value := sheetL (List.replicate k torn ++ List.replicate n ⟨⟨#[]⟩, false⟩)
theorem sheetL_append (a b : List Sheet) : sheetL (a ++ b) = sheetL a ++ sheetL b := by simp [sheetL]
theorem tornPages_at (k n : Nat) : (tornPages k (n + 1))[k * 2 + 1]? = some (.bool false) := by
  unfold tornPages
  rw [sheetL_append, List.getElem?_append_right (by rw [sheetL_len]; simp), sheetL_len]
  simp [List.replicate_succ, sheetL]
theorem tornPages_set (k n : Nat) : (tornPages k (n + 1)).set (k * 2 + 1) (.bool true) = tornPages (k + 1) n := by
  unfold tornPages
  rw [sheetL_append, List.set_append_right _ _ (by rw [sheetL_len]; simp), sheetL_len]
  have e : List.replicate (k + 1) torn = List.replicate k torn ++ [torn] := by rw [List.replicate_succ']
  rw [e, sheetL_append, sheetL_append, List.append_assoc]
  have e2 : k * 2 + 1 - (List.replicate k torn).length * 2 = 1 := by simp
  rw [e2, List.replicate_succ]
  rfl
set_option maxRecDepth 20000 in
set_option maxHeartbeats 4000000 in
theorem erase2_any (B p n bx : Nat) (V : Nat → Value) (c : Chip) (u : Value) (w : World) (hv : ChipV B w p V c u) (hn : n < 24) (h1 : Blk w bx 146 #[.pointer (some ⟨p, n * 4, none⟩)]) :
    Calls Try.prog 96 #[.pointer (some ⟨bx, 0, none⟩)] w fun e w' =>
      e = .returned (.tuple #[]) ∧ (∃ V', ChipV B w' p V' (halfP c (.er n)) u) ∧ Fr B (· = p) w w' := by
  have c1 := (hv.cell hn).1
  have c2 := (hv.cell hn).2.1
  have x1 := h1.cell 0
  simp at x1
  have z1 := hv.blk.frozen (n * 4)
  have z2 := hv.blk.frozen (n * 4 + 1)
  have ne : ¬ p = bx := fun e => by rw [← e] at h1; exact blk_ne hv.blk h1 (by decide)
  have HV := Lib.hid hv
  clear hv h1
  have hmk : ∀ w : World, (Instr.makeSlice 140 (.int .i64 8) (.int .i64 8)).run Try.prog w = .ok (.slice (some ⟨w.heap.size, 0, none⟩) 8 8) (w.alloc (.cells (zeroPages 8).toArray 150)) := fun _ => by kernel_rfl
  go_enter Try.func96, Try.ntmps96
  go_wp2_with fail
  go_loopw [6] (fun i wr => ∃ k : Nat, k ≤ 8 ∧ i = .int .i64 k ∧ Hid (Blk wr w.heap.size 150 (tornPages k (8 - k)).toArray) ∧ Below w.heap.size w wr) (fun i _ => 8 - (intOf i).toNat)
  case atStart => exact ⟨0, by omega, rfl, Blk.new w _ _, (Below.refl _ _).alloc (Nat.le_refl _) _⟩
  case round =>
    obtain ⟨k, hk, rfl, hblk, hbl⟩ := hrel
    by_cases hlt : k < 8
    · obtain ⟨m, hm⟩ : ∃ m, 8 - k = m + 1 := ⟨7 - k, by omega⟩
      have hm2 : 8 - (k + 1) = m := by omega
      rw [hm] at hblk
      have q1 := hblk.out.cell (k * 2 + 1)
      rw [List.getElem?_toArray, tornPages_at] at q1
      have q2 := hblk.out.frozen (k * 2 + 1)
      have g1 : (0 : Int) ≤ (k : Int) := by omega
      have g2 : (k : Int) < 8 := by omega
      have HM := Lib.hid hm2
      clear hm hm2
      go_wp2_with fail
      go_roundw
      case rel =>
        refine ⟨k + 1, by omega, by go_num, ?_, hbl.setCell (p := ⟨w.heap.size, k * 2 + 1, none⟩) (Nat.le_refl _) _⟩
        have := hblk.out.set_ (k * 2 + 1) (.bool true)
        rw [List.setIfInBounds_toArray, tornPages_set] at this
        rw [HM.out]
        exact this
      case measure => simp [intOf] <;> omega
    · have hk8 : k = 8 := by omega
      subst hk8
      have d1 := (hbl.cell (p := ⟨p, n * 4, none⟩) HV.out.blk.lt).trans c1
      have d2 := (hbl.cell (p := ⟨p, n * 4 + 1, none⟩) HV.out.blk.lt).trans c2
      have d3 := (hbl.cell (p := ⟨bx, 0, none⟩) (cell_lt x1)).trans x1
      have y1 := (hbl.frozen (p := ⟨p, n * 4, none⟩) HV.out.blk.lt).trans z1
      have y2 := (hbl.frozen (p := ⟨p, n * 4 + 1, none⟩) HV.out.blk.lt).trans z2
      clear c1 c2 x1 z1 z2 hmk
      go_wp2_with fail
      go_end0
      have hv1 := HV.out.below hbl
      have hr : Rd B 150 2 wr (.slice (some ⟨w.heap.size, 0, none⟩) 8 8) (List.replicate 8 torn).length (sheetL (List.replicate 8 torn)) := by
        refine ⟨sheetL_len _, _, 8, rfl, by simp, by omega, fun _ => ⟨w.heap.size, 0, rfl, .inr ⟨_, _, hblk.out⟩, hblk.out.lt, fun j v hj => ?_⟩⟩
        rw [hblk.out.cell, Nat.zero_add, List.getElem?_toArray]
        exact hj
      have hv2 := hv1.clear hn (List.replicate 8 torn) (wrap64 ((c.b n).wear + 1)) hr
      exact ⟨rfl, ⟨_, hv2⟩, (fr_chip (Fr.of_below hbl) hv1 _ _ HV.out.mut).setCell HV.out.base (.inl rfl) HV.out.mut _⟩
end Go.Proofs.Ytaepdbkfaoiimaa
