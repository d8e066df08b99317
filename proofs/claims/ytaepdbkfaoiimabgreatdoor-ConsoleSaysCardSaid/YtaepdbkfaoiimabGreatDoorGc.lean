/- Several texts of this proof, one behind the other: walks and plain laws that the statement rests on. Conditions: none but those that each lemma names. -/
import Derived.Test.YtaepdbkfaoiimabGreatDoorGa
import Derived.Test.YtaepdbkfaoiimabGreatDoorShelf
import Derived.Lib.AppendZeros
import Derived.LoopN
import Derived.Deep.RegionHeld3
import Derived.Deep.DeepCutAuto
/- The plain model of a manifest: what is wrong with it, its bytes, the one of a page. Conditions: none. -/
set_option linter.unusedVariables false
set_option linter.unusedSimpArgs false
namespace Go.Proofs.YtaepdbkfaoiimabGreatDoor
open Go.RowKit

structure Man where
  ep : Int
  log : Int
  nw : List Int
  od : List Int
def Man.zero : Man := ⟨0, 0, [], []⟩
def Man.all (m : Man) : List Int := m.log :: (m.nw ++ m.od)
/-- What is wrong with blocks, those ahead of them seen. -/
def chk (seen : List Int) : List Int → Nat
  | [] => 0
  | b :: l => if b < 2 ∨ 24 ≤ b then 1 else if seen.contains b then 3 else chk (seen ++ [b]) l
def Man.fault (m : Man) : Nat := if m.ep < 1 ∨ 100000 < m.ep then 1 else chk [] m.all
def Man.bytes (m : Man) : ByteArray := strOfNums ([77, m.ep % 256, m.ep / 256 % 256, m.ep / 65536, m.log % 256, (m.nw.length : Int) % 256, (m.od.length : Int) % 256] ++ (m.nw ++ m.od).map (· % 256))
def manAt (s : ByteArray) : Man :=
  ⟨bt s 1 + 256 * bt s 2 + 65536 * bt s 3, bt s 4, (List.range (bt s 5)).map (fun i => (bt s (7 + i) : Int)), (List.range (bt s 6)).map (fun i => (bt s (7 + bt s 5 + i) : Int))⟩
/-- The manifest of a page. -/
def manOf (s : ByteArray) : Option Man :=
  if s.size < 7 ∨ bt s 0 ≠ 77 ∨ s.size < 7 + bt s 5 + bt s 6 then none else if (manAt s).fault = 0 then some (manAt s) else none

theorem chk_zero : ∀ {l seen : List Int}, seen.Nodup → (chk seen l = 0 ↔ (∀ b ∈ l, 2 ≤ b ∧ b < 24) ∧ (seen ++ l).Nodup)
  | [], seen, hs => by simp [chk, hs]
  | b :: l, seen, hs => by
    unfold chk
    split
    · rename_i hb
      constructor
      · intro h; cases h
      · rintro ⟨h, _⟩; have := h b (by simp); omega
    · rename_i hb
      split
      · rename_i hm
        have hm' : b ∈ seen := by simpa using hm
        constructor
        · intro h; cases h
        · rintro ⟨_, h⟩
          rw [List.nodup_append] at h
          exact absurd rfl (h.2.2 b hm' b (by simp))
      · rename_i hm
        have hm' : b ∉ seen := by simpa using hm
        have hs' : (seen ++ [b]).Nodup := by
          rw [List.nodup_append]
          refine ⟨hs, by simp, fun x hx y hy e => ?_⟩
          simp at hy
          subst hy; subst e
          exact hm' hx
        rw [chk_zero hs', List.append_assoc, List.singleton_append]
        constructor
        · rintro ⟨h1, h2⟩
          refine ⟨fun x hx => ?_, h2⟩
          rcases List.mem_cons.1 hx with rfl | hx
          · omega
          · exact h1 x hx
        · rintro ⟨h1, h2⟩
          exact ⟨fun x hx => h1 x (List.mem_cons_of_mem _ hx), h2⟩
theorem fault_zero {m : Man} : m.fault = 0 ↔ 1 ≤ m.ep ∧ m.ep ≤ 100000 ∧ (∀ b ∈ m.all, 2 ≤ b ∧ b < 24) ∧ m.all.Nodup := by
  unfold Man.fault
  split
  · rename_i h
    constructor
    · intro h'; cases h'
    · rintro ⟨h1, h2, _⟩; omega
  · rename_i h
    rw [chk_zero List.nodup_nil, List.nil_append]
    constructor
    · rintro ⟨h1, h2⟩; exact ⟨by omega, by omega, h1, h2⟩
    · rintro ⟨_, _, h1, h2⟩; exact ⟨h1, h2⟩
theorem chk_le : ∀ (l seen : List Int), chk seen l ≤ 3
  | [], _ => by simp [chk]
  | b :: l, seen => by unfold chk; split <;> (try split) <;> first | omega | exact chk_le l _
theorem fault_le (m : Man) : m.fault ≤ 3 := by unfold Man.fault; split <;> first | omega | exact chk_le _ _
/-- At most 22 blocks. -/
theorem nodup_len : ∀ (n : Nat) (l : List Int), l.Nodup → (∀ b ∈ l, 0 ≤ b ∧ b < n) → l.length ≤ n
  | 0, l, _, h => by
    cases l with
    | nil => simp
    | cons b l => have := h b (by simp); omega
  | n + 1, l, hn, h => by
    have h1 : (l.filter (fun b => decide (b ≠ (n : Int)))).length ≤ n := by
      refine nodup_len n _ (hn.filter _) fun b hb => ?_
      simp at hb
      have := h b hb.1
      omega
    have h2 : l.length ≤ (l.filter (fun b => decide (b ≠ (n : Int)))).length + 1 := by
      have h3 := List.length_eq_countP_add_countP (fun b => decide (b ≠ (n : Int))) (l := l)
      rw [← List.countP_eq_length_filter] 
      have h4 : l.countP (fun b => decide (¬ (decide (b ≠ (n : Int)) = true))) ≤ 1 := by
        have h5 : l.countP (fun b => decide (¬ (decide (b ≠ (n : Int)) = true))) = l.count (n : Int) := by
          unfold List.count
          congr 1
          funext b
          by_cases e : b = (n : Int) <;> simp [e]
        rw [h5]
        exact List.nodup_iff_count.1 hn _
      omega
    omega
theorem all_len {m : Man} (h : m.fault = 0) : m.all.length ≤ 24 := by
  obtain ⟨_, _, h1, h2⟩ := fault_zero.1 h
  exact nodup_len 24 _ h2 fun b hb => by have := h1 b hb; omega
end Go.Proofs.YtaepdbkfaoiimabGreatDoor
/- slices.Grow, Concat, Contains, Clone at []int. Conditions: none but the sizes of any memory. -/
set_option linter.unusedVariables false
set_option linter.unusedSimpArgs false
namespace Go.Proofs.YtaepdbkfaoiimabGreatDoor
open Go.RowKit

theorem info_int : (Tryz.prog.info? 3).map (fun i => (i.zero, i.size, i.bytes)) = some (some (.int .i64 0), 1, 8) := by kernel_rfl
set_option maxHeartbeats 1000000 in
theorem grow_nil (n : Int) (w : World) (h0 : 0 ≤ n) (h1 : n ≤ 4000000) :
    Calls Tryz.prog 84 #[.slice none 0 0, .int .i64 n] w fun e w' => ∃ v, e = .returned v ∧ w'.ownsRow w.heap.size 3 1 v 0 [] ∧ Below w.heap.size w w' := by
  obtain ⟨k, rfl⟩ := Int.eq_ofNat_of_zero_le h0
  by_cases hk : k = 0
  · subst hk
    go_enter Tryz.func84, Tryz.ntmps84
    go_wp2_with fail
    go_ret
    exact ⟨_, rfl, World.ownsRow_nil _ _ _ _, Below.refl _ _⟩
  · have h2 : ¬ ((k : Int) < 0) := by omega
    have h4 : decide (0 < (k : Int)) = true := decide_eq_true (by omega)
    obtain ⟨i0, hi, hz0, hz1, hz2⟩ := info_parts info_int
    have hrz : ∀ ty, (Builtin.append_ #[72, 3] ty #[.slice none 0 0, .int .i64 (k : Int)]).run Tryz.prog w =
        .ok (.slice (some ⟨w.heap.size, 0, none⟩) k (grownCap w k 0 3)) (w.drew.alloc (.cells (Builtin.zeroCells (Value.int .i64 0).cells k ++ Builtin.zeroCells (Value.int .i64 0).cells (grownCap w k 0 3 - k)) 3)) := fun ty => by
      exact Lib.run_append_nil_zeros (P := Tryz.prog) w 72 3 ty 3 i0 (.int .i64 0) .i64 .i64 Tryz.underlying72 Tryz.underlying3 hi hz0 k (by omega) (by omega) (by omega) (by rw [hz2]; omega)
    have hG := grownCap_ge w k 0 3
    have hG2 := grownCap_le_maxLen w k 0 3 (by unfold maxLen; omega)
    have hblk := heap_alloc_new w.drew (.cells (Builtin.zeroCells (Value.int .i64 0).cells k ++ Builtin.zeroCells (Value.int .i64 0).cells (grownCap w k 0 3 - k)) 3)
    have hbl : Below w.heap.size w (w.drew.alloc (.cells (Builtin.zeroCells (Value.int .i64 0).cells k ++ Builtin.zeroCells (Value.int .i64 0).cells (grownCap w k 0 3 - k)) 3)) := (Below.refl w.heap.size w).drew.alloc (Nat.le_refl _) _
    have hsz : (Builtin.zeroCells (Value.int .i64 0).cells k ++ Builtin.zeroCells (Value.int .i64 0).cells (grownCap w k 0 3 - k)).size = grownCap w k 0 3 * 1 := by
      have h1 : (Value.int .i64 0).cells.size = 1 := rfl
      rw [Array.size_append, size_zeroCells, size_zeroCells, h1]; omega
    generalize grownCap w k 0 3 = G at *
    generalize Builtin.zeroCells (Value.int .i64 0).cells k ++ Builtin.zeroCells (Value.int .i64 0).cells (G - k) = cur at *
    have HB := Lib.hid hblk
    have HL := Lib.hid hbl
    have HSZ := Lib.hid hsz
    have hG3 : (k : Int) ≤ (G : Int) := by omega
    have hG4 : G ≤ 9223372036854775807 := by unfold maxLen at hG2; omega
    have t1 : (0 : Int) ≤ (k : Int) := by omega
    clear hblk hbl hsz hi hz0 hz1 hz2
    go_enter Tryz.func84, Tryz.ntmps84
    go_wp2_with (at_builtin; refine Lib.wpList_append_run _ rfl _ _ _ _ rfl _ _ rfl rfl _ _ (hrz _) ?_)
    go_ret
    refine ⟨_, rfl, ⟨rfl, .inr ⟨w.heap.size, G, cur, rfl, Nat.le_refl _, HB.out, by omega, hG2, HSZ.out, by simp⟩⟩, HL.out⟩
theorem ints_one {l : List Int} : ∀ u ∈ l.map (Value.int .i64), u.oneCell' = true := by
  intro u hu
  obtain ⟨n, _, rfl⟩ := List.mem_map.1 hu
  rfl
set_option maxHeartbeats 4000000 in
/-- slices.Concat of two. -/
theorem concat_any (B g : Nat) (va vb : Value) (la lb : List Int) (w : World) (hg : Blk w g 72 #[va, vb]) (ha : Ints B w va la) (hb : Ints B w vb lb) (h1 : la.length ≤ 1000000) (h2 : lb.length ≤ 1000000) :
    Calls Tryz.prog 49 #[.slice (some ⟨g, 0, none⟩) 2 2] w fun e w' => ∃ v, e = .returned v ∧ w'.ownsRow w.heap.size 3 1 v (la ++ lb).length ((la ++ lb).map (.int .i64)) ∧ Below w.heap.size w w' := by
  obtain ⟨A, c, rfl, hc, hc2, _⟩ := ha.form
  obtain ⟨A', c', rfl, hc', hc2', _⟩ := hb.form
  have x1 := hg.cell 0
  have x2 := hg.cell 1
  simp at x1 x2
  have hlt := hg.lt
  have HA := Lib.hid ha
  have HB := Lib.hid hb
  have HG := Lib.hid hg
  clear ha hb hg
  go_enter Tryz.func49, Tryz.ntmps49
  go_wp2_with fail
  refine wp_loop_rounds 3 ?_
  rw [rounds_succ]
  go_wp2_with fail
  rw [rounds_succ]
  go_wp2_with fail
  rw [rounds_succ]
  go_wp2_with fail
  refine (grow_nil _ _ (by omega) (by omega)).mono ?_
  rintro e w1 ⟨v1, rfl, hown, hbl⟩
  have HO1 := Lib.hid hown
  have HL1 := Lib.hid hbl
  have y1 := (hbl.cell (p := ⟨g, 0, none⟩) hlt).trans x1
  have y2 := (hbl.cell (p := ⟨g, 1, none⟩) hlt).trans x2
  have hr1 : Hid (Rd B 3 1 w1 (.slice A la.length c) la.length (la.map (.int .i64))) := HA.out.below hbl
  clear hown x1 x2
  go_wp2_with fail
  refine wp_loop_rounds 3 ?_
  rw [rounds_succ]
  obtain ⟨i1, hi1, hz01, hz11, hz21⟩ := info_parts info_int
  have hbs1 := hbl.size
  clear hbl
  go_wp2_with (at_builtin; go_loud (refine wpList_append_rd _ rfl (.tmp 31) (.tmp 32) 72 rfl w.heap.size 3 i1 _ 1 8 Tryz.underlying72 hi1 hz01 hz11 hz21 rfl (by decide) _ _ _ rfl HO1.out B 3 _ _ _ rfl hr1.out ints_one (by unfold maxLen; omega) (by omega) (by omega) ?_); intro v2 w2 hown2 hg2 hat2)
  have hb2 := below_own HL1.out (Nat.le_refl _) HO1.out hg2
  have HO2 := Lib.hid hown2
  have HL2 := Lib.hid hb2
  have y2' := (hb2.cell (p := ⟨g, 1, none⟩) hlt).trans (show w.cell? ⟨g, 1, none⟩ = _ from (HG.out.cell 1).trans rfl)
  have hr2 : Hid (Rd B 3 1 w2 (.slice A' lb.length c') lb.length (lb.map (.int .i64))) := HB.out.below hb2
  have hbs2 := hb2.size
  clear hown2 hg2 hat2 hb2 y1 y2 hr1
  go_wp2_with fail
  rw [rounds_succ]
  go_wp2_with (at_builtin; go_loud (refine wpList_append_rd _ rfl (.tmp 31) (.tmp 32) 72 rfl w.heap.size 3 i1 _ 1 8 Tryz.underlying72 hi1 hz01 hz11 hz21 rfl (by decide) _ _ _ rfl HO2.out B 3 _ _ _ rfl hr2.out ints_one (by unfold maxLen; omega) (by omega) (by omega) ?_); intro v3 w3 hown3 hg3 hat3)
  have hb3 := below_own HL2.out (Nat.le_refl _) HO2.out hg3
  have HO3 := Lib.hid hown3
  have HL3 := Lib.hid hb3
  clear hown3 hg3 hat3 hb3 hr2 hi1 hz01 hz11 hz21
  go_wp2_with fail
  rw [rounds_succ]
  go_wp2_with fail
  go_ret
  refine ⟨_, rfl, ?_, HL3.out⟩
  have := HO3.out
  simpa using this
/-- slices.Concat of two, as numbers that can be read. -/
theorem concat_rd (B g : Nat) (va vb : Value) (la lb : List Int) (w : World) (hg : Blk w g 72 #[va, vb]) (ha : Ints B w va la) (hb : Ints B w vb lb) (h1 : la.length ≤ 1000000) (h2 : lb.length ≤ 1000000) :
    Calls Tryz.prog 49 #[.slice (some ⟨g, 0, none⟩) 2 2] w fun e w' => ∃ v, e = .returned v ∧ Ints B w' v (la ++ lb) ∧ Below w.heap.size w w' :=
  (concat_any B g va vb la lb w hg ha hb h1 h2).mono fun e w' ⟨v, he, hown, hbl⟩ => ⟨v, he, Rd.of_own hown, hbl⟩
/-- Is it in it? -/
def inL (l : List Int) (x : Int) : Bool := l.contains x
theorem ints_getD {l : List Int} {w : World} {b o : Nat} (h : ∀ j u, (l.map (Value.int .i64))[j]? = some u → w.cell? ⟨b, o + j, none⟩ = some u) : ∀ j, j < l.length → w.cell? ⟨b, o + j, none⟩ = some (.int .i64 (l.getD j 0)) := fun j hj => by
  refine h j _ ?_
  rw [List.getElem?_map, List.getD_eq_getElem?_getD, List.getElem?_eq_getElem hj]
  rfl
theorem contains_any (B : Nat) (v : Value) (l : List Int) (x : Int) (w : World) (h : Ints B w v l) :
    Calls Tryz.prog 77 #[v, .int .i64 x] w fun e w' => e = .returned (.bool (inL l x)) ∧ w = w' := by
  obtain ⟨_, A, c, rfl, hc, hc2, h4⟩ := h
  rcases Nat.eq_zero_or_pos l.length with h0 | h0
  · have hl : l = [] := List.eq_nil_of_length_eq_zero h0
    subst hl
    exact (Tryz.slices_Contains_int_empty A c x w).mono fun e w' ⟨h1, h2⟩ => ⟨h1, h2.symm⟩
  · obtain ⟨b, o, rfl, _, _, hcell⟩ := h4 h0
    exact (Tryz.slices_Contains_int b o l.length c l x w (Nat.le_refl _) (by omega) (ints_getD hcell)).mono fun e w' ⟨h1, h2⟩ => ⟨by rw [h1, List.take_length]; rfl, h2.symm⟩
theorem clone_any (B : Nat) (v : Value) (l : List Int) (w : World) (h : Ints B w v l) (hn : l.length ≤ 1000000) :
    Calls Tryz.prog 161 #[v] w fun e w' => ∃ v', e = .returned v' ∧ Ints B w' v' l ∧ Below w.heap.size w w' := by
  obtain ⟨_, A, c, rfl, hc, hc2, h4⟩ := h
  rcases Nat.eq_zero_or_pos l.length with h0 | h0
  · have hl : l = [] := List.eq_nil_of_length_eq_zero h0
    subst hl
    cases A with
    | none => exact (Tryz.slices_Clone_int_nil 0 c w).mono fun e w' ⟨h1, h2⟩ => ⟨_, h1, Rd.nil _ _ _ _, by rw [h2]; exact Below.refl _ _⟩
    | some a => exact (Tryz.slices_Clone_int_zero a c w).mono fun e w' ⟨v', h1, h2, _, h3⟩ => ⟨v', h1, Rd.of_own h2, h3⟩
  · obtain ⟨b, o, rfl, _, _, hcell⟩ := h4 h0
    exact (Tryz.slices_Clone_int b o l.length c l w (Nat.le_refl _) (by omega) (ints_getD hcell)).mono fun e w' ⟨v', h1, h2, _, h3⟩ => ⟨v', h1, by rw [List.take_length] at h2; exact Rd.of_own h2, h3⟩
end Go.Proofs.YtaepdbkfaoiimabGreatDoor
/- The contracts of package manifest: Check, Bytes, Parse. Conditions: none but the sizes of any memory. -/
set_option linter.unusedVariables false
set_option linter.unusedSimpArgs false
namespace Go.Proofs.YtaepdbkfaoiimabGreatDoor
open Go.RowKit

/-- A manifest as it is handed over. -/
def ManV (B : Nat) (w : World) (v : Value) (m : Man) : Prop := ∃ vn vo, v = .agg #[.int .i64 m.ep, .int .i64 m.log, vn, vo] ∧ Ints B w vn m.nw ∧ Ints B w vo m.od
theorem ManV.below {B : Nat} {w w' : World} {v : Value} {m : Man} (h : ManV B w v m) (hb : Below w.heap.size w w') : ManV B w' v m := by
  obtain ⟨vn, vo, h1, h2, h3⟩ := h
  exact ⟨vn, vo, h1, h2.below hb, h3.below hb⟩
theorem ManV.fr {B : Nat} {M : Nat → Prop} {w w' : World} {v : Value} {m : Man} (h : ManV B w v m) (hb : Fr B M w w') : ManV B w' v m := by
  obtain ⟨vn, vo, h1, h2, h3⟩ := h
  exact ⟨vn, vo, h1, h2.fr hb, h3.fr hb⟩
theorem ManV.zero (B : Nat) (w : World) : ManV B w (.agg #[.int .i64 0, .int .i64 0, .slice none 0 0, .slice none 0 0]) Man.zero := ⟨_, _, rfl, Rd.nil _ _ _ _, Rd.nil _ _ _ _⟩
/-- The row of one number. -/
theorem own_one {w : World} {base g : Nat} {x : Value} {T : TypeId} (h : Blk w g T #[x]) (hb : base ≤ g) : w.ownsRow base T 1 (.slice (some ⟨g, 0, none⟩) 1 1) 1 [x] :=
  ⟨rfl, .inr ⟨g, 1, #[x], rfl, hb, h, Nat.le_refl _, by decide, rfl, rfl⟩⟩
theorem step_append_rd {P : Program} {ops : Array Oper} {o : Oper} {a : Act} {w : World} {K : Act → World → Prop} {Q : Exit → Act → World → Prop} {E : Prop} (hgd : o.guard = none) (s x : Operand) (t : TypeId)
    (ho : o.op = .call { callee := .builtin .append, args := #[s, x], argTypes := #[t, t] })
    (base : Nat) (e : TypeId) (i : TypeInfo) (z : Value) (size bytes : Nat) (ht : P.underlying t = some (.slice e)) (hi : P.info? e = some i) (hz : i.zero = some z)
    (hsize : i.size = size) (hby : i.bytes = bytes) (hzs : z.cells.size = size) (hsz : 0 < size)
    (v : Value) (n : Nat) (xs : List Value) (hs : a.eval s = v) (hown : w.ownsRow base e size v n xs)
    (B T : Nat) (vx : Value) (m : Nat) (news : List Value) (hx : a.eval x = vx) (hr : Rd B T size w vx m news) (h1 : ∀ u ∈ news, u.oneCell' = true)
    (h63 : n + m ≤ maxLen) (hbytes : (n + m) * bytes ≤ 140737488355328) (hbase : base ≤ w.heap.size)
    (h : ∀ v' w', w'.ownsRow base e size v' (n + m) (xs ++ news) → w.grownBy w' v.ownBlock → (v'.ownBlock = v.ownBlock ∨ v'.ownBlock = some w.heap.size) → K (a.put o.dst v') w') :
    if Region.wanted o (yielded ops a.tmps) = true then Oper.wp P o a w K Q else E := by
  have hw : Region.wanted o (yielded ops a.tmps) = true := by simp [Region.wanted, hgd]
  rw [if_pos hw]
  exact wp_append_rd w s x t ho base e i z size bytes ht hi hz hsize hby hzs hsz v n xs hs hown B T vx m news hx hr h1 h63 hbytes hbase h

theorem ints_take {B : Nat} {w : World} {A : Option Addr} {c : Nat} {l : List Int} (h : Ints B w (.slice A l.length c) l) {k : Nat} (hk : k ≤ l.length) : Ints B w (.slice A k c) (l.take k) := by
  obtain ⟨_, A', c', e, h2, h3, h4⟩ := h
  cases e
  have e : (l.take k).length = k := by rw [List.length_take]; omega
  refine ⟨by simp, A, c, by rw [e], by omega, h3, fun h0 => ?_⟩
  rw [e] at h0
  obtain ⟨b, o, hA, hk2, hb, hc⟩ := h4 (by omega)
  refine ⟨b, o, hA, hk2, hb, fun j u hu => hc j u ?_⟩
  rw [List.map_take, List.getElem?_take] at hu
  split at hu
  · exact hu
  · cases hu
theorem chk_step {seen l : List Int} {b : Int} (h1 : ¬ b < 2) (h2 : ¬ 24 ≤ b) (h3 : inL seen b = false) : chk seen (b :: l) = chk (seen ++ [b]) l := by
  unfold inL at h3
  rw [chk, if_neg (by omega), if_neg (by rw [h3]; simp)]
set_option maxRecDepth 20000 in
set_option maxHeartbeats 8000000 in
theorem mcheck_any (B : Nat) (v : Value) (m : Man) (w : World) (h : ManV B w v m) (h1 : m.nw.length ≤ 1000) (h2 : m.od.length ≤ 1000) :
    Calls Tryz.prog 79 #[v] w fun e w' => e = .returned (errV m.fault) ∧ Below w.heap.size w w' := by
  obtain ⟨vn, vo, rfl, hn, ho⟩ := h
  obtain ⟨A1, c1, rfl, k1, k2, kX⟩ := hn.form
  obtain ⟨A2, c2, rfl, k3, k4, kY⟩ := ho.form
  clear kX kY
  have HN := Lib.hid hn
  have HO := Lib.hid ho
  have hx : Hid (Blk (w.alloc (.cells #[.int .i64 m.ep, .int .i64 m.log, .slice A1 m.nw.length c1, .slice A2 m.od.length c2] 74)) w.heap.size 74 #[.int .i64 m.ep, .int .i64 m.log, .slice A1 m.nw.length c1, .slice A2 m.od.length c2]) := Blk.new w _ _
  have x0 := hx.out.cell 0
  have x1 := hx.out.cell 1
  have x2 := hx.out.cell 2
  have x3 := hx.out.cell 3
  simp at x0 x1 x2 x3
  clear hn ho
  by_cases he : m.ep < 1 ∨ 100000 < m.ep
  · have hf : Hid (m.fault = 1) := if_pos he
    rcases he with he | he
    · go_enter Tryz.func79, Tryz.ntmps79
      go_wp2_with fail
      go_ret
      exact ⟨by rw [hf.out]; rfl, (Below.refl _ _).alloc (Nat.le_refl _) _⟩
    · have he2 : ¬ m.ep < 1 := by omega
      go_enter Tryz.func79, Tryz.ntmps79
      go_wp2_with fail
      go_ret
      exact ⟨by rw [hf.out]; rfl, (Below.refl _ _).alloc (Nat.le_refl _) _⟩
  · have hf : Hid (m.fault = chk [] m.all) := if_neg he
    have e1 : ¬ m.ep < 1 := by omega
    have e2 : ¬ 100000 < m.ep := by omega
    clear he
    go_enter Tryz.func79, Tryz.ntmps79
    go_wp2_with fail
    have HC : Hid (∀ w' : World, Below (w.heap.size + 1) (w.alloc (.cells #[.int .i64 m.ep, .int .i64 m.log, .slice A1 m.nw.length c1, .slice A2 m.od.length c2] 74)) w' → (w'.cell? ⟨w.heap.size, 1, none⟩ = some (.int .i64 m.log) ∧ w'.cell? ⟨w.heap.size, 2, none⟩ = some (.slice A1 m.nw.length c1) ∧ w'.cell? ⟨w.heap.size, 3, none⟩ = some (.slice A2 m.od.length c2)) ∧ Below (w.heap.size + 1) (w.alloc (.cells #[.int .i64 m.ep, .int .i64 m.log, .slice A1 m.nw.length c1, .slice A2 m.od.length c2] 74)) w') := fun w' hb =>
      ⟨⟨(hb.cell (p := ⟨w.heap.size, 1, none⟩) (by show w.heap.size < _; omega)).trans (hx.out.cell 1), (hb.cell (p := ⟨w.heap.size, 2, none⟩) (by show w.heap.size < _; omega)).trans (hx.out.cell 2), (hb.cell (p := ⟨w.heap.size, 3, none⟩) (by show w.heap.size < _; omega)).trans (hx.out.cell 3)⟩, hb⟩
    have hB0 : Below w.heap.size w (w.alloc (.cells #[.int .i64 m.ep, .int .i64 m.log, .slice A1 m.nw.length c1, .slice A2 m.od.length c2] 74)) := (Below.refl _ _).alloc (Nat.le_refl _) _
    have hBa : Below (w.heap.size + 1) (w.alloc (.cells #[.int .i64 m.ep, .int .i64 m.log, .slice A1 m.nw.length c1, .slice A2 m.od.length c2] 74)) (((w.alloc (.cells #[.int .i64 m.ep, .int .i64 m.log, .slice A1 m.nw.length c1, .slice A2 m.od.length c2] 74)).alloc (.cells #[.int .i64 m.log] 3)).alloc (.cells #[.slice A1 m.nw.length c1, .slice A2 m.od.length c2] 72)).drew := (((Below.refl _ _).alloc (by simp) _).alloc (by simp <;> omega) _).drew
    have hBb : Below (w.heap.size + 1) (w.alloc (.cells #[.int .i64 m.ep, .int .i64 m.log, .slice A1 m.nw.length c1, .slice A2 m.od.length c2] 74)) (((w.alloc (.cells #[.int .i64 m.ep, .int .i64 m.log, .slice A1 m.nw.length c1, .slice A2 m.od.length c2] 74)).alloc (.cells #[.slice A1 m.nw.length c1, .slice A2 m.od.length c2] 72)).alloc (.cells #[.int .i64 m.log] 3)).drew := (((Below.refl _ _).alloc (by simp) _).alloc (by simp <;> omega) _).drew
    have hBc : Below (w.heap.size + 1) (w.alloc (.cells #[.int .i64 m.ep, .int .i64 m.log, .slice A1 m.nw.length c1, .slice A2 m.od.length c2] 74)) ((w.alloc (.cells #[.int .i64 m.ep, .int .i64 m.log, .slice A1 m.nw.length c1, .slice A2 m.od.length c2] 74)).alloc (.cells #[.slice A1 m.nw.length c1, .slice A2 m.od.length c2] 72)).drew := ((Below.refl _ _).alloc (by simp) _).drew
    have up : ∀ w', Below (w.heap.size + 1) (w.alloc (.cells #[.int .i64 m.ep, .int .i64 m.log, .slice A1 m.nw.length c1, .slice A2 m.od.length c2] 74)) w' → Below w.heap.size w w' := fun w' hb => hB0.trans (hb.mono (by omega))
    have ga : Blk (((w.alloc (.cells #[.int .i64 m.ep, .int .i64 m.log, .slice A1 m.nw.length c1, .slice A2 m.od.length c2] 74)).alloc (.cells #[.int .i64 m.log] 3)).alloc (.cells #[.slice A1 m.nw.length c1, .slice A2 m.od.length c2] 72)).drew (w.heap.size + 2) 72 #[.slice A1 m.nw.length c1, .slice A2 m.od.length c2] := by
      have := Blk.drewN (Blk.new ((w.alloc (.cells #[.int .i64 m.ep, .int .i64 m.log, .slice A1 m.nw.length c1, .slice A2 m.od.length c2] 74)).alloc (.cells #[.int .i64 m.log] 3)) 72 #[.slice A1 m.nw.length c1, .slice A2 m.od.length c2]) 1
      simp only [World.size_alloc] at this
      exact this
    have gb : Blk (((w.alloc (.cells #[.int .i64 m.ep, .int .i64 m.log, .slice A1 m.nw.length c1, .slice A2 m.od.length c2] 74)).alloc (.cells #[.slice A1 m.nw.length c1, .slice A2 m.od.length c2] 72)).alloc (.cells #[.int .i64 m.log] 3)).drew (w.heap.size + 1) 72 #[.slice A1 m.nw.length c1, .slice A2 m.od.length c2] := by
      have := Blk.drewN ((Blk.new (w.alloc (.cells #[.int .i64 m.ep, .int .i64 m.log, .slice A1 m.nw.length c1, .slice A2 m.od.length c2] 74)) 72 #[.slice A1 m.nw.length c1, .slice A2 m.od.length c2]).alloc (.cells #[.int .i64 m.log] 3)) 1
      simp only [World.size_alloc] at this
      exact this
    have gc : Blk ((w.alloc (.cells #[.int .i64 m.ep, .int .i64 m.log, .slice A1 m.nw.length c1, .slice A2 m.od.length c2] 74)).alloc (.cells #[.slice A1 m.nw.length c1, .slice A2 m.od.length c2] 72)).drew (w.heap.size + 1) 72 #[.slice A1 m.nw.length c1, .slice A2 m.od.length c2] := by
      have := Blk.drewN (Blk.new (w.alloc (.cells #[.int .i64 m.ep, .int .i64 m.log, .slice A1 m.nw.length c1, .slice A2 m.od.length c2] 74)) 72 #[.slice A1 m.nw.length c1, .slice A2 m.od.length c2]) 1
      simp only [World.size_alloc] at this
      exact this
    have la : Blk (((w.alloc (.cells #[.int .i64 m.ep, .int .i64 m.log, .slice A1 m.nw.length c1, .slice A2 m.od.length c2] 74)).alloc (.cells #[.int .i64 m.log] 3)).alloc (.cells #[.slice A1 m.nw.length c1, .slice A2 m.od.length c2] 72)).drew (w.heap.size + 1) 3 #[.int .i64 m.log] := by
      have := Blk.drewN ((Blk.new (w.alloc (.cells #[.int .i64 m.ep, .int .i64 m.log, .slice A1 m.nw.length c1, .slice A2 m.od.length c2] 74)) 3 #[.int .i64 m.log]).alloc (.cells #[.slice A1 m.nw.length c1, .slice A2 m.od.length c2] 72)) 1
      simp only [World.size_alloc] at this
      exact this
    have lb : Blk (((w.alloc (.cells #[.int .i64 m.ep, .int .i64 m.log, .slice A1 m.nw.length c1, .slice A2 m.od.length c2] 74)).alloc (.cells #[.slice A1 m.nw.length c1, .slice A2 m.od.length c2] 72)).alloc (.cells #[.int .i64 m.log] 3)).drew (w.heap.size + 2) 3 #[.int .i64 m.log] := by
      have := Blk.drewN (Blk.new ((w.alloc (.cells #[.int .i64 m.ep, .int .i64 m.log, .slice A1 m.nw.length c1, .slice A2 m.od.length c2] 74)).alloc (.cells #[.slice A1 m.nw.length c1, .slice A2 m.od.length c2] 72)) 3 #[.int .i64 m.log]) 1
      simp only [World.size_alloc] at this
      exact this
    have CA : Hid (Calls Tryz.prog 49 #[.slice (some ⟨w.heap.size + 2, 0, none⟩) 2 2] (((w.alloc (.cells #[.int .i64 m.ep, .int .i64 m.log, .slice A1 m.nw.length c1, .slice A2 m.od.length c2] 74)).alloc (.cells #[.int .i64 m.log] 3)).alloc (.cells #[.slice A1 m.nw.length c1, .slice A2 m.od.length c2] 72)).drew fun e w3 => ∃ v3, e = .returned v3 ∧ Ints B w3 v3 (m.nw ++ m.od) ∧ Below (w.heap.size + 1) (w.alloc (.cells #[.int .i64 m.ep, .int .i64 m.log, .slice A1 m.nw.length c1, .slice A2 m.od.length c2] 74)) w3 ∧ Blk w3 (w.heap.size + 1) 3 #[.int .i64 m.log]) :=
      (concat_rd B _ (.slice A1 m.nw.length c1) (.slice A2 m.od.length c2) m.nw m.od _ ga (HN.out.below (up _ hBa)) (HO.out.below (up _ hBa)) (by omega) (by omega)).mono fun e w3 ⟨v3, h3, h4, h5⟩ => ⟨v3, h3, h4, hBa.trans (h5.mono (by simp <;> omega)), la.below h5 la.lt⟩
    have CB : Hid (Calls Tryz.prog 49 #[.slice (some ⟨w.heap.size + 1, 0, none⟩) 2 2] (((w.alloc (.cells #[.int .i64 m.ep, .int .i64 m.log, .slice A1 m.nw.length c1, .slice A2 m.od.length c2] 74)).alloc (.cells #[.slice A1 m.nw.length c1, .slice A2 m.od.length c2] 72)).alloc (.cells #[.int .i64 m.log] 3)).drew fun e w3 => ∃ v3, e = .returned v3 ∧ Ints B w3 v3 (m.nw ++ m.od) ∧ Below (w.heap.size + 1) (w.alloc (.cells #[.int .i64 m.ep, .int .i64 m.log, .slice A1 m.nw.length c1, .slice A2 m.od.length c2] 74)) w3 ∧ Blk w3 (w.heap.size + 2) 3 #[.int .i64 m.log]) :=
      (concat_rd B _ (.slice A1 m.nw.length c1) (.slice A2 m.od.length c2) m.nw m.od _ gb (HN.out.below (up _ hBb)) (HO.out.below (up _ hBb)) (by omega) (by omega)).mono fun e w3 ⟨v3, h3, h4, h5⟩ => ⟨v3, h3, h4, hBb.trans (h5.mono (by simp <;> omega)), lb.below h5 lb.lt⟩
    have CC : Hid (Calls Tryz.prog 49 #[.slice (some ⟨w.heap.size + 1, 0, none⟩) 2 2] ((w.alloc (.cells #[.int .i64 m.ep, .int .i64 m.log, .slice A1 m.nw.length c1, .slice A2 m.od.length c2] 74)).alloc (.cells #[.slice A1 m.nw.length c1, .slice A2 m.od.length c2] 72)).drew fun e w3 => ∃ v3, e = .returned v3 ∧ Ints B w3 v3 (m.nw ++ m.od) ∧ Below (w.heap.size + 1) (w.alloc (.cells #[.int .i64 m.ep, .int .i64 m.log, .slice A1 m.nw.length c1, .slice A2 m.od.length c2] 74)) w3) :=
      (concat_rd B _ (.slice A1 m.nw.length c1) (.slice A2 m.od.length c2) m.nw m.od _ gc (HN.out.below (up _ hBc)) (HO.out.below (up _ hBc)) (by omega) (by omega)).mono fun e w3 ⟨v3, h3, h4, h5⟩ => ⟨v3, h3, h4, hBc.trans (h5.mono (by simp))⟩
    have HBA : Hid (Below (w.heap.size + 1) (w.alloc (.cells #[.int .i64 m.ep, .int .i64 m.log, .slice A1 m.nw.length c1, .slice A2 m.od.length c2] 74)) (((w.alloc (.cells #[.int .i64 m.ep, .int .i64 m.log, .slice A1 m.nw.length c1, .slice A2 m.od.length c2] 74)).alloc (.cells #[.int .i64 m.log] 3)).alloc (.cells #[.slice A1 m.nw.length c1, .slice A2 m.od.length c2] 72)).drew ∧ Below (w.heap.size + 1) (w.alloc (.cells #[.int .i64 m.ep, .int .i64 m.log, .slice A1 m.nw.length c1, .slice A2 m.od.length c2] 74)) (((w.alloc (.cells #[.int .i64 m.ep, .int .i64 m.log, .slice A1 m.nw.length c1, .slice A2 m.od.length c2] 74)).alloc (.cells #[.slice A1 m.nw.length c1, .slice A2 m.od.length c2] 72)).alloc (.cells #[.int .i64 m.log] 3)).drew ∧ Below (w.heap.size + 1) (w.alloc (.cells #[.int .i64 m.ep, .int .i64 m.log, .slice A1 m.nw.length c1, .slice A2 m.od.length c2] 74)) ((w.alloc (.cells #[.int .i64 m.ep, .int .i64 m.log, .slice A1 m.nw.length c1, .slice A2 m.od.length c2] 74)).alloc (.cells #[.slice A1 m.nw.length c1, .slice A2 m.od.length c2] 72)).drew) := ⟨hBa, hBb, hBc⟩
    have UP := Lib.hid up
    have HB0 : Hid (Below (w.heap.size + 1) (w.alloc (.cells #[.int .i64 m.ep, .int .i64 m.log, .slice A1 m.nw.length c1, .slice A2 m.od.length c2] 74)) (w.alloc (.cells #[.int .i64 m.ep, .int .i64 m.log, .slice A1 m.nw.length c1, .slice A2 m.od.length c2] 74)).drew) := (Below.refl _ _).drew
    obtain ⟨i0, hi, hz0, hz1, hz2⟩ := info_parts info_int
    clear hB0 hBa hBb hBc up ga gb gc la lb
    go_cut [3] from 15 to 24 (fun s3 wx => ∃ v3, s3 = v3 ∧ Ints w.heap.size wx v3 m.all ∧ Below w.heap.size w wx)
    case first =>
      go_region_held3 (fun w' => (w'.cell? ⟨w.heap.size, 1, none⟩ = some (.int .i64 m.log) ∧ w'.cell? ⟨w.heap.size, 2, none⟩ = some (.slice A1 m.nw.length c1) ∧ w'.cell? ⟨w.heap.size, 3, none⟩ = some (.slice A2 m.od.length c2)) ∧ Below (w.heap.size + 1) (w.alloc (.cells #[.int .i64 m.ep, .int .i64 m.log, .slice A1 m.nw.length c1, .slice A2 m.od.length c2] 74)) w')
        ((first
          | exact HC.out _ hB5
          | exact HC.out _ hB6
          | exact HC.out _ hB4
          | exact HC.out _ HB0.out
          | exact HC.out _ HBA.out.2.2
          | exact HC.out _ HBA.out.1
          | exact HC.out _ HBA.out.2.1
          | exact HC.out _ ((Below.refl _ _).alloc (by simp) _).drew))
        ((first
          | (go_at_call 49; ((with_reducible refine CA.out.mono ?_); rintro e w3 ⟨v3, rfl, hi3, hB4, q17⟩))
          | (go_at_call 49; ((with_reducible refine CB.out.mono ?_); rintro e w3 ⟨v3, rfl, hi3, hB4, q17⟩))
          | (go_at_call 49; ((with_reducible refine CC.out.mono ?_); rintro e w3 ⟨v3, rfl, hi3, hB4⟩; have q18 := Blk.new w3 3 #[.int .i64 m.log]; have hi4 : Ints B (w3.alloc (.cells #[.int .i64 m.log] 3)) v3 (m.nw ++ m.od) := hi3.below ((Below.refl _ _).alloc (Nat.le_refl _) _); have s18 : w.heap.size + 1 ≤ w3.heap.size := (by have := hB4.size; simp at this; omega); have hB6 := hB4.alloc s18 (.cells #[.int .i64 m.log] 3)))
          | (refine step_append_rd rfl (.tmp 17) (.tmp 23) 72 rfl (w.heap.size + 1) 3 i0 _ 1 8 Tryz.underlying72 hi hz0 hz1 hz2 rfl (by decide) _ 1 [.int .i64 m.log] rfl (own_one q17 (by omega)) B 3 v3 _ _ rfl hi3 ints_one (by unfold maxLen; simp <;> omega) (by simp <;> omega) (by have := hB4.size; simp at this; omega) ?_; intro v4 w4 hown4 hg4 hat4; have hB5 : Below (w.heap.size + 1) (w.alloc (.cells #[.int .i64 m.ep, .int .i64 m.log, .slice A1 m.nw.length c1, .slice A2 m.od.length c2] 74)) w4 := hB4.grown hg4 (by have := hB4.size; simp at this; omega) (own_ge (own_one (base := w.heap.size + 1) q17 (by omega))))
          | (refine step_append_rd rfl (.tmp 17) (.tmp 23) 72 rfl (w.heap.size + 1) 3 i0 (.int .i64 0) 1 8 Tryz.underlying72 hi hz0 hz1 hz2 rfl (by decide) (.slice (some ⟨w3.heap.size, 0, none⟩) 1 1) 1 [.int .i64 m.log] rfl (own_one q18 s18) B 3 v3 (m.nw ++ m.od).length ((m.nw ++ m.od).map (.int .i64)) rfl hi4 ints_one (by unfold maxLen; simp <;> omega) (by simp <;> omega) (by have := hB6.size; simp at this ⊢; omega) ?_; intro v4 w4 hown4 hg4 hat4; have hB5 : Below (w.heap.size + 1) (w.alloc (.cells #[.int .i64 m.ep, .int .i64 m.log, .slice A1 m.nw.length c1, .slice A2 m.od.length c2] 74)) w4 := hB6.grown hg4 (by have := hB6.size; simp at this ⊢; omega) (own_ge (own_one q18 s18)))))
      all_goals
        have HI4 : Hid (Ints w.heap.size w4 v4 m.all) := by
          have := Rd.of_own (B := w.heap.size) hown4
          have e : (1 + (m.nw ++ m.od).length) = m.all.length := by simp [Man.all]; omega
          rw [e] at this
          exact this
        have HB5 := Lib.hid (UP.out _ hB5)
        clear hown4 hg4 hat4 hi3 hB4 hB5
        go_wp2_with fail
        go_meet
        exact ⟨v4, rfl, HI4.out, HB5.out⟩
    case rest =>
      obtain ⟨v3, rfl, hi3, hB3⟩ := hcut
      have hlen : m.all.length ≤ 2001 := by simp [Man.all]; omega
      obtain ⟨A3, c3, rfl, q1, q2, hcell⟩ := hi3.form
      have HC3 := Lib.hid hcell
      have HI3 := Lib.hid hi3
      have HB3 := Lib.hid hB3
      clear hcell hi3 hB3 CA CB CC HBA HB0 UP hi hz0 hz1 hz2 HC x0 x1 x2 x3 e1 e2
      generalize m.all = l at *
      go_wp2_with fail
      go_loop [27] (fun i => ∃ k : Nat, k ≤ l.length ∧ i = .int .i64 k ∧ Hid (m.fault = chk (l.take k) (l.drop k))) (fun i => l.length - (intOf i).toNat)
      case atStart => exact ⟨0, Nat.zero_le _, rfl, hf⟩
      case round =>
        obtain ⟨k, hk, rfl, hch⟩ := hrel
        by_cases hlt : k < l.length
        · obtain ⟨x, hx, htk, hdr⟩ := getElem?_of_lt hlt
          obtain ⟨b, o, rfl, hb, hc1⟩ := HC3.out k x hx
          have HCO := Lib.hid (contains_any w.heap.size _ (l.take k) x wc (ints_take HI3.out hk))
          have g1 : (0 : Int) ≤ (k : Int) := by omega
          have g2 : (k : Int) < (l.length : Int) := by omega
          have g3 : (k : Int) ≤ (c3 : Int) := by omega
          rw [hdr] at hch
          have HT := Lib.hid htk
          clear hx htk hdr
          by_cases b1 : x < 2
          · have HF : Hid (m.fault = 1) := by rw [Hid, hch.out, chk, if_pos (.inl b1)]
            go_wp2_with fail
            go_ret
            exact ⟨by rw [HF.out]; rfl, HB3.out⟩
          · by_cases b2 : 24 ≤ x
            · have HF : Hid (m.fault = 1) := by rw [Hid, hch.out, chk, if_pos (.inr b2)]
              go_wp2_with fail
              go_ret
              exact ⟨by rw [HF.out]; rfl, HB3.out⟩
            · cases hin : inL (l.take k) x
              · have HF : Hid (m.fault = chk (l.take (k + 1)) (l.drop (k + 1))) := by rw [Hid, hch.out, chk_step b1 b2 hin, HT.out]
                rw [hin] at HCO
                clear hin
                go_wp2_with (go_at_call 77; refine HCO.out.mono ?_; rintro e w5 ⟨rfl, rfl⟩)
                go_round
                case rel => exact ⟨k + 1, by omega, by go_num, HF⟩
                case measure => simp [intOf] <;> omega
              · have HF : Hid (m.fault = 3) := by
                  rw [Hid, hch.out, chk, if_neg (by omega), if_pos (by exact hin)]
                rw [hin] at HCO
                clear hin
                go_wp2_with (go_at_call 77; refine HCO.out.mono ?_; rintro e w5 ⟨rfl, rfl⟩)
                go_ret
                exact ⟨by rw [HF.out]; rfl, HB3.out⟩
        · have HF : Hid (m.fault = 0) := by rw [Hid, hch.out, List.drop_eq_nil_of_le (by omega)]; rfl
          go_wp2_with fail
          go_ret
          exact ⟨by rw [HF.out]; rfl, HB3.out⟩
theorem rd_at' {B T sz n : Nat} {w : World} {xs : List Value} {A : Option Addr} {m cap : Nat} (h : Rd B T sz w (.slice A m cap) n xs) : 0 < n → ∃ b o, A = some ⟨b, o, none⟩ ∧ Kd B T w b ∧ b < w.heap.size ∧ ∀ j u, xs[j]? = some u → w.cell? ⟨b, o + j, none⟩ = some u := by
  obtain ⟨_, A', cap', e, _, _, h5⟩ := h
  cases e
  exact h5
theorem rd_form' {B T sz n : Nat} {w : World} {xs : List Value} {v : Value} (h : Rd B T sz w v n xs) : ∃ A cap, v = .slice A n cap := by
  obtain ⟨_, A', cap', e, _⟩ := h
  exact ⟨A', cap', e⟩
theorem own_type {w : World} {base e size n g : Nat} {v : Value} {xs : List Value} (h : w.ownsRow base e size v n xs) (hg : v.ownBlock = some g) : ∃ cs, w.heap[g]? = some (.cells cs e (0, 0)) := by
  rcases h.2 with ⟨rfl, _⟩ | ⟨g', cap, cur, rfl, _, hh, _⟩
  · cases hg
  · cases hg; exact ⟨cur, hh⟩
theorem ints_grown {B base e size n : Nat} {w w' : World} {v u : Value} {l : List Int} {xs : List Value} (h : Ints B w v l) (ho : w.ownsRow base e size u n xs) (hB : B ≤ base) (he : e ≠ 3) (hg : w.grownBy w' u.ownBlock) : Ints B w' v l :=
  Rd.grown h hg fun g hr _ => ⟨Nat.le_trans hB (own_ge ho g hr), by obtain ⟨cs, hc⟩ := own_type ho hr; exact ⟨cs, e, _, hc, he⟩⟩
def mbytesS (m : Man) : ByteArray := if m.fault = 0 then m.bytes else ByteArray.empty
theorem info_u8 : (Tryz.prog.info? 5).map (fun i => (i.zero, i.size, i.bytes)) = some (some (.int .u8 0), 1, 1) := by kernel_rfl
set_option maxRecDepth 20000 in
set_option maxHeartbeats 8000000 in
theorem mbytes_any (B : Nat) (v : Value) (m : Man) (w : World) (h : ManV B w v m) (h1 : m.nw.length ≤ 1000) (h2 : m.od.length ≤ 1000) :
    Calls Tryz.prog 44 #[v] w fun e w' => e = .returned (.tuple #[.string (mbytesS m), errV m.fault]) ∧ Below w.heap.size w w' := by
  have hc := mcheck_any B v m (w.alloc (.cells v.cells 74)) (h.below ((Below.refl _ _).alloc (Nat.le_refl _) _)) h1 h2
  obtain ⟨vn, vo, rfl, hn, ho⟩ := h
  obtain ⟨A1, c1, rfl, k1, k2, kX⟩ := hn.form
  obtain ⟨A2, c2, rfl, k3, k4, kY⟩ := ho.form
  clear kX kY
  have HN := Lib.hid hn
  have HO := Lib.hid ho
  have HCK : Hid (Calls Tryz.prog 79 #[.agg #[.int .i64 m.ep, .int .i64 m.log, .slice A1 m.nw.length c1, .slice A2 m.od.length c2]] (w.alloc (.cells #[.int .i64 m.ep, .int .i64 m.log, .slice A1 m.nw.length c1, .slice A2 m.od.length c2] 74)) _) := hc
  clear hn ho hc
  have hx : Hid (Blk (w.alloc (.cells #[.int .i64 m.ep, .int .i64 m.log, .slice A1 m.nw.length c1, .slice A2 m.od.length c2] 74)) w.heap.size 74 #[.int .i64 m.ep, .int .i64 m.log, .slice A1 m.nw.length c1, .slice A2 m.od.length c2]) := Blk.new w _ _
  by_cases hf : m.fault = 0
  · have HF := Lib.hid hf
    rw [hf, show errV 0 = Value.nilIface from rfl] at HCK
    obtain ⟨z1, z2, z3, z4⟩ := fault_zero.1 hf
    clear hf
    go_enter Tryz.func44, Tryz.ntmps44
    go_wp2_with fail
    refine HCK.out.mono ?_
    rintro e w1 ⟨rfl, hb1⟩
    have hx1 := hx.out.below hb1 (by simp)
    have y0 := hx1.cell 0
    have y1 := hx1.cell 1
    have y2 := hx1.cell 2
    have y3 := hx1.cell 3
    simp at y0 y1 y2 y3
    have HB1 : Hid (Below w.heap.size w w1) := ((Below.refl _ _).alloc (Nat.le_refl _) _).trans (hb1.mono (by simp))
    have hlt := hx1.lt
    clear hx1 hb1 HCK
    go_wp2_with fail
    have hb2 : Below w.heap.size w ((w1.alloc (.cells #[.int .u8 77, .int .u8 (m.ep % 256), .int .u8 (m.ep / 256 % 256), .int .u8 (m.ep / 65536), .int .u8 (m.log % 256), .int .u8 ((m.nw.length : Int) % 256), .int .u8 ((m.od.length : Int) % 256)] 5)).alloc (.cells #[.slice A1 m.nw.length c1, .slice A2 m.od.length c2] 72)) := (HB1.out.alloc HB1.out.size _).alloc (by have := HB1.out.size; simp; omega) _
    have hg := Blk.new (w1.alloc (.cells #[.int .u8 77, .int .u8 (m.ep % 256), .int .u8 (m.ep / 256 % 256), .int .u8 (m.ep / 65536), .int .u8 (m.log % 256), .int .u8 ((m.nw.length : Int) % 256), .int .u8 ((m.od.length : Int) % 256)] 5)) 72 #[.slice A1 m.nw.length c1, .slice A2 m.od.length c2]
    rw [World.size_alloc] at hg
    have hrow := (Blk.new w1 5 #[.int .u8 77, .int .u8 (m.ep % 256), .int .u8 (m.ep / 256 % 256), .int .u8 (m.ep / 65536), .int .u8 (m.log % 256), .int .u8 ((m.nw.length : Int) % 256), .int .u8 ((m.od.length : Int) % 256)]).alloc (.cells #[.slice A1 m.nw.length c1, .slice A2 m.od.length c2] 72)
    have HCC := Lib.hid (concat_any B _ _ _ m.nw m.od _ hg (HN.out.below hb2) (HO.out.below hb2) (by omega) (by omega))
    have HB2 := Lib.hid hb2
    have HROW := Lib.hid hrow
    have HS1 := Lib.hid HB1.out.size
    clear hb2 hg hrow y0 y1 y2 y3
    refine HCC.out.mono ?_
    rintro e w3 ⟨v3, rfl, ho3, hb3⟩
    have hi3 : Ints w.heap.size w3 v3 (m.nw ++ m.od) := Rd.of_own ho3
    have HB3 := Lib.hid (HB2.out.trans (hb3.mono HB2.out.size))
    have hr3 := HROW.out.below hb3 HROW.out.lt
    have HI3 := Lib.hid hi3
    obtain ⟨A3, c3, rfl, q1, q2, hcell⟩ := hi3.form
    have HO3 : Hid (w3.ownsRow w.heap.size 5 1 (.slice (some ⟨w1.heap.size, 0, none⟩) 7 7) 7 (#[.int .u8 77, .int .u8 (m.ep % 256), .int .u8 (m.ep / 256 % 256), .int .u8 (m.ep / 65536), .int .u8 (m.log % 256), .int .u8 ((m.nw.length : Int) % 256), .int .u8 ((m.od.length : Int) % 256)].toList)) := ⟨rfl, .inr ⟨w1.heap.size, 7, _, rfl, HS1.out, hr3, Nat.le_refl _, by decide, rfl, rfl⟩⟩
    have hL : (m.nw ++ m.od).length ≤ 2000 := by simp; omega
    have HEQ : Hid (m.bytes = strOfNums ([77, m.ep % 256, m.ep / 256 % 256, m.ep / 65536, m.log % 256, (m.nw.length : Int) % 256, (m.od.length : Int) % 256] ++ (m.nw ++ m.od).map (· % 256))) := rfl
    clear hb3 hr3 hi3 ho3 hcell HCC HB2 HROW HS1 hlt
    generalize m.nw ++ m.od = l at *
    have hL2 : (l.length : Int) ≤ 2000 := by omega
    go_wp2_with fail
    go_loopw [5, 43] (fun u i wr => ∃ k : Nat, k ≤ l.length ∧ i = .int .i64 k ∧ Hid (wr.ownsRow w.heap.size 5 1 u (7 + k) (#[.int .u8 77, .int .u8 (m.ep % 256), .int .u8 (m.ep / 256 % 256), .int .u8 (m.ep / 65536), .int .u8 (m.log % 256), .int .u8 ((m.nw.length : Int) % 256), .int .u8 ((m.od.length : Int) % 256)].toList ++ (l.take k).map (fun x => Value.int .u8 (x % 256)))) ∧ Below w.heap.size w wr ∧ Hid (Ints w.heap.size wr (.slice A3 l.length c3) l)) (fun _ i _ => l.length - (intOf i).toNat)
    case atStart => exact ⟨0, Nat.zero_le _, rfl, HO3.out, HB3.out, HI3.out⟩
    case round =>
      obtain ⟨k, hk, rfl, hown, hbl, hin⟩ := hrel
      by_cases hlt : k < l.length
      · obtain ⟨x, hx, htk, _⟩ := getElem?_of_lt hlt
        obtain ⟨A4, c4, e4, _, _, hcell⟩ := hin.out.form
        cases e4
        obtain ⟨b, o, rfl, hb, d1⟩ := hcell k x hx
        have g1 : (0 : Int) ≤ (k : Int) := by omega
        have g2 : (k : Int) < (l.length : Int) := by omega
        have HT := Lib.hid htk
        obtain ⟨i0, hi, hz0, hz1, hz2⟩ := info_parts info_u8
        have hbs := hbl.size
        have hown' := Lib.hid (own_alloc hown.out (.cells #[.int .u8 (x % 256)] 5))
        have hone := Lib.hid (Rd.of_own (B := B) (own_one (base := 0) (Blk.new wr 5 #[.int .u8 (x % 256)]) (by omega)))
        have HI' := Lib.hid (hin.out.below ((Below.refl _ _).alloc (Nat.le_refl _) (.cells #[.int .u8 (x % 256)] 5)))
        have HB' := Lib.hid (hbl.alloc hbl.size (.cells #[.int .u8 (x % 256)] 5))
        clear hx htk hcell
        go_wp2_with (at_builtin; go_loud (refine wpList_append_rd _ rfl (.tmp 47) (.tmp 50) 117 rfl w.heap.size 5 i0 _ 1 1 Tryz.underlying117 hi hz0 hz1 hz2 rfl (by decide) u5 _ _ rfl hown'.out B 5 _ 1 _ rfl hone.out (by simp [Value.oneCell']) (by unfold maxLen; omega) (by omega) (by simp; omega) ?_); intro v4 w4 hown4 hg4 hat4)
        have hb4 := below_own HB'.out (Nat.le_refl _) hown'.out hg4
        have hi4 := ints_grown HI'.out hown'.out (Nat.le_refl _) (by decide) hg4
        have HO4 : Hid (w4.ownsRow w.heap.size 5 1 v4 (7 + (k + 1)) (#[.int .u8 77, .int .u8 (m.ep % 256), .int .u8 (m.ep / 256 % 256), .int .u8 (m.ep / 65536), .int .u8 (m.log % 256), .int .u8 ((m.nw.length : Int) % 256), .int .u8 ((m.od.length : Int) % 256)].toList ++ (l.take (k + 1)).map (fun x => Value.int .u8 (x % 256)))) := by
          rw [Hid, HT.out, ← Nat.add_assoc]
          simpa using hown4
        have HI4 := Lib.hid hi4
        clear hi hz0 hz1 hz2 hg4 hat4 hown4 hi4
        go_roundw
        case rel => exact ⟨k + 1, by omega, by go_num, HO4, hb4, HI4⟩
        case measure => simp [intOf] <;> omega
      · have hkl : k = l.length := by omega
        subst hkl
        rw [List.take_length] at hown
        have hrd := Rd.of_own (B := w.heap.size) hown.out
        obtain ⟨A5, c5, rfl⟩ := rd_form' hrd
        obtain ⟨b5, o5, rfl, _, _, hc5⟩ := rd_at' hrd (by omega)
        have hcv := fun T hT => run_convert_bytes_arg (P := Tryz.prog) wr 117 5 Tryz.underlying117 Tryz.underlying5 b5 o5 (7 + l.length) c5 ([77, m.ep % 256, m.ep / 256 % 256, m.ep / 65536, m.log % 256, (m.nw.length : Int) % 256, (m.od.length : Int) % 256] ++ l.map (· % 256)) (by simp <;> omega) (fun i hi => by
          refine hc5 i _ ?_
          have e : #[.int .u8 77, .int .u8 (m.ep % 256), .int .u8 (m.ep / 256 % 256), .int .u8 (m.ep / 65536), .int .u8 (m.log % 256), .int .u8 ((m.nw.length : Int) % 256), .int .u8 ((m.od.length : Int) % 256)].toList ++ l.map (fun x => Value.int .u8 (x % 256)) = ([77, m.ep % 256, m.ep / 256 % 256, m.ep / 65536, m.log % 256, (m.nw.length : Int) % 256, (m.od.length : Int) % 256] ++ l.map (· % 256)).map (.int .u8) := by simp
          rw [e, List.getElem?_map, List.getD_eq_getElem?_getD, List.getElem?_eq_getElem (by simp <;> omega)]
          rfl) T hT
        have hcv2 := hcv 9 Tryz.underlying9
        rw [← HEQ.out] at hcv2
        clear hcv hc5 hrd hown HEQ
        go_wp2_with fail
        exact bodyPost_ret (v := .tuple #[.string m.bytes, .nilIface]) (by simp [results, Tryz.results44, go_sem] <;> rfl) rfl ⟨by rw [mbytesS, HF.out]; rfl, hbl⟩
  · have he : errV m.fault = .iface 39 (.int .i64 m.fault) := if_neg hf
    have HS : Hid (mbytesS m = ByteArray.empty) := if_neg hf
    rw [he] at HCK
    have HE := Lib.hid he
    clear hf he
    go_enter Tryz.func44, Tryz.ntmps44
    go_wp2_with fail
    refine HCK.out.mono ?_
    rintro e w1 ⟨rfl, hb1⟩
    have HB1 : Hid (Below w.heap.size w w1) := ((Below.refl _ _).alloc (Nat.le_refl _) _).trans (hb1.mono (by simp))
    clear hb1 HCK
    go_wp2_with fail
    exact bodyPost_ret (v := .tuple #[.string ByteArray.empty, .iface 39 (.int .i64 m.fault)]) (by simp [results, Tryz.results44, go_sem] <;> rfl) rfl ⟨by rw [HS.out, HE.out], HB1.out⟩
end Go.Proofs.YtaepdbkfaoiimabGreatDoor
/- The contract of manifest.Parse. Conditions: none but the sizes of any memory. -/
set_option linter.unusedVariables false
set_option linter.unusedSimpArgs false
namespace Go.Proofs.YtaepdbkfaoiimabGreatDoor
open Go.RowKit
attribute [local go_sem] bt_idx bt_wrap bt_extract

def merr (s : ByteArray) : Nat := if manOf s = none then 4 else 0
theorem own_other {w w' : World} {base e size n : Nat} {v : Value} {xs : List Value} {row : Option Nat} (h : w.ownsRow base e size v n xs) (hg : w.grownBy w' row) (hr : ∀ g, v.ownBlock = some g → row ≠ some g) : w'.ownsRow base e size v n xs := by
  refine ⟨h.1, ?_⟩
  rcases h.2 with hn | ⟨g, cap, cur, h1, hg', hh, hrest⟩
  · exact .inl hn
  · exact .inr ⟨g, cap, cur, h1, hg', (hg.block g (heap_lt hh) (hr g (by rw [h1]; rfl)).symm).trans hh, hrest⟩
theorem blk_other {w w' : World} {g T e base size n : Nat} {cs : Array Value} {u : Value} {xs : List Value} (h : Blk w g T cs) (ho : w.ownsRow base e size u n xs) (he : e ≠ T) (hg : w.grownBy w' u.ownBlock) : Blk w' g T cs :=
  (hg.block g h.lt fun e' => by
    obtain ⟨c, hc⟩ := own_type ho e'.symm
    unfold Blk at h
    rw [h] at hc
    injection hc with hc
    injection hc with _ e2
    exact he e2.symm).trans h

theorem store4 {w : World} {g : Nat} {T : TypeId} {a0 a1 a2 a3 : Value} (h : Blk w g T #[a0, a1, a2, a3]) (b0 b1 b2 b3 : Value) :
    Blk ((((w.setCell ⟨g, 0, none⟩ b0).setCell ⟨g, 1, none⟩ b1).setCell ⟨g, 2, none⟩ b2).setCell ⟨g, 3, none⟩ b3) g T #[b0, b1, b2, b3] := (((h.set_ 0 _).set_ 1 _).set_ 2 _).set_ 3 _
theorem below4 {n g : Nat} {w w' : World} (h : Below n w w') (hg : n ≤ g) (b0 b1 b2 b3 : Value) :
    Below n w ((((w'.setCell ⟨g, 0, none⟩ b0).setCell ⟨g, 1, none⟩ b1).setCell ⟨g, 2, none⟩ b2).setCell ⟨g, 3, none⟩ b3) :=
  (((h.setCell (p := ⟨g, 0, none⟩) hg _).setCell (p := ⟨g, 1, none⟩) hg _).setCell (p := ⟨g, 2, none⟩) hg _).setCell (p := ⟨g, 3, none⟩) hg _
theorem blk_far4 {w : World} {g g' : Nat} {T : TypeId} {cs : Array Value} (h : Blk w g T cs) (hne : g ≠ g') (b0 b1 b2 b3 : Value) :
    Blk ((((w.setCell ⟨g', 0, none⟩ b0).setCell ⟨g', 1, none⟩ b1).setCell ⟨g', 2, none⟩ b2).setCell ⟨g', 3, none⟩ b3) g T cs :=
  (((h.far (p := ⟨g', 0, none⟩) hne _).far (p := ⟨g', 1, none⟩) hne _).far (p := ⟨g', 2, none⟩) hne _).far (p := ⟨g', 3, none⟩) hne _
theorem range_at {α : Type} (f : Nat → α) {n k : Nat} (h : k < n) : ((List.range n).map f).take (k + 1) = ((List.range n).map f).take k ++ [f k] := by
  have h1 : k < ((List.range n).map f).length := by simpa using h
  rw [List.take_succ_eq_append_getElem h1]
  simp
theorem own_ne_blk {w : World} {base e size n g T : Nat} {v : Value} {xs : List Value} {cs : Array Value} (h : w.ownsRow base e size v n xs) (hb : Blk w g T cs) (he : e ≠ T) : v.ownBlock ≠ some g := fun e' => by
  obtain ⟨c, hc⟩ := own_type h e'
  unfold Blk at hb
  rw [hb] at hc
  injection hc with hc
  injection hc with _ e2
  exact he e2.symm
theorem own_blt {w : World} {base e size n g : Nat} {v : Value} {xs : List Value} (h : w.ownsRow base e size v n xs) (hg : v.ownBlock = some g) : g < w.heap.size := by
  obtain ⟨c, hc⟩ := own_type h hg
  exact heap_lt hc
/-- One row of numbers grows by one, its slice lies in block G; another row and another block stay. -/
theorem step_rows {wr w4 : World} {base G R n1 n2 n4 i : Nat} {v1 v2 v4 x : Value} {xs1 xs2 xs4 : List Value} {csG csR : Array Value} (hG : Blk wr G 74 csG) (hR : Blk wr R 74 csR)
    (h1 : wr.ownsRow base 3 1 v1 n1 xs1) (h2 : wr.ownsRow base 3 1 v2 n2 xs2) (hne : ∀ g, v1.ownBlock = some g → v2.ownBlock ≠ some g)
    (hg : (wr.alloc (.cells #[x] 3)).grownBy w4 v1.ownBlock) (h4 : w4.ownsRow base 3 1 v4 n4 xs4) (hat : v4.ownBlock = v1.ownBlock ∨ v4.ownBlock = some (wr.alloc (.cells #[x] 3)).heap.size) (hGR : R ≠ G) :
    Blk (w4.setCell ⟨G, i, none⟩ v4) G 74 (csG.setIfInBounds i v4) ∧ Blk (w4.setCell ⟨G, i, none⟩ v4) R 74 csR ∧ (w4.setCell ⟨G, i, none⟩ v4).ownsRow base 3 1 v4 n4 xs4 ∧
      (w4.setCell ⟨G, i, none⟩ v4).ownsRow base 3 1 v2 n2 xs2 ∧ (∀ g, v4.ownBlock = some g → v2.ownBlock ≠ some g) := by
  have hG4 := blk_other (hG.alloc (.cells #[x] 3)) (own_alloc h1 (.cells #[x] 3)) (by decide) hg
  have hR4 := blk_other (hR.alloc (.cells #[x] 3)) (own_alloc h1 (.cells #[x] 3)) (by decide) hg
  have h24 := own_other (own_alloc h2 (.cells #[x] 3)) hg (fun g e1 e2 => hne g e2 e1)
  refine ⟨hG4.set_ _ _, hR4.far (p := ⟨G, i, none⟩) hGR _, ownsRow_setCell_other h4 (a := ⟨G, i, none⟩) (own_ne_blk h4 hG4 (by decide)) _, ownsRow_setCell_other h24 (a := ⟨G, i, none⟩) (own_ne_blk h24 hG4 (by decide)) _, fun g e1 e2 => ?_⟩
  rcases hat with hat | hat
  · exact hne g (hat ▸ e1) e2
  · have := own_blt h2 e2
    rw [hat] at e1
    injection e1 with e1
    rw [World.size_alloc] at e1
    omega
theorem Rd.far' {B T sz n : Nat} {w : World} {v : Value} {xs : List Value} (h : Rd B T sz w v n xs) {g o : Nat} {cs : Array Value} {T' : TypeId} {fz : Nat × Nat} (hg : w.heap[g]? = some (.cells cs T' fz)) (hB : B ≤ g) (hT : T' ≠ T) (x : Value) :
    Rd B T sz (w.setCell ⟨g, o, none⟩ x) v n xs := by
  refine h.keep fun k hk hlt => Below.heap_setCell _ _ _ _ fun e => ?_
  have e' : k = g := e
  subst e'
  rcases hk with hk | ⟨cs', fz', hk⟩
  · omega
  · rw [hg] at hk
    injection hk with hk
    injection hk with _ e
    exact hT e
theorem ints_far4 {w : World} {g B : Nat} {v : Value} {l : List Int} {cs : Array Value} (h : Ints 0 w v l) (hb : Blk w g 74 cs) (b0 b1 b2 b3 : Value) :
    Ints B ((((w.setCell ⟨g, 0, none⟩ b0).setCell ⟨g, 1, none⟩ b1).setCell ⟨g, 2, none⟩ b2).setCell ⟨g, 3, none⟩ b3) v l :=
  Rd.mono (Rd.far' (Rd.far' (Rd.far' (Rd.far' h hb (Nat.zero_le _) (by decide) _) (hb.set_ 0 _) (Nat.zero_le _) (by decide) _) ((hb.set_ 0 _).set_ 1 _) (Nat.zero_le _) (by decide) _) (((hb.set_ 0 _).set_ 1 _).set_ 2 _) (Nat.zero_le _) (by decide) _) (Nat.zero_le B)
set_option maxRecDepth 20000 in
set_option maxHeartbeats 8000000 in
theorem mparse_any (B : Nat) (s : ByteArray) (w : World) (hs : s.size ≤ 9223372036854775807) :
    Calls Tryz.prog 83 #[.string s] w fun e w' => ∃ v, e = .returned (.tuple #[v, errV (merr s)]) ∧ ManV B w' v ((manOf s).getD Man.zero) ∧ Below w.heap.size w w' := by
  have finN : ∀ (wr : World) (tmps : Array Value), manOf s = none → Below w.heap.size w wr → Blk wr w.heap.size 74 #[.int .i64 0, .int .i64 0, .slice none 0 0, .slice none 0 0] → tmps[2]? = some (.pointer (some ⟨w.heap.size, 0, none⟩)) → tmps[3]? = some (errV 4) →
      bodyPost Tryz.prog Tryz.f83 (fun e w' => ∃ v, e = .returned (.tuple #[v, errV (merr s)]) ∧ ManV B w' v ((manOf s).getD Man.zero) ∧ Below w.heap.size w w') .ret { tmps := tmps, defers := [] } wr := by
    intro wr tmps hn hb hk t2 t3
    have y0 := hk.cell 0
    have y1 := hk.cell 1
    have y2 := hk.cell 2
    have y3 := hk.cell 3
    simp at y0 y1 y2 y3
    refine bodyPost_ret (v := .tuple #[.agg #[.int .i64 0, .int .i64 0, .slice none 0 0, .slice none 0 0], errV 4]) (by simp [results, Tryz.results83, go_sem, t2, t3, y0, y1, y2, y3]) rfl ⟨_, by rw [merr, if_pos hn], by rw [hn]; exact ManV.zero _ _, hb⟩
  have finS : ∀ (wr : World) (tmps : Array Value) (a0 a1 : Int) (a2 a3 : Value), manOf s = some (manAt s) → Below w.heap.size w wr → Blk wr w.heap.size 74 #[.int .i64 a0, .int .i64 a1, a2, a3] → ManV B wr (.agg #[.int .i64 a0, .int .i64 a1, a2, a3]) (manAt s) → (∃ A n c, a2 = .slice A n c) → (∃ A n c, a3 = .slice A n c) → tmps[2]? = some (.pointer (some ⟨w.heap.size, 0, none⟩)) → tmps[3]? = some .nilIface →
      bodyPost Tryz.prog Tryz.f83 (fun e w' => ∃ v, e = .returned (.tuple #[v, errV (merr s)]) ∧ ManV B w' v ((manOf s).getD Man.zero) ∧ Below w.heap.size w w') .ret { tmps := tmps, defers := [] } wr := by
    rintro wr tmps a0 a1 _ _ hn hb hk hm ⟨A2, n2, c2, rfl⟩ ⟨A3, n3, c3, rfl⟩ t2 t3
    have y0 := hk.cell 0
    have y1 := hk.cell 1
    have y2 := hk.cell 2
    have y3 := hk.cell 3
    simp at y0 y1 y2 y3
    refine bodyPost_ret (v := .tuple #[.agg #[.int .i64 a0, .int .i64 a1, .slice A2 n2 c2, .slice A3 n3 c3], .nilIface]) (by simp [results, Tryz.results83, go_sem, t2, t3, y0, y1, y2, y3]) rfl ⟨_, by rw [merr, if_neg (by rw [hn]; simp)]; rfl, by rw [hn]; exact hm, hb⟩
  have FIN2 := Lib.hid finS
  clear finS
  have FIN := Lib.hid finN
  clear finN
  by_cases b1 : s.size < 7
  · have HN : Hid (manOf s = none) := by rw [Hid, manOf, if_pos (.inl b1)]
    have t1 : decide ((s.size : Int) < 7) = true := decide_eq_true (by omega)
    clear b1
    go_enter Tryz.func83, Tryz.ntmps83
    go_wp2_with fail
    go_quiet (fail)
    go_wp2_with fail
    exact FIN.out _ _ HN.out (below4 (below_drewN' ((Below.refl w.heap.size w).alloc (Nat.le_refl _) _) nq) (Nat.le_refl _) _ _ _ _) (store4 (Blk.drewN (Blk.new w 74 #[.int .i64 0, .int .i64 0, .slice none 0 0, .slice none 0 0]) nq) _ _ _ _) rfl rfl
  have t1 : decide ((s.size : Int) < 7) = false := decide_eq_false (by omega)
  have j0 : 0 < s.size := by omega
  have j1 : (1 : Int) < (s.size : Int) := by omega
  have j2 : (2 : Int) < (s.size : Int) := by omega
  have j3 : (3 : Int) < (s.size : Int) := by omega
  have j4 : (4 : Int) < (s.size : Int) := by omega
  have j5 : (5 : Int) < (s.size : Int) := by omega
  have j6 : (6 : Int) < (s.size : Int) := by omega
  by_cases b2 : bt s 0 ≠ 77
  · have HN : Hid (manOf s = none) := by rw [Hid, manOf, if_pos (.inr (.inl b2))]
    have t2 : ((bt s 0 : Int) != 77) = true := by rw [bne_iff_ne]; omega
    clear b2
    go_enter Tryz.func83, Tryz.ntmps83
    go_wp2_with fail
    go_quiet (fail)
    go_wp2_with fail
    exact FIN.out _ _ HN.out (below4 (below_drewN' ((Below.refl w.heap.size w).alloc (Nat.le_refl _) _) nq) (Nat.le_refl _) _ _ _ _) (store4 (Blk.drewN (Blk.new w 74 #[.int .i64 0, .int .i64 0, .slice none 0 0, .slice none 0 0]) nq) _ _ _ _) rfl rfl
  have b2' : bt s 0 = 77 := by omega
  have t2 : ((bt s 0 : Int) != 77) = false := by rw [b2']; rfl
  have t2' : ((bt s 0 : Int) == 77) = true := by rw [b2']; rfl
  by_cases b3 : s.size < 7 + bt s 5 + bt s 6
  · have HN : Hid (manOf s = none) := by rw [Hid, manOf, if_pos (.inr (.inr b3))]
    have t3 : decide ((s.size : Int) < 7 + (bt s 5 : Int) + (bt s 6 : Int)) = true := decide_eq_true (by omega)
    have l5 := bt_lt s 5
    have l6 := bt_lt s 6
    clear b2 b2' b3
    go_enter Tryz.func83, Tryz.ntmps83
    go_wp2_with fail
    go_quiet (fail)
    go_wp2_with fail
    exact FIN.out _ _ HN.out (below4 (below_drewN' ((Below.refl w.heap.size w).alloc (Nat.le_refl _) _) nq) (Nat.le_refl _) _ _ _ _) (store4 (Blk.drewN (Blk.new w 74 #[.int .i64 0, .int .i64 0, .slice none 0 0, .slice none 0 0]) nq) _ _ _ _) rfl rfl
  have HMO : Hid (manOf s = if (manAt s).fault = 0 then some (manAt s) else none) := by rw [Hid, manOf, if_neg (by omega)]
  have t3 : decide ((s.size : Int) < 7 + (bt s 5 : Int) + (bt s 6 : Int)) = false := decide_eq_false (by omega)
  have l1 := bt_lt s 1
  have l2 := bt_lt s 2
  have l3 := bt_lt s 3
  have l4 := bt_lt s 4
  have l5 := bt_lt s 5
  have l6 := bt_lt s 6
  have HB3 : Hid (7 + bt s 5 + bt s 6 ≤ s.size) := by rw [Hid]; omega
  clear b2 b2' b3
  go_enter Tryz.func83, Tryz.ntmps83
  go_wp2_with fail
  go_quiet (fail)
  go_wp2_with fail
  have hnb := Blk.new ((w.alloc (.cells #[.int .i64 0, .int .i64 0, .slice none 0 0, .slice none 0 0] 74)).drewN (nq + 1)) 74 #[.int .i64 0, .int .i64 0, .slice none 0 0, .slice none 0 0]
  have k0 := hnb.cell 0
  have k1 := hnb.cell 1
  have k2 := hnb.cell 2
  have k3 := hnb.cell 3
  have z0 := hnb.frozen 0
  have z1 := hnb.frozen 1
  have z2 := hnb.frozen 2
  have z3 := hnb.frozen 3
  simp at k0 k1 k2 k3 z0 z1 z2 z3
  clear hnb
  have HNQ : Hid (nq = nq) := rfl
  go_region
  clear k0 k1 k2 k3 z0 z1 z2 z3
  have hb2 : Below w.heap.size w (((w.alloc (.cells #[.int .i64 0, .int .i64 0, .slice none 0 0, .slice none 0 0] 74)).drewN (nq + 1)).alloc (.cells #[.int .i64 ((bt s 1 : Int) + 256 * (bt s 2 : Int) + 65536 * (bt s 3 : Int)), .int .i64 (bt s 4 : Int), .slice none 0 0, .slice none 0 0] 74)) := (below_drewN' ((Below.refl w.heap.size w).alloc (Nat.le_refl _) _) (nq + 1)).alloc (by simp) _
  have hk2 : Blk (((w.alloc (.cells #[.int .i64 0, .int .i64 0, .slice none 0 0, .slice none 0 0] 74)).drewN (nq + 1)).alloc (.cells #[.int .i64 ((bt s 1 : Int) + 256 * (bt s 2 : Int) + 65536 * (bt s 3 : Int)), .int .i64 (bt s 4 : Int), .slice none 0 0, .slice none 0 0] 74)) (w.heap.size + 1) 74 #[.int .i64 ((bt s 1 : Int) + 256 * (bt s 2 : Int) + 65536 * (bt s 3 : Int)), .int .i64 (bt s 4 : Int), .slice none 0 0, .slice none 0 0] := by
    have h := Blk.new ((w.alloc (.cells #[.int .i64 0, .int .i64 0, .slice none 0 0, .slice none 0 0] 74)).drewN (nq + 1)) 74 #[.int .i64 ((bt s 1 : Int) + 256 * (bt s 2 : Int) + 65536 * (bt s 3 : Int)), .int .i64 (bt s 4 : Int), .slice none 0 0, .slice none 0 0]
    have e : ((w.alloc (.cells #[.int .i64 0, .int .i64 0, .slice none 0 0, .slice none 0 0] 74)).drewN (nq + 1)).heap.size = w.heap.size + 1 := World.size_alloc w _
    rw [e] at h
    exact h
  have hr2 : Blk (((w.alloc (.cells #[.int .i64 0, .int .i64 0, .slice none 0 0, .slice none 0 0] 74)).drewN (nq + 1)).alloc (.cells #[.int .i64 ((bt s 1 : Int) + 256 * (bt s 2 : Int) + 65536 * (bt s 3 : Int)), .int .i64 (bt s 4 : Int), .slice none 0 0, .slice none 0 0] 74)) w.heap.size 74 #[.int .i64 0, .int .i64 0, .slice none 0 0, .slice none 0 0] := (Blk.drewN (Blk.new w 74 #[.int .i64 0, .int .i64 0, .slice none 0 0, .slice none 0 0]) (nq + 1)).alloc _
  generalize (((w.alloc (.cells #[.int .i64 0, .int .i64 0, .slice none 0 0, .slice none 0 0] 74)).drewN (nq + 1)).alloc (.cells #[.int .i64 ((bt s 1 : Int) + 256 * (bt s 2 : Int) + 65536 * (bt s 3 : Int)), .int .i64 (bt s 4 : Int), .slice none 0 0, .slice none 0 0] 74)) = w2 at *
  have HB2 := Lib.hid hb2
  have HK2 := Lib.hid hk2
  have HR2 := Lib.hid hr2
  clear hb2 hk2 hr2 HNQ
  go_wp2_with fail
  go_quiet (fail)
  go_wp2_with fail
  go_loopw [54] (fun i wr => ∃ (k : Nat) (vN vO : Value), i = .int .i64 (k : Int) ∧ k ≤ bt s 5 + bt s 6 ∧ Hid (Blk wr (w.heap.size + 1) 74 #[.int .i64 ((bt s 1 : Int) + 256 * (bt s 2 : Int) + 65536 * (bt s 3 : Int)), .int .i64 (bt s 4 : Int), vN, vO]) ∧ Hid (Blk wr w.heap.size 74 #[.int .i64 0, .int .i64 0, .slice none 0 0, .slice none 0 0]) ∧
      Hid (wr.ownsRow w.heap.size 3 1 vN (min k (bt s 5)) (((manAt s).nw.take k).map (.int .i64))) ∧ Hid (wr.ownsRow w.heap.size 3 1 vO (k - bt s 5) (((manAt s).od.take (k - bt s 5)).map (.int .i64))) ∧ Hid (∀ g, vN.ownBlock = some g → vO.ownBlock ≠ some g) ∧ Below w.heap.size w wr) (fun i _ => bt s 5 + bt s 6 - (intOf i).toNat)
  case atStart => exact ⟨0, .slice none 0 0, .slice none 0 0, rfl, Nat.zero_le _, Blk.drewN HK2.out _, Blk.drewN HR2.out _, by rw [Hid]; simpa using World.ownsRow_nil _ _ _ _, by rw [Hid]; simpa using World.ownsRow_nil _ _ _ _, fun g h => by (cases h), below_drewN' HB2.out _⟩
  case round =>
    obtain ⟨k, vN, vO, rfl, hk, hm, hres, hoN, hoO, hne, hbl⟩ := hrel
    obtain ⟨AN, cN, rfl⟩ := rd_form' (Rd.of_own (B := 0) hoN.out)
    obtain ⟨AO, cO, rfl⟩ := rd_form' (Rd.of_own (B := 0) hoO.out)
    have y0 := hm.out.cell 0
    have y1 := hm.out.cell 1
    have y2 := hm.out.cell 2
    have y3 := hm.out.cell 3
    have f2 := hm.out.frozen 2
    have f3 := hm.out.frozen 3
    have hml := hm.out.lt
    have HM2 := Lib.hid hm.out
    simp at y0 y1 y2 y3
    by_cases hlt : k < bt s 5 + bt s 6
    · have i0 : (0 : Int) ≤ 7 + (k : Int) := by omega
      have i1 : 7 + (k : Int) < (s.size : Int) := by have := HB3.out; omega
      have i2 : (7 + (k : Int)).toNat = 7 + k := by omega
      have i3 : 7 + k < s.size := by have := HB3.out; omega
      have l7 := bt_lt s (7 + k)
      have hbs := hbl.size
      obtain ⟨ii, hi, hz0, hz1, hz2⟩ := info_parts info_int
      have hone := Lib.hid (Rd.of_own (B := B) (own_one (base := 0) (Blk.new wr 3 #[.int .i64 (bt s (7 + k) : Int)]) (by omega)))
      have HB' := Lib.hid (hbl.alloc hbl.size (.cells #[.int .i64 (bt s (7 + k) : Int)] 3))
      have HI2 := Lib.hid i2
      clear i2
      by_cases hN : k < bt s 5
      · have t5 : decide ((k : Int) < (bt s 5 : Int)) = true := decide_eq_true (by omega)
        have hown' := Lib.hid (own_alloc hoN.out (.cells #[.int .i64 (bt s (7 + k) : Int)] 3))
        have hmn : min k (bt s 5) ≤ 1000000 := by omega
        go_wp2_with (at_builtin; go_loud (refine wpList_append_rd _ rfl (.tmp 68) (.tmp 70) 72 rfl w.heap.size 3 ii _ 1 8 Tryz.underlying72 hi hz0 hz1 hz2 rfl (by decide) _ _ _ rfl hown'.out B 3 _ 1 _ rfl hone.out (by simp [Value.oneCell']) (by unfold maxLen; omega) (by omega) (by simp; omega) ?_); intro v4 w4 hown4 hg4 hat4; have hst := step_rows (i := 2) hm.out hres.out hoN.out hoO.out hne.out hg4 hown4 hat4 (by omega); have hb4 := below_own HB'.out (Nat.le_refl _) hown'.out hg4; obtain ⟨A4, c4, rfl⟩ := rd_form' (Rd.of_own (B := 0) hown4); have hG4 := blk_other (hm.out.alloc (.cells #[.int .i64 (bt s (7 + k) : Int)] 3)) hown'.out (by decide) hg4; have q2 := hG4.cell 2; have q3 := hG4.frozen 2; simp at q2; have HST := Lib.hid hst; have HB4 := Lib.hid hb4; clear hst hb4 hG4 hown4 hg4 hat4)
        go_roundw
        case rel =>
          obtain ⟨r1, r2, r3, r4, r5⟩ := HST.out
          refine ⟨k + 1, _, _, by go_num, by omega, r1, r2, ?_, ?_, r5, HB4.out.setCell (p := ⟨w.heap.size + 1, 2, none⟩) (by show w.heap.size ≤ w.heap.size + 1; omega) _⟩
          · rw [Hid, show (manAt s).nw.take (k + 1) = (manAt s).nw.take k ++ [(bt s (7 + k) : Int)] from range_at _ hN, show min (k + 1) (bt s 5) = min k (bt s 5) + 1 by omega]
            simpa using r3
          · rw [Hid, show k + 1 - bt s 5 = k - bt s 5 by omega]
            exact r4
        case measure => simp [intOf] <;> omega
      · have t5 : decide ((k : Int) < (bt s 5 : Int)) = false := decide_eq_false (by omega)
        have hown' := Lib.hid (own_alloc hoO.out (.cells #[.int .i64 (bt s (7 + k) : Int)] 3))
        have hmn : k - bt s 5 ≤ 1000000 := by omega
        have hne2 : Hid (∀ g, (Value.slice AO (k - bt s 5) cO).ownBlock = some g → (Value.slice AN (min k (bt s 5)) cN).ownBlock ≠ some g) := fun g e1 e2 => hne.out g e2 e1
        go_wp2_with (at_builtin; go_loud (refine wpList_append_rd _ rfl (.tmp 74) (.tmp 76) 72 rfl w.heap.size 3 ii _ 1 8 Tryz.underlying72 hi hz0 hz1 hz2 rfl (by decide) _ _ _ rfl hown'.out B 3 _ 1 _ rfl hone.out (by simp [Value.oneCell']) (by unfold maxLen; omega) (by omega) (by simp; omega) ?_); intro v4 w4 hown4 hg4 hat4; have hst := step_rows (i := 3) hm.out hres.out hoO.out hoN.out hne2.out hg4 hown4 hat4 (by omega); have hb4 := below_own HB'.out (Nat.le_refl _) hown'.out hg4; obtain ⟨A4, c4, rfl⟩ := rd_form' (Rd.of_own (B := 0) hown4); have hG4 := blk_other (hm.out.alloc (.cells #[.int .i64 (bt s (7 + k) : Int)] 3)) hown'.out (by decide) hg4; have q2 := hG4.cell 3; have q3 := hG4.frozen 3; simp at q2; have HST := Lib.hid hst; have HB4 := Lib.hid hb4; clear hst hb4 hG4 hown4 hg4 hat4)
        go_roundw
        case rel =>
          obtain ⟨r1, r2, r3, r4, r5⟩ := HST.out
          have hk2 : k - bt s 5 < bt s 6 := by omega
          have e7 : 7 + bt s 5 + (k - bt s 5) = 7 + k := by omega
          refine ⟨k + 1, _, _, by go_num, by omega, r1, r2, ?_, ?_, fun g e1 e2 => r5 g e2 e1, HB4.out.setCell (p := ⟨w.heap.size + 1, 3, none⟩) (by show w.heap.size ≤ w.heap.size + 1; omega) _⟩
          · have e : (manAt s).nw.length = bt s 5 := by simp [manAt]
            rw [Hid, show (manAt s).nw.take (k + 1) = (manAt s).nw.take k by rw [List.take_of_length_le (by omega), List.take_of_length_le (by omega)], show min (k + 1) (bt s 5) = min k (bt s 5) by omega]
            exact r4
          · have e : (manAt s).od.take (k - bt s 5 + 1) = (manAt s).od.take (k - bt s 5) ++ [(bt s (7 + bt s 5 + (k - bt s 5)) : Int)] := range_at _ hk2
            rw [e7] at e
            rw [Hid, show k + 1 - bt s 5 = k - bt s 5 + 1 by omega, e]
            simpa using r3
        case measure => simp [intOf] <;> omega
    · have hkk : k = bt s 5 + bt s 6 := by omega
      have eN : (manAt s).nw.length = bt s 5 := by simp [manAt]
      have eO : (manAt s).od.length = bt s 6 := by simp [manAt]
      rw [List.take_of_length_le (show (manAt s).nw.length ≤ k by omega)] at hoN
      rw [List.take_of_length_le (show (manAt s).od.length ≤ k - bt s 5 by omega)] at hoO
      have m1 : min k (bt s 5) = (manAt s).nw.length := by omega
      have m2 : k - bt s 5 = (manAt s).od.length := by omega
      rw [m1] at hoN y2
      rw [m2] at hoO y3
      rw [m1, m2] at HM2
      have hman : ∀ B', ManV B' wr (.agg #[.int .i64 ((bt s 1 : Int) + 256 * (bt s 2 : Int) + 65536 * (bt s 3 : Int)), .int .i64 (bt s 4 : Int), .slice AN (manAt s).nw.length cN, .slice AO (manAt s).od.length cO]) (manAt s) := fun B' => ⟨_, _, rfl, Rd.of_own hoN.out, Rd.of_own hoO.out⟩
      have HMAN := Lib.hid hman
      have HCK := Lib.hid (mcheck_any 0 _ (manAt s) wr (hman 0) (by omega) (by omega))
      have HRES := Lib.hid hres.out
      have HBL := Lib.hid hbl
      have u0 := hres.out.cell 0
      have u1 := hres.out.cell 1
      have u2 := hres.out.cell 2
      have u3 := hres.out.cell 3
      simp at u0 u1 u2 u3
      have hrl := hres.out.lt
      clear hman hoN hoO m1 m2 eN eO hne hm f2 f3 hbl t3
      by_cases hf : (manAt s).fault = 0
      · have HM : Hid (manOf s = some (manAt s)) := by rw [Hid, HMO.out, if_pos hf]
        rw [hf, show errV 0 = Value.nilIface from rfl] at HCK
        clear hf
        go_wp2_with fail
        refine HCK.out.mono ?_
        rintro e w6 ⟨rfl, hb6⟩
        have hm6 := HM2.out.below hb6 hml
        have hr6 := HRES.out.below hb6 hrl
        have c0 := hm6.cell 0
        have c1 := hm6.cell 1
        have c2 := hm6.cell 2
        have c3 := hm6.cell 3
        have v0 := hr6.cell 0
        have v1 := hr6.cell 1
        have v2 := hr6.cell 2
        have v3 := hr6.cell 3
        simp at c0 c1 c2 c3 v0 v1 v2 v3
        have x0 := hr6.frozen 0
        have x1 := hr6.frozen 1
        have x2 := hr6.frozen 2
        have x3 := hr6.frozen 3
        have HR6 := Lib.hid hr6
        have HB6 := Lib.hid (HBL.out.trans (hb6.mono HBL.out.size))
        have HMM := Lib.hid ((HMAN.out 0).below hb6)
        clear hm6 hr6 hb6 HCK y0 y1 y2 y3 u0 u1 u2 u3
        go_wp2_with fail
        refine FIN2.out _ _ ((bt s 1 : Int) + 256 * (bt s 2 : Int) + 65536 * (bt s 3 : Int)) (bt s 4 : Int) (.slice AN (manAt s).nw.length cN) (.slice AO (manAt s).od.length cO) HM.out (below4 HB6.out (Nat.le_refl _) _ _ _ _) (store4 HR6.out _ _ _ _) ?_ ⟨_, _, _, rfl⟩ ⟨_, _, _, rfl⟩ rfl rfl
        obtain ⟨vn, vo, e1, e2, e3⟩ := HMM.out
        cases e1
        exact ⟨_, _, rfl, ints_far4 e2 HR6.out _ _ _ _, ints_far4 e3 HR6.out _ _ _ _⟩
      · have HN : Hid (manOf s = none) := by rw [Hid, HMO.out, if_neg hf]
        have he : errV (manAt s).fault = .iface 39 (.int .i64 (manAt s).fault) := if_neg hf
        rw [he] at HCK
        clear hf he
        go_wp2_with fail
        refine HCK.out.mono ?_
        rintro e w6 ⟨rfl, hb6⟩
        have hm6 := HM2.out.below hb6 hml
        have hr6 := HRES.out.below hb6 hrl
        have c0 := hm6.cell 0
        have c1 := hm6.cell 1
        have c2 := hm6.cell 2
        have c3 := hm6.cell 3
        have v0 := hr6.cell 0
        have v1 := hr6.cell 1
        have v2 := hr6.cell 2
        have v3 := hr6.cell 3
        simp at c0 c1 c2 c3 v0 v1 v2 v3
        have x0 := hr6.frozen 0
        have x1 := hr6.frozen 1
        have x2 := hr6.frozen 2
        have x3 := hr6.frozen 3
        have HR6 := Lib.hid hr6
        have HB6 := Lib.hid (HBL.out.trans (hb6.mono HBL.out.size))
        have HMM := Lib.hid ((HMAN.out 0).below hb6)
        clear hm6 hr6 hb6 HCK y0 y1 y2 y3 u0 u1 u2 u3
        go_wp2_with fail
        exact FIN.out _ _ HN.out (below4 HB6.out (Nat.le_refl _) _ _ _ _) (store4 HR6.out _ _ _ _) rfl rfl
end Go.Proofs.YtaepdbkfaoiimabGreatDoor
