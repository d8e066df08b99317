/- The contracts of sheets and acted. Conditions: none but those that each names. -/
import Derived.Test.YtaepdbkfaoiimabMg
import Derived.Deep.WholeRow
import Derived.Laws.StructEq
set_option linter.unusedVariables false
set_option linter.unusedSimpArgs false
namespace Go.Proofs.Ytaepdbkfaoiimab
open Go.RowKit
/-! ### 192 pages in a row -/
def pageV (x : ByteArray × Nat) : List Value := [.string x.1, .int .i64 x.2]
def arrS (f : Nat → ByteArray × Nat) : Array Value := ((List.range 192).flatMap fun i => pageV (f i)).toArray
theorem arrS_size (f : Nat → ByteArray × Nat) : (arrS f).size = 384 := by
  have := flat_size (fun i => pageV (f i)) 2 (fun _ => rfl) (List.range 192)
  simp only [arrS, List.size_toArray, this, List.length_range]
theorem arrS_one (f : Nat → ByteArray × Nat) : (arrS f).all (·.oneCell') = true := by
  rw [Array.all_eq_true_iff_forall_mem]
  intro v hv
  simp only [arrS, List.mem_toArray, List.mem_flatMap, pageV] at hv
  obtain ⟨i, _, hi⟩ := hv
  simp at hi
  rcases hi with rfl | rfl <;> rfl
theorem arrS_at (f : Nat → ByteArray × Nat) {i : Nat} (hi : i < 192) : (arrS f)[i * 2]? = some (.string (f i).1) ∧ (arrS f)[i * 2 + 1]? = some (.int .i64 (f i).2) := by
  have h := fun j hj => flat_at (fun i => pageV (f i)) 2 (fun _ => rfl) (List.range 192) i j i (by simp [hi]) hj
  simp only [arrS, List.getElem?_toArray]
  exact ⟨h 0 (by omega), h 1 (by omega)⟩
theorem arrS_congr {f g : Nat → ByteArray × Nat} (h : ∀ n, n < 192 → f n = g n) : arrS f = arrS g := by
  unfold arrS
  rw [List.flatMap_def, List.flatMap_def]
  congr 2
  exact List.map_congr_left fun n hn => by rw [h n (List.mem_range.1 hn)]
theorem arrS_set (f : Nat → ByteArray × Nat) {i : Nat} (hi : i < 192) (x : ByteArray × Nat) : ((arrS f).setIfInBounds (i * 2) (.string x.1)).setIfInBounds (i * 2 + 1) (.int .i64 x.2) = arrS (fun j => if j = i then x else f j) := by
  apply Array.ext_getElem?
  intro k
  rw [Array.getElem?_setIfInBounds, Array.getElem?_setIfInBounds, Array.size_setIfInBounds, arrS_size]
  by_cases hk : k < 384
  · have e : k = k / 2 * 2 + k % 2 := by omega
    have hj : k / 2 < 192 := by omega
    obtain ⟨a0, a1⟩ := arrS_at f hj
    obtain ⟨b0, b1⟩ := arrS_at (fun j => if j = i then x else f j) hj
    by_cases hji : k / 2 = i
    · rw [if_pos hji] at b0 b1
      rcases Nat.mod_two_eq_zero_or_one k with h2 | h2
      · have ek : k = i * 2 := by omega
        have e3 : k / 2 * 2 = i * 2 := by omega
        rw [e3] at b0
        rw [if_neg (by omega), if_pos ek.symm, if_pos (by omega), ek, b0]
      · have ek : k = i * 2 + 1 := by omega
        have e3 : k / 2 * 2 + 1 = i * 2 + 1 := by omega
        rw [e3] at b1
        rw [if_pos ek.symm, if_pos (by omega), ek, b1]
    · rw [if_neg hji] at b0 b1
      rw [if_neg (by omega), if_neg (by omega)]
      rcases Nat.mod_two_eq_zero_or_one k with h2 | h2
      · have ek : k = k / 2 * 2 := by omega
        rw [ek, a0, b0]
      · have ek : k = k / 2 * 2 + 1 := by omega
        rw [ek, a1, b1]
  · rw [if_neg (by omega), if_neg (by omega), Array.getElem?_eq_none (by rw [arrS_size]; omega), Array.getElem?_eq_none (by rw [arrS_size]; omega)]
/-- What page i of a chip tells. -/
def pageN (c : Chip) (i : Nat) : ByteArray × Nat := c.read ((i / 8 : Nat) : Int) ((i % 8 : Nat) : Int)
def upto (c : Chip) (n : Nat) (i : Nat) : ByteArray × Nat := if i < n then pageN c i else (⟨#[]⟩, 0)
theorem pageN_at (c : Chip) {b p : Nat} (hp : p < 8) : pageN c (b * 8 + p) = c.read (b : Int) (p : Int) := by
  unfold pageN
  rw [show (b * 8 + p) / 8 = b by omega, show (b * 8 + p) % 8 = p by omega]
theorem upto_step (c : Chip) {b p : Nat} (hp : p < 8) : (fun j => if j = b * 8 + p then c.read (b : Int) (p : Int) else upto c (b * 8 + p) j) = upto c (b * 8 + p + 1) := by
  funext j
  unfold upto
  by_cases e : j = b * 8 + p
  · subst e
    rw [if_pos rfl, if_pos (by omega), pageN_at c hp]
  · rw [if_neg e]
    by_cases h : j < b * 8 + p
    · rw [if_pos h, if_pos (by omega)]
    · rw [if_neg h, if_neg (by omega)]
/-- '==' of two pages. -/
theorem eq_sheet (x y : ByteArray) (a b : Int) (w : World) : (Op.equalIn 10000 69 (.agg #[.string x, .int .i64 a]) (.agg #[.string y, .int .i64 b])).run Try.prog w = .ok (decide (x = y ∧ a = b)) w := by
  have u1 := Try.underlying9
  have a1 := Try.isAgg9
  have z1 := Try.sizeOf9
  have u2 := Try.underlying3
  have a2 := Try.isAgg3
  have z2 := Try.sizeOf3
  have hS : Try.prog.underlying 69 = some (.struct (Try.prog.fieldsOf 69)) := by kernel_rfl
  have hp : Try.prog.stoodInHeld 69 = false := by kernel_rfl
  rw [show (10000 : Nat) = 9999 + 1 from rfl, run_equalIn_agg w 9999 _ _ _ hS hp]
  simp only [Program.fieldsOf, Try.underlying69]
  go_simp
  simp only [toList_inj]
  by_cases h1 : x = y <;> by_cases h2 : a = b <;> simp [h1, h2]
theorem guard_sheet (op : BinOp) (p q : Operand) (x y : ByteArray) (a b : Int) (w : World) : (eqGuard op 69 p q (.agg #[.string x, .int .i64 a]) (.agg #[.string y, .int .i64 b])).run Try.prog w = .ok () w :=
  run_eqGuard_agg w op _ p q _ _ (by kernel_rfl)
theorem neq_sheet (x y : ByteArray) (a b : Int) (w : World) : (binOp .neq 69 (.agg #[.string x, .int .i64 a]) (.agg #[.string y, .int .i64 b])).run Try.prog w = .ok (.bool (!decide (x = y ∧ a = b))) w := by
  rw [run_neq_struct, eq_sheet]; rfl
structure ShR (g : Nat) (w : World) (c : Chip) (n : Nat) (wr : World) : Prop where
  z : Blk wr g 71 (arrS fun _ => (⟨#[]⟩, 0))
  s : Blk wr (g + 1) 71 (arrS (upto c n))
  bel : Below g w wr
theorem ShR.drewN {g n : Nat} {w wr : World} {c : Chip} (h : ShR g w c n wr) (k : Nat) : ShR g w c n (wr.drewN k) := ⟨h.z, h.s, below_drewN' h.bel k⟩
theorem ShR.step {g : Nat} {w wr : World} {c : Chip} {b p : Nat} (h : ShR g w c (b * 8 + p) wr) (hb : b < 24) (hp : p < 8) :
    ShR g w c (b * 8 + p + 1) ((wr.setCell ⟨g + 1, b * 16 + p * 2, none⟩ (.string (c.read (b : Int) (p : Int)).1)).setCell ⟨g + 1, b * 16 + p * 2 + 1, none⟩ (.int .i64 (c.read (b : Int) (p : Int)).2)) := by
  have e : b * 16 + p * 2 = (b * 8 + p) * 2 := by omega
  refine ⟨(h.z.far (p := ⟨g + 1, _, none⟩) (by show g ≠ g + 1; omega) _).far (p := ⟨g + 1, _, none⟩) (by show g ≠ g + 1; omega) _, ?_, (h.bel.setCell (p := ⟨g + 1, _, none⟩) (by show g ≤ g + 1; omega) _).setCell (p := ⟨g + 1, _, none⟩) (by show g ≤ g + 1; omega) _⟩
  have := (h.s.set_ ((b * 8 + p) * 2) (.string (c.read (b : Int) (p : Int)).1)).set_ ((b * 8 + p) * 2 + 1) (.int .i64 (c.read (b : Int) (p : Int)).2)
  rw [arrS_set _ (by omega), upto_step c hp] at this
  rw [e]
  exact this
set_option maxRecDepth 100000 in
set_option maxHeartbeats 8000000 in
theorem sheets_any (B p : Nat) (c : Chip) (w : World) (hc : ChipR B w p c) :
    Calls Try.prog 37 #[.pointer (some ⟨p, 0, none⟩)] w fun e w' => e = .returned (.agg (arrS (pageN c))) ∧ Below w.heap.size w w' := by
  have HC := Lib.hid (fun W (hW : Below w.heap.size w W) => hc.below hW)
  have HNU := Lib.hid (fun W => number_any 0 W)
  have hb2 : Below w.heap.size w ((w.alloc (.cells (arrS fun _ => (⟨#[]⟩, 0)) 71)).alloc (.cells (arrS fun _ => (⟨#[]⟩, 0)) 71)) := ((Below.refl _ _).alloc (Nat.le_refl _) _).alloc (by simp) _
  have HR0 : Hid (ShR w.heap.size w c (0 * 8) ((w.alloc (.cells (arrS fun _ => (⟨#[]⟩, 0)) 71)).alloc (.cells (arrS fun _ => (⟨#[]⟩, 0)) 71))) := by
    refine ⟨(Blk.new w _ _).alloc _, ?_, hb2⟩
    have := Blk.new (w.alloc (.cells (arrS fun _ => (⟨#[]⟩, 0)) 71)) 71 (arrS fun _ => (⟨#[]⟩, 0))
    rw [World.size_alloc] at this
    rw [arrS_congr (f := upto c (0 * 8)) (g := fun _ => (⟨#[]⟩, 0)) (fun n _ => by unfold upto; rw [if_neg (by omega)])]
    exact this
  clear hc hb2 HNU
  go_enter Try.func37, Try.ntmps37
  go_wp2_with fail
  generalize hg : w.heap.size = g at *
  have HG := Lib.hid hg
  clear hg
  go_loopw [4] (fun i wr => ∃ b : Nat, b ≤ 24 ∧ i = .int .i64 (b : Int) ∧ Hid (ShR g w c (b * 8) wr)) (fun i _ => (24 - intOf i).toNat)
  case atStart => exact ⟨0, by omega, rfl, HR0.out⟩
  case round =>
    clear HR0
    obtain ⟨b, hb, rfl, hr⟩ := hrel
    by_cases hlt : b < 24
    · have g1 : (b : Int) < 24 := by omega
      have g0 : (0 : Int) ≤ (b : Int) := by omega
      go_wp2_with fail
      go_loopw [5] (fun i wr => ∃ k : Nat, k ≤ 8 ∧ i = .int .i64 (k : Int) ∧ Hid (ShR g w c (b * 8 + k) wr)) (fun i _ => (8 - intOf i).toNat)
      case atStart => exact ⟨0, by omega, rfl, hr.out⟩
      case round =>
        clear hr
        obtain ⟨k, hk, rfl, hr⟩ := hrel
        by_cases hkt : k < 8
        · have g3 : (k : Int) < 8 := by omega
          have g2 : (0 : Int) ≤ (k : Int) := by omega
          have HRD := Lib.hid (cread_any B p c (b : Int) (k : Int) wr (HC.out wr hr.out.bel))
          have HST := Lib.hid ((hr.out.step hlt hkt).drewN 1)
          have HSH := Lib.hid hr.out
          clear hr
          generalize c.read (b : Int) (k : Int) = rd at *
          obtain ⟨rs, rn⟩ := rd
          have HNU := Lib.hid (fun W => number_any rn W)
          go_wp2_with fail
          refine HRD.out.mono ?_
          rintro e w3 ⟨rfl, rfl⟩
          simp only at HST ⊢
          go_wp2_with fail
          refine wp_region_held_drew (S := fun _ => True) (by kernel_rfl) trivial (fun hHeld => ?_)
          refine wpAnyH_take (i := 0) (oi := ⟨some 23, _, _, _, _, _⟩) (v := .int .i64 (b : Int)) rfl (by kernel_rfl) (by kernel_rfl) (by kernel_rfl) (fun _ _ _ h => h) (Or.inl ⟨by rfl, ?_⟩) (by assumption) ?_
          · intro wS hSw
            (try dsimp only at hSw)
            go_simp
          simp only [Act.put, List.setIfInBounds_toArray, List.set_cons_zero, List.set_cons_succ]
          refine wpAnyH_take (i := 1) (oi := ⟨some 24, _, _, _, _, _⟩) (v := .int .i64 (k : Int)) rfl (by kernel_rfl) (by kernel_rfl) (by kernel_rfl) (fun _ _ _ h => h) (Or.inl ⟨by rfl, ?_⟩) (by assumption) ?_
          · intro wS hSw
            (try dsimp only at hSw)
            go_simp
          simp only [Act.put, List.setIfInBounds_toArray, List.set_cons_zero, List.set_cons_succ]
          refine wpAnyH_take (i := 2) (oi := ⟨some 25, _, _, _, _, _⟩) (v := .string rs) rfl (by kernel_rfl) (by kernel_rfl) (by kernel_rfl) (fun _ _ _ h => h) (Or.inl ⟨by rfl, ?_⟩) (by assumption) ?_
          · intro wS hSw
            (try dsimp only at hSw)
            go_simp
          simp only [Act.put, List.setIfInBounds_toArray, List.set_cons_zero, List.set_cons_succ]
          refine wpAnyH_take (i := 3) (oi := ⟨some 26, _, _, _, _, _⟩) (v := errV rn) rfl (by kernel_rfl) (by kernel_rfl) (by kernel_rfl) (fun _ _ _ h => h) (Or.inl ⟨by rfl, ?_⟩) (by assumption) ?_
          · intro wS hSw
            (try dsimp only at hSw)
            go_simp
          simp only [Act.put, List.setIfInBounds_toArray, List.set_cons_zero, List.set_cons_succ]
          refine wpAnyH_take (i := 6) (oi := ⟨some 29, _, _, _, _, _⟩) (v := .pointer (some ⟨g + 1, b * 16, none⟩)) rfl (by kernel_rfl) (by kernel_rfl) (by kernel_rfl) (fun _ _ _ h => h) (Or.inl ⟨by rfl, ?_⟩) (by assumption) ?_
          · intro wS hSw
            (try dsimp only at hSw)
            go_simp
          simp only [Act.put, List.setIfInBounds_toArray, List.set_cons_zero, List.set_cons_succ]
          refine wpAnyH_ready (rs := [4]) (by kernel_rfl) (by simp) ?_
          refine AllReadyH.cons (o := ⟨some 27, _, _, _, _, _⟩) rfl (fun K hK => ?_) AllReadyH.nil
          go_simp
          refine (HNU.out _).mono ?_
          rintro e w5 ⟨rfl, rfl⟩
          refine hK.out _ _ ?_ (fun hHeld => ?_)
          · trivial
          clear hK K
          try simp only [Act.put, List.setIfInBounds_toArray, List.set_cons_zero, List.set_cons_succ]
          refine wpAnyH_take (i := 5) (oi := ⟨some 28, _, _, _, _, _⟩) (v := .agg #[.string rs, .int .i64 rn]) rfl (by kernel_rfl) (by kernel_rfl) (by kernel_rfl) (fun _ _ _ h => h) (Or.inl ⟨by rfl, ?_⟩) (by assumption) ?_
          · intro wS hSw
            (try dsimp only at hSw)
            go_simp
          simp only [Act.put, List.setIfInBounds_toArray, List.set_cons_zero, List.set_cons_succ]
          refine wpAnyH_take (i := 7) (oi := ⟨some 30, _, _, _, _, _⟩) (v := .pointer (some ⟨g + 1, b * 16 + k * 2, none⟩)) rfl (by kernel_rfl) (by kernel_rfl) (by kernel_rfl) (fun _ _ _ h => h) (Or.inl ⟨by rfl, ?_⟩) (by assumption) ?_
          · intro wS hSw
            (try dsimp only at hSw)
            go_simp
          simp only [Act.put, List.setIfInBounds_toArray, List.set_cons_zero, List.set_cons_succ]
          refine wpAnyH_ready (rs := [8]) (by kernel_rfl) (by simp) ?_
          refine AllReadyH.cons (o := ⟨none, _, _, _, _, _⟩) rfl (fun K hK => ?_) AllReadyH.nil
          have q0 := HSH.out.s.cell (b * 16 + k * 2)
          have q1 := HSH.out.s.cell (b * 16 + k * 2 + 1)
          rw [show b * 16 + k * 2 = (b * 8 + k) * 2 by omega, (arrS_at _ (by omega)).1] at q0
          rw [show b * 16 + k * 2 = (b * 8 + k) * 2 by omega, (arrS_at _ (by omega)).2] at q1
          rw [show (b * 8 + k) * 2 = b * 16 + k * 2 by omega] at q0 q1
          have q2 := HSH.out.s.frozen (b * 16 + k * 2)
          have q3 := HSH.out.s.frozen (b * 16 + k * 2 + 1)
          go_simp
          refine hK.out _ _ trivial (fun hHeld => ?_)
          clear hK K
          refine wpAnyH_done (by kernel_rfl) ?_ _
          clear HSH q0 q1 q2 q3 HRD HNU
          go_wp2_with fail
          go_roundw
          case rel => exact ⟨k + 1, by omega, by go_num, HST.out⟩
          case measure => simp [intOf] <;> omega
        · obtain rfl : k = 8 := by omega
          have g3 : ¬ ((8 : Int) < 8) := by omega
          go_wp2_with fail
          go_roundw
          case rel => exact ⟨b + 1, by omega, by go_num, by rw [Hid, show (b + 1) * 8 = b * 8 + 8 by omega]; exact hr.out⟩
          case measure => simp [intOf] <;> omega
    · obtain rfl : b = 24 := by omega
      have g1 : ¬ ((24 : Int) < 24) := by omega
      have hge : Blk wr (g + 1) 71 (arrS (pageN c)) := by
        have := hr.out.s
        rw [arrS_congr (g := pageN c) (fun n hn => by unfold upto; rw [if_pos (by omega)])] at this
        exact this
      have hz := hr.out.z
      have HB := Lib.hid hr.out.bel
      have hsz := arrS_size (pageN c)
      have hsz0 := arrS_size (fun _ => (⟨#[]⟩, 0))
      have ho := arrS_one (pageN c)
      clear hr
      generalize hcs : arrS (pageN c) = cs at *
      generalize (arrS fun _ => (⟨#[]⟩, 0)) = zs at *
      go_wp2_with (first
        | (refine wpList_load_row rfl 71 _ rfl (g + 1) rfl 71 cs (0, 0) _ hge Try.underlying71 rfl (by rw [hsz]; kernel_rfl) ?_)
        | (refine wpList_store_row rfl 71 _ _ rfl g cs rfl rfl 71 zs hz (by rw [hsz]; kernel_rfl) (by rw [hsz, hsz0]) ho ?_))
      refine bodyPost_ret (v := .agg cs) (results_cell_row rfl _ _ g 71 cs (0, 0) _ rfl (setRow_heap _ _ _ _ _ _ hz) Try.underlying71 rfl (by rw [hsz]; kernel_rfl)) rfl ⟨rfl, ?_⟩
      exact ⟨HB.out.os, HB.out.tape, HB.out.output, by rw [setRow_size]; exact HB.out.size, fun k hk => (setRow_other _ _ _ _ (by have := HG.out; omega)).trans (HB.out.block k (by rw [← HG.out]; exact hk))⟩
def kWriteS : List UInt8 := [119, 114, 105, 116, 101]
def kEraseS : List UInt8 := [101, 114, 97, 115, 101]
def kWeakenS : List UInt8 := [119, 101, 97, 107, 101, 110]
theorem kindS_eq {a : ByteArray} {k : List UInt8} (h : a.toList = k) : (a.toList == k) = true := by rw [beq_iff_eq]; exact h
theorem kindS_ne {a : ByteArray} {k : List UInt8} (h : ¬ a.toList = k) : (a.toList == k) = false := by rw [beq_eq_false_iff_ne]; exact h
/-- What an act leaves of a chip. -/
def actC (c : Chip) (a : Act) : Chip := if a.kind.toList = kWriteS then (c.write a.a a.s).1 else if a.kind.toList = kEraseS then (c.erase a.a).1 else if a.kind.toList = kWeakenS then (c.weaken a.a).1 else c
theorem actsS_form {B : Nat} {w : World} {v : Value} {l : List Act} (h : ActsR B w v l) : ∃ A c, v = .slice A l.length c ∧ l.length ≤ c ∧ c ≤ 9223372036854775807 ∧
    ∀ i x, l[i]? = some x → ∃ b o, A = some ⟨b, o, none⟩ ∧ b < w.heap.size ∧ w.cell? ⟨b, o + i * 5, none⟩ = some (.string x.kind) ∧ w.cell? ⟨b, o + i * 5 + 1, none⟩ = some (.string x.s) ∧ w.cell? ⟨b, o + i * 5 + 2, none⟩ = some (.int .i64 x.a) := by
  obtain ⟨⟨_, A, c, h1, h2, h3, h4⟩, _⟩ := h
  refine ⟨A, c, h1, h2, h3, fun i x hi => ?_⟩
  have hlt : i < l.length := by
    rcases Nat.lt_or_ge i l.length with h | h
    · exact h
    · rw [List.getElem?_eq_none h] at hi; cases hi
  obtain ⟨b, o, hA, _, hb, hc⟩ := h4 (by omega)
  have f := fun j hj => flat_at Act.cells 5 (fun _ => rfl) l i j x hi hj
  exact ⟨b, o, hA, hb, hc _ _ (f 0 (by omega)), hc _ _ (f 1 (by omega)), hc _ _ (f 2 (by omega))⟩
set_option maxRecDepth 20000 in
set_option maxHeartbeats 8000000 in
theorem acted_any (B : Nat) (va : Value) (l : List Act) (w : World) (ha : ActsR B w va l) :
    Calls Try.prog 36 #[va] w fun e w' => ∃ p, e = .returned (.pointer (some ⟨p, 0, none⟩)) ∧ w.heap.size ≤ p ∧ ChipR w.heap.size w' p (l.foldl actC Chip.new) ∧ Below w.heap.size w w' := by
  obtain ⟨A, cp, rfl, hc1, hc2, hcell⟩ := actsS_form ha
  have HC := Lib.hid hcell
  have HEN := Lib.hid (fun x hx => (ha.2 x hx).2)
  have HNEW := Lib.hid (cnew_any w.heap.size w (Nat.le_refl _))
  clear hcell ha
  go_enter Try.func36, Try.ntmps36
  go_wp2_with (go_at_call 32; refine HNEW.out.mono ?_; rintro e w1 ⟨p, rfl, hp, hr1, hb1⟩)
  have HR1 := Lib.hid hr1
  have HB1 := Lib.hid hb1
  clear hr1 hb1 HNEW
  go_loopw [4] (fun i wr => ∃ k : Nat, i = .int .i64 (k : Int) ∧ k ≤ l.length ∧ Hid (ChipR w.heap.size wr p ((l.take k).foldl actC Chip.new)) ∧ Hid (Below w.heap.size w wr)) (fun i _ => l.length - (intOf i).toNat)
  case atStart => exact ⟨0, rfl, Nat.zero_le _, HR1.out, HB1.out⟩
  case round =>
    clear HR1 HB1
    obtain ⟨k, rfl, hk, hch, hbl⟩ := hrel
    by_cases hlt : k < l.length
    · obtain ⟨x, hx, htk, _⟩ := getElem?_of_lt hlt
      obtain ⟨b, o, rfl, hb, e0, e1, e2⟩ := HC.out k x hx
      obtain ⟨_, hsx, _⟩ := HEN.out x (List.mem_of_getElem? hx)
      have hfo : (l.take (k + 1)).foldl actC Chip.new = actC ((l.take k).foldl actC Chip.new) x := by rw [htk, List.foldl_append]; rfl
      obtain ⟨kd, sx, xa, xb, vx, lx⟩ := x
      simp only at e0 e1 e2 hsx
      have d0 := (hbl.out.cell (p := ⟨b, o + k * 5, none⟩) hb).trans e0
      have d1 := (hbl.out.cell (p := ⟨b, o + k * 5 + 1, none⟩) hb).trans e1
      have d2 := (hbl.out.cell (p := ⟨b, o + k * 5 + 2, none⟩) hb).trans e2
      have g1 : (0 : Int) ≤ (k : Int) := by omega
      have g2 : (k : Int) < (l.length : Int) := by omega
      clear hx htk e0
      by_cases k1 : kd.toList = kWriteS
      · have t1 := kindS_eq k1
        have HFO : Hid ((l.take (k + 1)).foldl actC Chip.new = (((l.take k).foldl actC Chip.new).write xa sx).1) := by rw [Hid, hfo]; unfold actC; rw [if_pos k1]
        unfold kWriteS at t1
        clear k1 hfo
        go_wp2_with fail
        refine wp_region_held_drew (S := fun w' => w'.cell? ⟨b, o + k * 5 + 1, none⟩ = some (.string sx) ∧ w'.cell? ⟨b, o + k * 5 + 2, none⟩ = some (.int .i64 xa)) (by kernel_rfl) ⟨d1, d2⟩ (fun hHeld => ?_)
        refine wpAnyH_take (i := 0) (oi := ⟨some 19, _, _, _, _, _⟩) (v := .pointer (some ⟨p, 0, none⟩)) rfl (by kernel_rfl) (by kernel_rfl) (by kernel_rfl) (fun _ _ _ h => h) (Or.inl ⟨by rfl, ?_⟩) (by assumption) ?_
        · intro wS hSw
          (try dsimp only at hSw)
          go_simp
        simp only [Act.put, List.setIfInBounds_toArray, List.set_cons_zero, List.set_cons_succ]
        refine wpAnyH_take (i := 1) (oi := ⟨some 20, _, _, _, _, _⟩) (v := .slice (some ⟨b, o, none⟩) l.length cp) rfl (by kernel_rfl) (by kernel_rfl) (by kernel_rfl) (fun _ _ _ h => h) (Or.inl ⟨by rfl, ?_⟩) (by assumption) ?_
        · intro wS hSw
          (try dsimp only at hSw)
          go_simp
        simp only [Act.put, List.setIfInBounds_toArray, List.set_cons_zero, List.set_cons_succ]
        refine wpAnyH_take (i := 2) (oi := ⟨some 21, _, _, _, _, _⟩) (v := .int .i64 (k : Int)) rfl (by kernel_rfl) (by kernel_rfl) (by kernel_rfl) (fun _ _ _ h => h) (Or.inl ⟨by rfl, ?_⟩) (by assumption) ?_
        · intro wS hSw
          (try dsimp only at hSw)
          go_simp
        simp only [Act.put, List.setIfInBounds_toArray, List.set_cons_zero, List.set_cons_succ]
        refine wpAnyH_take (i := 3) (oi := ⟨some 22, _, _, _, _, _⟩) (v := .pointer (some ⟨b, o + k * 5, none⟩)) rfl (by kernel_rfl) (by kernel_rfl) (by kernel_rfl) (fun _ _ _ h => h) (Or.inl ⟨by rfl, ?_⟩) (by assumption) ?_
        · intro wS hSw
          (try dsimp only at hSw)
          go_simp
        simp only [Act.put, List.setIfInBounds_toArray, List.set_cons_zero, List.set_cons_succ]
        refine wpAnyH_take (i := 4) (oi := ⟨some 23, _, _, _, _, _⟩) (v := .pointer (some ⟨b, o + k * 5 + 2, none⟩)) rfl (by kernel_rfl) (by kernel_rfl) (by kernel_rfl) (fun _ _ _ h => h) (Or.inl ⟨by rfl, ?_⟩) (by assumption) ?_
        · intro wS hSw
          (try dsimp only at hSw)
          go_simp
        simp only [Act.put, List.setIfInBounds_toArray, List.set_cons_zero, List.set_cons_succ]
        refine wpAnyH_take (i := 5) (oi := ⟨some 24, _, _, _, _, _⟩) (v := .int .i64 xa) rfl (by kernel_rfl) (by kernel_rfl) (by kernel_rfl) (fun _ _ _ h => h) (Or.inl ⟨by rfl, ?_⟩) (by assumption) ?_
        · intro wS hSw
          (try dsimp only at hSw)
          go_simp
        simp only [Act.put, List.setIfInBounds_toArray, List.set_cons_zero, List.set_cons_succ]
        refine wpAnyH_take (i := 6) (oi := ⟨some 25, _, _, _, _, _⟩) (v := .slice (some ⟨b, o, none⟩) l.length cp) rfl (by kernel_rfl) (by kernel_rfl) (by kernel_rfl) (fun _ _ _ h => h) (Or.inl ⟨by rfl, ?_⟩) (by assumption) ?_
        · intro wS hSw
          (try dsimp only at hSw)
          go_simp
        simp only [Act.put, List.setIfInBounds_toArray, List.set_cons_zero, List.set_cons_succ]
        refine wpAnyH_take (i := 7) (oi := ⟨some 26, _, _, _, _, _⟩) (v := .int .i64 (k : Int)) rfl (by kernel_rfl) (by kernel_rfl) (by kernel_rfl) (fun _ _ _ h => h) (Or.inl ⟨by rfl, ?_⟩) (by assumption) ?_
        · intro wS hSw
          (try dsimp only at hSw)
          go_simp
        simp only [Act.put, List.setIfInBounds_toArray, List.set_cons_zero, List.set_cons_succ]
        refine wpAnyH_take (i := 8) (oi := ⟨some 27, _, _, _, _, _⟩) (v := .pointer (some ⟨b, o + k * 5, none⟩)) rfl (by kernel_rfl) (by kernel_rfl) (by kernel_rfl) (fun _ _ _ h => h) (Or.inl ⟨by rfl, ?_⟩) (by assumption) ?_
        · intro wS hSw
          (try dsimp only at hSw)
          go_simp
        simp only [Act.put, List.setIfInBounds_toArray, List.set_cons_zero, List.set_cons_succ]
        refine wpAnyH_take (i := 9) (oi := ⟨some 28, _, _, _, _, _⟩) (v := .pointer (some ⟨b, o + k * 5 + 1, none⟩)) rfl (by kernel_rfl) (by kernel_rfl) (by kernel_rfl) (fun _ _ _ h => h) (Or.inl ⟨by rfl, ?_⟩) (by assumption) ?_
        · intro wS hSw
          (try dsimp only at hSw)
          go_simp
        simp only [Act.put, List.setIfInBounds_toArray, List.set_cons_zero, List.set_cons_succ]
        refine wpAnyH_take (i := 10) (oi := ⟨some 29, _, _, _, _, _⟩) (v := .string sx) rfl (by kernel_rfl) (by kernel_rfl) (by kernel_rfl) (fun _ _ _ h => h) (Or.inl ⟨by rfl, ?_⟩) (by assumption) ?_
        · intro wS hSw
          (try dsimp only at hSw)
          go_simp
        simp only [Act.put, List.setIfInBounds_toArray, List.set_cons_zero, List.set_cons_succ]
        refine wpAnyH_ready (rs := [11]) (by kernel_rfl) (by simp) ?_
        refine AllReadyH.cons (o := ⟨some 30, _, _, _, _, _⟩) rfl (fun K hK => ?_) AllReadyH.nil
        go_simp
        refine (cwrite_any w.heap.size p _ xa sx _ (hch.out.drewN 1) hsx).mono ?_
        rintro e w5 ⟨rfl, hc5, hf5⟩
        have hb5 := hbl.out.drew.trans (hf5.below hbl.out.size)
        have d1' := (hb5.cell (p := ⟨b, o + k * 5 + 1, none⟩) hb).trans e1
        have d2' := (hb5.cell (p := ⟨b, o + k * 5 + 2, none⟩) hb).trans e2
        refine hK.out _ _ ?_ (fun hHeld => ?_)
        · exact ⟨d1', d2'⟩
        clear hK K
        try simp only [Act.put, List.setIfInBounds_toArray, List.set_cons_zero, List.set_cons_succ]
        refine wpAnyH_done (by kernel_rfl) ?_ _
        have HNX : Hid (ChipR w.heap.size w5 p ((l.take (k + 1)).foldl actC Chip.new) ∧ Below w.heap.size w w5) := ⟨by rw [HFO.out]; exact hc5, hb5⟩
        clear hc5 hf5 hb5 d1' d2' d0 d1 d2 hch hbl
        go_wp2_with fail
        go_roundw
        case rel => exact ⟨k + 1, by go_num, by omega, HNX.out⟩
        case measure => simp [intOf] <;> omega
      have t1 := kindS_ne k1
      clear e1 e2
      by_cases k2 : kd.toList = kEraseS
      · have t2 := kindS_eq k2
        have HFO : Hid ((l.take (k + 1)).foldl actC Chip.new = (((l.take k).foldl actC Chip.new).erase xa).1) := by rw [Hid, hfo]; unfold actC; rw [if_neg k1]; rw [if_pos k2]
        unfold kWriteS at t1
        unfold kEraseS at t2
        clear k1 k2 hfo
        have HCO := Lib.hid (cerase_any w.heap.size p _ xa wr hch.out)
        go_wp2_with fail
        refine HCO.out.mono ?_
        rintro e w5 ⟨rfl, hc5, hf5⟩
        have HNX : Hid (ChipR w.heap.size w5 p ((l.take (k + 1)).foldl actC Chip.new) ∧ Below w.heap.size w w5) := ⟨by rw [HFO.out]; exact hc5, hbl.out.trans (hf5.below hbl.out.size)⟩
        clear hc5 hf5 HCO d0 d1 d2 hch hbl
        go_wp2_with fail
        go_roundw
        case rel => exact ⟨k + 1, by go_num, by omega, HNX.out⟩
        case measure => simp [intOf] <;> omega
      have t2 := kindS_ne k2
      by_cases k3 : kd.toList = kWeakenS
      · have t3 := kindS_eq k3
        have HFO : Hid ((l.take (k + 1)).foldl actC Chip.new = (((l.take k).foldl actC Chip.new).weaken xa).1) := by rw [Hid, hfo]; unfold actC; rw [if_neg k1]; rw [if_neg k2]; rw [if_pos k3]
        unfold kWriteS at t1
        unfold kEraseS at t2
        unfold kWeakenS at t3
        clear k1 k2 k3 hfo
        have HCO := Lib.hid (weaken_any w.heap.size p _ xa wr hch.out)
        go_wp2_with fail
        refine HCO.out.mono ?_
        rintro e w5 ⟨rfl, hc5, hf5⟩
        have HNX : Hid (ChipR w.heap.size w5 p ((l.take (k + 1)).foldl actC Chip.new) ∧ Below w.heap.size w w5) := ⟨by rw [HFO.out]; exact hc5, hbl.out.trans (hf5.below hbl.out.size)⟩
        clear hc5 hf5 HCO d0 d1 d2 hch hbl
        go_wp2_with fail
        go_roundw
        case rel => exact ⟨k + 1, by go_num, by omega, HNX.out⟩
        case measure => simp [intOf] <;> omega
      have t3 := kindS_ne k3
      have HFO : Hid ((l.take (k + 1)).foldl actC Chip.new = (l.take k).foldl actC Chip.new) := by rw [Hid, hfo]; unfold actC; rw [if_neg k1, if_neg k2, if_neg k3]
      unfold kWriteS at t1
      unfold kEraseS at t2
      unfold kWeakenS at t3
      clear k1 k2 k3 hfo
      have HNX : Hid (ChipR w.heap.size wr p ((l.take (k + 1)).foldl actC Chip.new) ∧ Below w.heap.size w wr) := ⟨by rw [HFO.out]; exact hch.out, hbl.out⟩
      clear hch hbl d1 d2
      go_wp2_with fail
      go_roundw
      case rel => exact ⟨k + 1, by go_num, by omega, HNX.out⟩
      case measure => simp [intOf] <;> omega
    · obtain rfl : k = l.length := by omega
      rw [List.take_length] at hch
      have g2 : decide ((l.length : Int) < (l.length : Int)) = false := by simp
      go_wp2_with fail
      go_ret
      exact ⟨p, rfl, hp, hch.out, hbl.out⟩
/-! ### what a step leaves of a chip that never falls -/
structure Still (c : Chip) : Prop where
  down : c.down = false
  fuse : c.fuse = -1
  pend : c.pend = none
theorem Still.new : Still Chip.new := ⟨rfl, rfl, rfl⟩
theorem Still.step {c : Chip} (h : Still c) (p : Pend) : c.step p = (doP c p, 0) := by
  unfold Chip.step
  rw [h.fuse, if_neg (by decide), if_neg (by decide)]
  have : ({ c with fuse := -1 } : Chip) = c := by rw [← h.fuse]
  rw [this]
theorem Still.doP_ {c : Chip} (h : Still c) (p : Pend) : Still (doP c p) := by
  obtain ⟨e1, e2, e3⟩ := doP_pend c p
  exact ⟨e2.trans h.down, e3.trans h.fuse, e1.trans h.pend⟩
theorem Still.spoil {c : Chip} (h : Still c) (b : Nat) : Still (c.spoil b) := by
  unfold Chip.spoil
  split
  · exact ⟨h.down, h.fuse, h.pend⟩
  · exact h
theorem spoil_l (c : Chip) (n i : Nat) : ((c.spoil n).b i).l = (c.b i).l ∧ ((c.spoil n).b i).wear = (c.b i).wear := by
  unfold Chip.spoil
  split
  · by_cases e : i = n
    · subst e; rw [Chip.set_same]; exact ⟨rfl, rfl⟩
    · rw [Chip.set_far _ _ e]; exact ⟨rfl, rfl⟩
  · exact ⟨rfl, rfl⟩
/-- What a page's writing leaves: nothing else is another one. -/
theorem still_write {c : Chip} (h : Still c) (hw : CWf c) (A : Int) (d : ByteArray) : Still (c.write A d).1 ∧ (∀ b, ((c.write A d).1.b b).wear = (c.b b).wear) ∧ (∀ b, b ≠ A.toNat → ((c.write A d).1.b b).l = (c.b b).l) ∧
    (((c.write A d).2 ≠ 0 ∧ ((c.write A d).1.b A.toNat).l = (c.b A.toNat).l) ∨ ((c.write A d).2 = 0 ∧ ((c.write A d).1.b A.toNat).l = (c.b A.toNat).l ++ [⟨pad d, false⟩] ∧ (c.b A.toNat).l.length < 8 ∧ 0 ≤ A ∧ A < 24)) := by
  unfold Chip.write
  split
  · rename_i h1; exact ⟨h, fun _ => rfl, fun _ _ => rfl, .inl ⟨h1, rfl⟩⟩
  · rename_i h1
    obtain ⟨_, hb0, hb1, _⟩ := ready_zero (c := c) (b := A) (by simpa using h1)
    split
    · exact ⟨h, fun _ => rfl, fun _ _ => rfl, .inl ⟨by show (2 : Nat) ≠ 0; decide, rfl⟩⟩
    · split
      · exact ⟨h, fun _ => rfl, fun _ _ => rfl, .inl ⟨by show (6 : Nat) ≠ 0; decide, rfl⟩⟩
      · split
        · exact ⟨h.spoil _, fun b => (spoil_l c _ b).2, fun b _ => (spoil_l c _ b).1, .inl ⟨by show (7 : Nat) ≠ 0; decide, (spoil_l c _ _).1⟩⟩
        · rename_i h2 h3 h4
          rw [h.step]
          have hlen := hw.len A.toNat (by omega)
          refine ⟨h.doP_ (.wr A.toNat (pad d)), fun b => ?_, fun b hb => congrArg CB.l (doP_far c (.wr A.toNat (pad d)) hb), .inr ⟨rfl, ?_, by omega, hb0, hb1⟩⟩
          · by_cases e : b = A.toNat
            · subst e; unfold doP; rw [Chip.set_same]
            · rw [doP_far c _ e]
          · unfold doP; rw [Chip.set_same]
theorem still_erase {c : Chip} (h : Still c) (A : Int) : Still (c.erase A).1 ∧ (∀ b, b ≠ A.toNat → ((c.erase A).1.b b).l = (c.b b).l) ∧
    ((c.erase A).2 = 0 → ((c.erase A).1.b A.toNat).l = [] ∧ ((c.erase A).1.b A.toNat).wear = wrap64 ((c.b A.toNat).wear + 1)) := by
  unfold Chip.erase
  split
  · rename_i h1; exact ⟨h, fun _ _ => rfl, fun e => absurd e h1⟩
  · split
    · exact ⟨h.spoil _, fun b _ => (spoil_l c _ b).1, fun e => by cases e⟩
    · rw [h.step]
      refine ⟨h.doP_ (.er A.toNat), fun b hb => congrArg CB.l (doP_far c (.er A.toNat) hb), fun _ => ?_⟩
      unfold doP; rw [Chip.set_same]; exact ⟨rfl, rfl⟩
theorem Still.weaken {c : Chip} (h : Still c) (b : Int) : Still (c.weaken b).1 := by
  unfold Chip.weaken
  split
  · exact h
  · exact ⟨h.down, h.fuse, h.pend⟩
theorem read_same {c c' : Chip} (h : Still c) (h' : Still c') {b p : Nat} (hl : (c'.b b).l[p]? = (c.b b).l[p]?) : c'.read (b : Int) (p : Int) = c.read (b : Int) (p : Int) := by
  unfold Chip.read
  rw [h.down, h'.down, Int.toNat_natCast, Int.toNat_natCast, hl]
theorem acted_still (l : List Act) : Still (l.foldl actC Chip.new) ∧ CWf (l.foldl actC Chip.new) := by
  refine snoc_ind (P := fun l => Still (l.foldl actC Chip.new) ∧ CWf (l.foldl actC Chip.new)) l ⟨Still.new, CWf.new⟩ fun l x ih => ?_
  rw [List.foldl_append]
  show Still (actC _ x) ∧ CWf (actC _ x)
  unfold actC
  split
  · exact ⟨(still_write ih.1 ih.2 _ _).1, ih.2.write_ _ _⟩
  · split
    · exact ⟨(still_erase ih.1 _).1, ih.2.erase_ _⟩
    · split
      · exact ⟨ih.1.weaken _, ih.2.weaken_ _⟩
      · exact ih
end Go.Proofs.Ytaepdbkfaoiimab
