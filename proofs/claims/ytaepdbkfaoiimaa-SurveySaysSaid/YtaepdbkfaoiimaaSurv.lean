/- What blocks are used for: plain laws, and the contracts of survey.Of, Count and Spread. Conditions: none but those that each names. -/
import Derived.Test.YtaepdbkfaoiimaaMg
import Derived.Laws.Tables
set_option linter.unusedVariables false
set_option linter.unusedSimpArgs false
namespace Go.Proofs.Ytaepdbkfaoiimaa
open Go.RowKit
/-- What a block is used for. -/
def kindM (c : Chip) (m : Man) (b : Nat) : Int :=
  if b < 2 then 1 else if (b : Int) = m.log then 2 else if m.nw.contains (b : Int) = true then 3 else if m.od.contains (b : Int) = true then 4 else if (c.b b).bad = true then 5 else 0
theorem kindM_rng (c : Chip) (m : Man) (b : Nat) : 0 ≤ kindM c m b ∧ kindM c m b < 6 := by unfold kindM; repeat' split <;> omega
/-- The same in the law's order. -/
theorem kindM_law {c : Chip} {m : Man} (hf : m.fault = 0) (b : Nat) :
    kindM c m b = if m.od.contains (b : Int) = true then 4 else if m.nw.contains (b : Int) = true then 3 else if b < 2 then 1 else if (b : Int) = m.log then 2 else if (c.b b).bad = true then 5 else 0 := by
  obtain ⟨_, _, hr, hn⟩ := fault_zero.1 hf
  rw [Man.all, List.nodup_cons, List.nodup_append] at hn
  obtain ⟨n1, n2, n3, n4⟩ := hn
  have r1 : m.od.contains (b : Int) = true → 2 ≤ b := fun h => by have := hr b (by simp [Man.all, List.contains_iff_mem.1 h]); omega
  have r2 : m.nw.contains (b : Int) = true → 2 ≤ b := fun h => by have := hr b (by simp [Man.all, List.contains_iff_mem.1 h]); omega
  have l1 : m.od.contains (b : Int) = true → (b : Int) ≠ m.log := fun h e => n1 (by rw [← e]; simp [List.contains_iff_mem.1 h])
  have l2 : m.nw.contains (b : Int) = true → (b : Int) ≠ m.log := fun h e => n1 (by rw [← e]; simp [List.contains_iff_mem.1 h])
  have l3 : m.nw.contains (b : Int) = true → m.od.contains (b : Int) = true → False := fun h1 h2 => n4 _ (List.contains_iff_mem.1 h1) _ (List.contains_iff_mem.1 h2) rfl
  unfold kindM
  by_cases h1 : m.od.contains (b : Int) = true
  · have g1 : ¬ b < 2 := by have := r1 h1; omega
    have g2 : ¬ m.nw.contains (b : Int) = true := fun h => l3 h h1
    rw [if_pos h1, if_neg g1, if_neg (l1 h1), if_neg g2, if_pos h1]
  · rw [if_neg h1, if_neg h1]
    by_cases h2 : m.nw.contains (b : Int) = true
    · rw [if_pos h2, if_neg (by have := r2 h2; omega), if_neg (l2 h2), if_pos h2]
    · rw [if_neg h2, if_neg h2]
def arr24 (f : Nat → Int) : Array Value := ((List.range 24).map fun b => Value.int .i64 (f b)).toArray
theorem arr24_size (f : Nat → Int) : (arr24 f).size = 24 := by simp [arr24]
theorem arr24_get (f : Nat → Int) {n : Nat} (h : n < 24) : (arr24 f)[n]? = some (.int .i64 (f n)) := by simp [arr24, h]
theorem arr24_set (f : Nat → Int) (n : Nat) (x : Int) : (arr24 f).setIfInBounds n (.int .i64 x) = arr24 (fun i => if i = n then x else f i) := by
  apply Array.ext_getElem?
  intro i
  rw [Array.getElem?_setIfInBounds]
  by_cases h : n = i
  · subst h
    by_cases hn : n < 24
    · rw [if_pos rfl, if_pos (by rw [arr24_size]; exact hn), arr24_get _ hn, if_pos rfl]
    · rw [if_pos rfl, if_neg (by rw [arr24_size]; exact hn)]
      simp [arr24, hn]
  · rw [if_neg h]
    by_cases hi : i < 24
    · rw [arr24_get _ hi, arr24_get _ hi, if_neg (Ne.symm h)]
    · simp [arr24, hi]
theorem arr24_one (f : Nat → Int) : (arr24 f).all (·.oneCell') = true := by simp [arr24, Value.oneCell']
theorem arr24_congr {f g : Nat → Int} (h : ∀ n, n < 24 → f n = g n) : arr24 f = arr24 g := by
  unfold arr24
  congr 1
  refine List.map_congr_left fun n hn => ?_
  rw [h n (List.mem_range.1 hn)]
/-- How many blocks are of a kind. -/
def countK (f : Nat → Int) (x : Int) (n : Nat) : Nat := (List.range n).countP (fun b => f b == x)
theorem countK_succ (f : Nat → Int) (x : Int) (n : Nat) : countK f x (n + 1) = countK f x n + if (f n == x) = true then 1 else 0 := by
  unfold countK
  rw [List.range_succ, List.countP_append, List.countP_singleton]
theorem countK_le (f : Nat → Int) (x : Int) (n : Nat) : countK f x n ≤ n := by
  unfold countK
  have := List.countP_le_length (p := fun b => f b == x) (l := List.range n)
  simpa using this
/-- The least and the most wear so far. -/
def spreadM (c : Chip) : Nat → Int × Int
  | 0 => (-1, 0)
  | n + 1 => if (c.b (n + 2)).bad = true then spreadM c n else (if (spreadM c n).1 < 0 ∨ (c.b (n + 2)).wear < (spreadM c n).1 then (c.b (n + 2)).wear else (spreadM c n).1, max (spreadM c n).2 (c.b (n + 2)).wear)
/-- The same as the law reckons it. -/
def lawL (c : Chip) : Nat → Int × Int
  | 0 => (1073741824, 0)
  | n + 1 => if 1 < n ∧ (c.b n).bad = false then (min (lawL c n).1 (c.b n).wear, max (lawL c n).2 (c.b n).wear) else lawL c n
theorem spread_law {c : Chip} {X : Int} (hX : X ≤ 1000000) (hw : ∀ i, 2 ≤ i → 0 ≤ (c.b i).wear ∧ (c.b i).wear ≤ X) : ∀ n, (lawL c (n + 2)).2 = (spreadM c n).2 ∧ 0 ≤ (spreadM c n).2 ∧
    (((spreadM c n).1 = -1 ∧ (lawL c (n + 2)).1 = 1073741824 ∧ ∀ i, i < n → (c.b (i + 2)).bad = true) ∨ (0 ≤ (spreadM c n).1 ∧ (lawL c (n + 2)).1 = (spreadM c n).1 ∧ (spreadM c n).1 ≤ 1000000 ∧ (spreadM c n).1 ≤ (spreadM c n).2))
  | 0 => by
    have e : lawL c 2 = (1073741824, 0) := rfl
    rw [show 0 + 2 = 2 from rfl, e]
    exact ⟨rfl, Int.le_refl _, .inl ⟨rfl, rfl, fun i hi => by omega⟩⟩
  | n + 1 => by
    obtain ⟨h1, h0, h2⟩ := spread_law hX hw n
    have hwn := hw (n + 2) (by omega)
    have e1 : lawL c (n + 1 + 2) = if 1 < n + 2 ∧ (c.b (n + 2)).bad = false then (min (lawL c (n + 2)).1 (c.b (n + 2)).wear, max (lawL c (n + 2)).2 (c.b (n + 2)).wear) else lawL c (n + 2) := rfl
    have e2 : spreadM c (n + 1) = if (c.b (n + 2)).bad = true then spreadM c n else (if (spreadM c n).1 < 0 ∨ (c.b (n + 2)).wear < (spreadM c n).1 then (c.b (n + 2)).wear else (spreadM c n).1, max (spreadM c n).2 (c.b (n + 2)).wear) := rfl
    rw [e1, e2]
    cases hb : (c.b (n + 2)).bad
    · rw [if_pos ⟨by omega, rfl⟩, if_neg (by simp)]
      refine ⟨by simp only [h1], by simp only; omega, .inr ?_⟩
      simp only
      rcases h2 with ⟨g1, g2, _⟩ | ⟨g1, g2, g3, g4⟩
      · rw [if_pos (by omega), g2]; omega
      · rw [g2]
        split <;> omega
    · rw [if_neg (by simp), if_pos rfl]
      refine ⟨h1, h0, ?_⟩
      rcases h2 with ⟨g1, g2, g3⟩ | h
      · refine .inl ⟨g1, g2, fun i hi => ?_⟩
        by_cases e : i = n
        · subst e; exact hb
        · exact g3 i (by omega)
      · exact .inr h
theorem spread_end {c : Chip} {X : Int} (hX : X ≤ 1000000) (hw : ∀ i, 2 ≤ i → 0 ≤ (c.b i).wear ∧ (c.b i).wear ≤ X) (hb : ∃ i, i < 22 ∧ (c.b (i + 2)).bad = false) :
    max (spreadM c 22).1 0 = (lawL c 24).1 ∧ (spreadM c 22).2 = (lawL c 24).2 ∧ 0 ≤ max (spreadM c 22).1 0 ∧ max (spreadM c 22).1 0 ≤ (spreadM c 22).2 := by
  obtain ⟨h1, h0, h2⟩ := spread_law hX hw 22
  rw [show 22 + 2 = 24 from rfl] at h1 h2
  rcases h2 with ⟨_, _, g⟩ | ⟨g1, g2, _, g3⟩
  · obtain ⟨i, hi, h⟩ := hb
    rw [g i hi] at h; cases h
  · rw [g2]; omega
theorem countP_mem_one (x : Nat) : ∀ n, (List.range n).countP (fun b => decide (b = x)) = if x < n then 1 else 0
  | 0 => by simp
  | n + 1 => by
    rw [List.range_succ, List.countP_append, countP_mem_one x n, List.countP_singleton]
    by_cases h : n = x
    · subst h; simp
    · have hd : decide (n = x) = false := by simpa using h
      rw [hd]
      simp only [Bool.false_eq_true, if_false, Nat.add_zero]
      by_cases h2 : x < n
      · rw [if_pos h2, if_pos (by omega)]
      · rw [if_neg h2, if_neg (by omega)]
theorem countP_mem : ∀ {l : List Int} {n : Nat}, l.Nodup → (∀ x ∈ l, 0 ≤ x ∧ x < n) → (List.range n).countP (fun b : Nat => l.contains (b : Int)) = l.length
  | [], n, _, _ => by simp
  | x :: l, n, hn, hr => by
    obtain ⟨h1, h2⟩ := List.nodup_cons.1 hn
    have ih := countP_mem (n := n) h2 fun y hy => hr y (by simp [hy])
    obtain ⟨k, rfl⟩ := Int.eq_ofNat_of_zero_le (hr x (by simp)).1
    have hk := (hr (k : Int) (by simp)).2
    have e := countP_mem_one k n
    rw [if_pos (by omega)] at e
    have hs : (List.range n).countP (fun b : Nat => ((k : Int) :: l).contains (b : Int)) = (List.range n).countP (fun b => decide (b = k)) + (List.range n).countP (fun b : Nat => l.contains (b : Int)) := by
      have : ∀ L : List Nat, L.countP (fun b : Nat => ((k : Int) :: l).contains (b : Int)) = L.countP (fun b => decide (b = k)) + L.countP (fun b : Nat => l.contains (b : Int)) := by
        intro L
        induction L with
        | nil => rfl
        | cons b L ihL =>
          rw [List.countP_cons, List.countP_cons, List.countP_cons, ihL]
          by_cases hb : b = k
          · have e1 : ((k : Int) :: l).contains (b : Int) = true := by subst hb; simp
            have e2 : decide (b = k) = true := by simpa using hb
            have e3 : l.contains (b : Int) = false := by
              cases h : l.contains (b : Int)
              · rfl
              · exact absurd (by rw [← hb]; exact List.contains_iff_mem.1 h) h1
            rw [e1, e2, e3]
            simp only [if_true, Bool.false_eq_true, if_false]
            omega
          · have e0 : ((b : Int) == (k : Int)) = false := by rw [beq_eq_false_iff_ne]; omega
            have e1 : ((k : Int) :: l).contains (b : Int) = l.contains (b : Int) := by rw [List.contains_cons, e0, Bool.false_or]
            have e2 : decide (b = k) = false := by simpa using hb
            rw [e1, e2]
            simp only [Bool.false_eq_true, if_false]
            omega
      exact this _
    rw [hs, e, ih, List.length_cons, Nat.add_comm]
theorem range24_two : List.range 24 = 0 :: 1 :: List.range' 2 22 := by decide
theorem countK_sum (f : Nat → Int) (h : ∀ b, 0 ≤ f b ∧ f b < 6) : ∀ n, countK f 0 n + countK f 1 n + countK f 2 n + countK f 3 n + countK f 4 n + countK f 5 n = n
  | 0 => rfl
  | n + 1 => by
    have ih := countK_sum f h n
    have := h n
    simp only [countK_succ]
    rcases (show f n = 0 ∨ f n = 1 ∨ f n = 2 ∨ f n = 3 ∨ f n = 4 ∨ f n = 5 by omega) with e | e | e | e | e | e <;> rw [e] <;> simp <;> omega
theorem countK_congr {f : Nat → Int} {x : Int} {p : Nat → Bool} {n : Nat} (h : ∀ b, b < n → ((f b == x) = p b)) : countK f x n = (List.range n).countP p := by
  unfold countK
  refine List.countP_congr fun b hb => ?_
  rw [h b (List.mem_range.1 hb)]
/-- How many blocks there are of each kind. -/
theorem kind_counts {c : Chip} {m : Man} (hf : m.fault = 0) : countK (kindM c m) 1 24 = 2 ∧ countK (kindM c m) 2 24 = 1 ∧ countK (kindM c m) 3 24 = m.nw.length ∧ countK (kindM c m) 4 24 = m.od.length ∧ countK (kindM c m) 5 24 ≤ (List.range 24).countP (fun i => (c.b i).bad) := by
  obtain ⟨_, _, hr, hn⟩ := fault_zero.1 hf
  have hl := hr m.log (by simp [Man.all])
  obtain ⟨L, hL⟩ := Int.eq_ofNat_of_zero_le (show 0 ≤ m.log by omega)
  rw [Man.all, List.nodup_cons, List.nodup_append] at hn
  obtain ⟨n1, n2, n3, n4⟩ := hn
  have hk := kindM_law (c := c) hf
  refine ⟨?_, ?_, ?_, ?_, ?_⟩
  · have : countK (kindM c m) 1 24 = (List.range 24).countP (fun b => decide (b < 2)) := by
      refine countK_congr fun b hb => ?_
      unfold kindM
      by_cases h : b < 2
      · rw [if_pos h]; simp [h]
      · rw [if_neg h]
        repeat' split
        all_goals simp [h]
    rw [this]; rfl
  · have : countK (kindM c m) 2 24 = (List.range 24).countP (fun b => decide (b = L)) := by
      refine countK_congr fun b hb => ?_
      unfold kindM
      by_cases h : b = L
      · rw [if_neg (by omega), if_pos (by omega)]; simp [h]
      · by_cases h2 : b < 2
        · rw [if_pos h2]; simp [h]
        · rw [if_neg h2, if_neg (by omega)]
          repeat' split
          all_goals simp [h]
    rw [this, countP_mem_one, if_pos (by omega)]
  · rw [← countP_mem (n := 24) n2 fun x hx => by have := hr x (by simp [Man.all, hx]); omega]
    refine countK_congr fun b hb => ?_
    rw [hk b]
    by_cases h : m.nw.contains (b : Int) = true
    · have : ¬ m.od.contains (b : Int) = true := fun h2 => n4 _ (List.contains_iff_mem.1 h) _ (List.contains_iff_mem.1 h2) rfl
      rw [if_neg this, if_pos h, h]; rfl
    · rw [if_neg h, Bool.not_eq_true] at *
      rw [h]
      repeat' split
      all_goals rfl
  · rw [← countP_mem (n := 24) n3 fun x hx => by have := hr x (by simp [Man.all, hx]); omega]
    refine countK_congr fun b hb => ?_
    rw [hk b]
    by_cases h : m.od.contains (b : Int) = true
    · rw [if_pos h, h]; rfl
    · rw [if_neg h]
      rw [Bool.not_eq_true] at h
      rw [h]
      repeat' split
      all_goals rfl
  · unfold countK
    refine List.countP_mono_left fun b hb h => ?_
    unfold kindM at h
    cases hb : (c.b b).bad
    · rw [hb] at h
      repeat' split at h
      all_goals first | (simp at h; done) | (rename_i h'; cases h')
    · rfl
theorem run_index24 {cs : Array Value} {n : Nat} {v : Value} (hn : n < 24) (h : cs[n]? = some v) (w : World) : (Instr.index 82 (.agg cs) (.int .i64 (n : Int))).run Try.prog w = .ok v w := by
  have h2 : (n : Int) < 24 := by omega
  obtain ⟨i0, hi, hz0, hz1, hz2⟩ := info_parts info_int
  simp [Instr.index, run_underlying Try.underlying82, run_underlying Try.underlying3, asIntOf, hn, part, isAgg, sizeOf, typeInfo, hi, hz0, hz1, hz2, h, go_sem]
set_option maxRecDepth 20000 in
set_option maxHeartbeats 4000000 in
theorem count_any (f : Nat → Int) (x : Int) (w : World) :
    Calls Try.prog 79 #[.agg (arr24 f), .int .i64 x] w fun e w' => e = .returned (.int .i64 (countK f x 24 : Nat)) ∧ Below w.heap.size w w' := by
  have hb0 : Below w.heap.size w (w.alloc (.cells (arr24 f) 82)) := (Below.refl _ _).alloc (Nat.le_refl _) _
  have HB0 := Lib.hid hb0
  have hsz := arr24_size f
  have HG : Hid (∀ n, n < 24 → (arr24 f)[n]? = some (.int .i64 (f n))) := fun n h => arr24_get f h
  have hg0 := Blk.new w 82 (arr24 f)
  clear hb0
  generalize arr24 f = cs at *
  go_enter Try.func79, Try.ntmps79
  go_wp2_with (refine wpList_load_row rfl 82 _ rfl w.heap.size rfl 82 cs (0, 0) _ hg0 Try.underlying82 rfl (by rw [hsz]; kernel_rfl) ?_)
  go_loop [5, 9] (fun a i => ∃ n : Nat, n ≤ 24 ∧ i = .int .i64 (n : Int) ∧ a = .int .i64 (countK f x n : Nat)) (fun _ i => (24 - intOf i).toNat)
  case atStart => exact ⟨0, by omega, rfl, rfl⟩
  case round =>
    obtain ⟨n, hn, rfl, rfl⟩ := hrel
    have hcl := countK_le f x n
    by_cases hlt : n < 24
    · have g1 : (n : Int) < 24 := by omega
      have g0 : (0 : Int) ≤ (n : Int) := by omega
      have hix := fun W => run_index24 hlt (HG.out n hlt) W
      have hs := countK_succ f x n
      by_cases he : f n = x
      · have t14 : (f n == x) = true := beq_iff_eq.2 he
        rw [if_pos t14] at hs
        have HS := Lib.hid hs
        clear hs he
        go_wp2_with fail
        go_round
        case rel => exact ⟨n + 1, by omega, by go_num, by rw [HS.out]; go_num⟩
        case measure => simp [intOf] <;> omega
      · have t14 : (f n == x) = false := beq_eq_false_iff_ne.2 he
        rw [if_neg (by rw [t14]; simp)] at hs
        have HS := Lib.hid hs
        clear hs he
        go_wp2_with fail
        go_round
        case rel => exact ⟨n + 1, by omega, by go_num, by rw [HS.out]; go_num⟩
        case measure => simp [intOf] <;> omega
    · obtain rfl : n = 24 := by omega
      go_wp2_with fail
      go_ret
      exact ⟨rfl, HB0.out⟩
set_option maxRecDepth 20000 in
set_option maxHeartbeats 4000000 in
theorem spread_any (B p : Nat) (c : Chip) (w : World) (h : ChipR B w p c) (hwr : ∀ i, 2 ≤ i → 0 ≤ (c.b i).wear) :
    Calls Try.prog 83 #[.pointer (some ⟨p, 0, none⟩)] w fun e w' => e = .returned (.tuple #[.int .i64 (max (spreadM c 22).1 0), .int .i64 (spreadM c 22).2]) ∧ w = w' := by
  have HBA := Lib.hid (fun (n : Nat) (hn : n < 22) => bad_any B p c ((n : Int) + 2) w h (by omega) (by omega))
  have HWE := Lib.hid (fun (n : Nat) (hn : n < 22) => wear_any B p c ((n : Int) + 2) w h (by omega) (by omega))
  have HWR := Lib.hid hwr
  clear h hwr
  go_enter Try.func83, Try.ntmps83
  go_wp2_with fail
  go_loop [2, 3, 4] (fun a b i => ∃ n : Nat, n ≤ 22 ∧ i = .int .i64 ((n : Int) + 2) ∧ a = .int .i64 (spreadM c n).1 ∧ b = .int .i64 (spreadM c n).2) (fun _ _ i => (24 - intOf i).toNat)
  case atStart => exact ⟨0, by omega, rfl, rfl, rfl⟩
  case round =>
    obtain ⟨n, hn, rfl, rfl, rfl⟩ := hrel
    by_cases hlt : n < 22
    · have g1 : (n : Int) + 2 < 24 := by omega
      have HB1 := Lib.hid (HBA.out n hlt)
      have HW1 := Lib.hid (HWE.out n hlt)
      have hs : spreadM c (n + 1) = if (c.b (n + 2)).bad = true then spreadM c n else (if (spreadM c n).1 < 0 ∨ (c.b (n + 2)).wear < (spreadM c n).1 then (c.b (n + 2)).wear else (spreadM c n).1, max (spreadM c n).2 (c.b (n + 2)).wear) := rfl
      have hnn : ((n : Int) + 2).toNat = n + 2 := by omega
      rw [hnn] at HB1 HW1
      have h0 := HWR.out (n + 2) (by omega)
      cases hbd : (c.b (n + 2)).bad
      · rw [hbd] at HB1
        rw [hbd, if_neg (by simp)] at hs
        generalize (c.b (n + 2)).wear = wr at *
        have HS := Lib.hid hs
        generalize hS : spreadM c n = S at *
        clear hs hS hnn h0 hbd
        obtain ⟨a, b⟩ := S
        by_cases ha : a < 0 ∨ wr < a
        · have HS2 : Hid (spreadM c (n + 1) = (wr, max b wr)) := by rw [Hid, HS.out]; simp only; rw [if_pos ha]
          rcases ha with ha | ha
          · have t17 : decide (a < 0) = true := decide_eq_true ha
            clear ha HS
            go_wp2_with (first
              | (go_at_call 81; refine HB1.out.mono ?_; rintro e w1 ⟨rfl, rfl⟩)
              | (go_at_call 82; refine HW1.out.mono ?_; rintro e w1 ⟨rfl, rfl⟩))
            all_goals
              go_round
              case rel => exact ⟨n + 1, by omega, by go_num, by rw [HS2.out], by rw [HS2.out]⟩
              case measure => simp [intOf] <;> omega
          · by_cases ha2 : a < 0
            · have t17 : decide (a < 0) = true := decide_eq_true ha2
              clear ha ha2 HS
              go_wp2_with (first
                | (go_at_call 81; refine HB1.out.mono ?_; rintro e w1 ⟨rfl, rfl⟩)
                | (go_at_call 82; refine HW1.out.mono ?_; rintro e w1 ⟨rfl, rfl⟩))
              all_goals
                go_round
                case rel => exact ⟨n + 1, by omega, by go_num, by rw [HS2.out], by rw [HS2.out]⟩
                case measure => simp [intOf] <;> omega
            have t17 : decide (a < 0) = false := decide_eq_false (by omega)
            have t21 : decide (wr < a) = true := decide_eq_true ha
            clear ha ha2 HS
            go_wp2_with (first
              | (go_at_call 81; refine HB1.out.mono ?_; rintro e w1 ⟨rfl, rfl⟩)
              | (go_at_call 82; refine HW1.out.mono ?_; rintro e w1 ⟨rfl, rfl⟩))
            all_goals
              go_round
              case rel => exact ⟨n + 1, by omega, by go_num, by rw [HS2.out], by rw [HS2.out]⟩
              case measure => simp [intOf] <;> omega
        · have HS2 : Hid (spreadM c (n + 1) = (a, max b wr)) := by rw [Hid, HS.out]; simp only; rw [if_neg ha]
          have t17 : decide (a < 0) = false := decide_eq_false (by omega)
          have t21 : decide (wr < a) = false := decide_eq_false (by omega)
          clear ha HS
          go_wp2_with (first
            | (go_at_call 81; refine HB1.out.mono ?_; rintro e w1 ⟨rfl, rfl⟩)
            | (go_at_call 82; refine HW1.out.mono ?_; rintro e w1 ⟨rfl, rfl⟩))
          all_goals
            go_round
            case rel => exact ⟨n + 1, by omega, by go_num, by rw [HS2.out], by rw [HS2.out]⟩
            case measure => simp [intOf] <;> omega
      · rw [hbd] at HB1
        rw [hbd, if_pos rfl] at hs
        have HS := Lib.hid hs
        clear hs hnn h0
        go_wp2_with (go_at_call 81; refine HB1.out.mono ?_; rintro e w1 ⟨rfl, rfl⟩)
        go_round
        case rel => exact ⟨n + 1, by omega, by go_num, by rw [HS.out], by rw [HS.out]⟩
        case measure => simp [intOf] <;> omega
    · obtain rfl : n = 22 := by omega
      go_wp2_with fail
      exact bodyPost_ret (v := .tuple #[.int .i64 (max (spreadM c 22).1 0), .int .i64 (spreadM c 22).2]) (by simp [results, Try.results83, go_sem] <;> rfl) rfl ⟨rfl, rfl⟩
theorem arr24_zero : arr24 (fun _ => 0) = #[.int .i64 0, .int .i64 0, .int .i64 0, .int .i64 0, .int .i64 0, .int .i64 0, .int .i64 0, .int .i64 0, .int .i64 0, .int .i64 0, .int .i64 0, .int .i64 0, .int .i64 0, .int .i64 0, .int .i64 0, .int .i64 0, .int .i64 0, .int .i64 0, .int .i64 0, .int .i64 0, .int .i64 0, .int .i64 0, .int .i64 0, .int .i64 0] := rfl
/-- What lies in memory while the kinds are reckoned. -/
structure OfR (B g gm : Nat) (w : World) (c : Chip) (m : Man) (v3 v4 : Value) (n : Nat) (wr : World) : Prop where
  bel : Below g w wr
  z : Blk wr g 82 (arr24 fun _ => 0)
  a : Blk wr (g + 1) 82 (arr24 fun b => if b < n then kindM c m b else 0)
  mb : Blk wr gm 91 #[.int .i64 m.ep, .int .i64 m.log, v3, v4]
  nw : Ints B wr v3 m.nw
  od : Ints B wr v4 m.od
theorem OfR.skip {B g gm : Nat} {w : World} {c : Chip} {m : Man} {v3 v4 : Value} {n : Nat} {wr : World} (h : OfR B g gm w c m v3 v4 n wr) (hk : kindM c m n = 0) : OfR B g gm w c m v3 v4 (n + 1) wr := by
  refine ⟨h.bel, h.z, ?_, h.mb, h.nw, h.od⟩
  rw [arr24_congr (g := fun b => if b < n then kindM c m b else 0)]
  · exact h.a
  · intro b hb
    by_cases e : b = n
    · subst e; rw [if_pos (by omega), if_neg (by omega), hk]
    · by_cases e2 : b < n
      · rw [if_pos (by omega), if_pos e2]
      · rw [if_neg (by omega), if_neg e2]
theorem OfR.store {B g gm : Nat} {w : World} {c : Chip} {m : Man} {v3 v4 : Value} {n : Nat} {wr : World} (h : OfR B g gm w c m v3 v4 n wr) (hB : B ≤ g) (hgm : g + 1 < gm) {x : Int} (hk : kindM c m n = x) : OfR B g gm w c m v3 v4 (n + 1) (wr.setCell ⟨g + 1, n, none⟩ (.int .i64 x)) := by
  refine ⟨h.bel.setCell (by show g ≤ g + 1; omega) _, h.z.far (p := ⟨g + 1, n, none⟩) (by show g ≠ g + 1; omega) _, ?_, h.mb.far (p := ⟨g + 1, n, none⟩) (by show gm ≠ g + 1; omega) _, Rd.far' h.nw h.a (by omega) (by decide) _, Rd.far' h.od h.a (by omega) (by decide) _⟩
  have := h.a.set_ n (.int .i64 x)
  rw [arr24_set] at this
  rw [arr24_congr (g := fun i => if i = n then x else if i < n then kindM c m i else 0)]
  · exact this
  · intro b hb
    by_cases e : b = n
    · subst e; rw [if_pos (by omega), if_pos rfl, hk]
    · by_cases e2 : b < n
      · rw [if_pos (by omega), if_neg e, if_pos e2]
      · rw [if_neg (by omega), if_neg e, if_neg e2]
theorem OfR.end_ {B g gm : Nat} {w : World} {c : Chip} {m : Man} {v3 v4 : Value} {wr : World} (h : OfR B g gm w c m v3 v4 24 wr) : Blk wr (g + 1) 82 (arr24 (kindM c m)) := by
  have := h.a
  rw [arr24_congr (g := kindM c m) (fun b hb => by rw [if_pos hb])] at this
  exact this
section
variable {B q p k j : Nat} {c : Chip} {s : SM} {F : List Nat} {w : World}
set_option maxRecDepth 20000 in
set_option maxHeartbeats 4000000 in
theorem sof_any (h : StS B w q p k j c s F) : Calls Try.prog 78 #[.pointer (some ⟨p, 0, none⟩), .pointer (some ⟨q, 0, none⟩)] w fun e w' => e = .returned (.agg (arr24 (kindM c s.m))) ∧ Below w.heap.size w w' := by
  have hb2 : Below w.heap.size w ((w.alloc (.cells (arr24 fun _ => 0) 82)).alloc (.cells (arr24 fun _ => 0) 82)) := ((Below.refl _ _).alloc (Nat.le_refl _) _).alloc (by simp) _
  have HZ : Hid (Blk ((w.alloc (.cells (arr24 fun _ => 0) 82)).alloc (.cells (arr24 fun _ => 0) 82)) w.heap.size 82 (arr24 fun _ => 0)) := (Blk.new w _ _).alloc _
  have HA : Hid (Blk ((w.alloc (.cells (arr24 fun _ => 0) 82)).alloc (.cells (arr24 fun _ => 0) 82)) (w.heap.size + 1) 82 (arr24 fun _ => 0)) := by
    have := Blk.new (w.alloc (.cells (arr24 fun _ => 0) 82)) 82 (arr24 fun _ => 0)
    rw [World.size_alloc] at this
    exact this
  have HSZ : Hid (w.heap.size + 2 = ((w.alloc (.cells (arr24 fun _ => 0) 82)).alloc (.cells (arr24 fun _ => 0) 82)).heap.size) := by simp [Hid]
  have HM := Lib.hid (sman_st (h.below hb2))
  have HB2 := Lib.hid hb2
  have HCH := Lib.hid (fun W (hW : Below w.heap.size w W) => h.ch.below hW)
  have HBB : Hid (B ≤ w.heap.size) := Nat.le_of_lt (Nat.lt_of_le_of_lt h.st.base h.st.lt)
  rw [arr24_zero] at HM HB2 HZ HA HSZ
  clear hb2 h
  go_enter Try.func78, Try.ntmps78
  go_wp2_with fail
  generalize ((w.alloc (.cells _ 82)).alloc (.cells _ 82)) = w2 at *
  rw [← arr24_zero] at HZ HA
  refine HM.out.mono ?_
  rintro e w3 ⟨A3, c3, A4, c4, rfl, hn3, ho3, _, hb3⟩
  have HR3 : Hid (OfR B w.heap.size w3.heap.size w c s.m (.slice A3 s.m.nw.length c3) (.slice A4 s.m.od.length c4) 0 (w3.alloc (.cells #[.int .i64 s.m.ep, .int .i64 s.m.log, .slice A3 s.m.nw.length c3, .slice A4 s.m.od.length c4] 91))) := by
    have hb34 : Below w3.heap.size w3 (w3.alloc (.cells #[.int .i64 s.m.ep, .int .i64 s.m.log, .slice A3 s.m.nw.length c3, .slice A4 s.m.od.length c4] 91)) := (Below.refl _ _).alloc (Nat.le_refl _) _
    have hb03 := HB2.out.trans (hb3.mono HB2.out.size)
    refine ⟨hb03.trans (hb34.mono hb03.size), (HZ.out.below hb3 (by have := HSZ.out; omega)).alloc _, ?_, Blk.new _ _ _, hn3.below hb34, ho3.below hb34⟩
    have := (HA.out.below hb3 (by have := HSZ.out; omega)).alloc (.cells #[.int .i64 s.m.ep, .int .i64 s.m.log, .slice A3 s.m.nw.length c3, .slice A4 s.m.od.length c4] 91)
    rw [arr24_congr (g := fun _ => 0) (fun b _ => by rw [if_neg (by omega)])]
    exact this
  have HGM : Hid (w.heap.size + 1 < w3.heap.size) := by have := HSZ.out; have := hb3.size; rw [Hid]; omega
  clear hn3 ho3 hb3 HM HZ HA HSZ HB2
  go_wp2_with fail
  generalize (w3.alloc _) = W at *
  generalize w3.heap.size = gm at *
  generalize hg : w.heap.size = g at *
  have HGE := Lib.hid hg
  clear hg
  go_loopw [10] (fun i wr => ∃ n : Nat, n ≤ 24 ∧ i = .int .i64 (n : Int) ∧ Hid (OfR B g gm w c s.m (.slice A3 s.m.nw.length c3) (.slice A4 s.m.od.length c4) n wr)) (fun i _ => (24 - intOf i).toNat)
  case atStart => exact ⟨0, by omega, rfl, HR3.out⟩
  case round =>
    clear HR3
    obtain ⟨n, hn, rfl, hr⟩ := hrel
    by_cases hlt : n < 24
    · have g1 : (n : Int) < 24 := by omega
      have g0 : (0 : Int) ≤ (n : Int) := by omega
      have y0 := (hr.out.a.cell n).trans (arr24_get _ hlt)
      have f0 := hr.out.a.frozen n
      have m1 := hr.out.mb.cell 1
      have m2 := hr.out.mb.cell 2
      have m3 := hr.out.mb.cell 3
      simp at m1 m2 m3
      have HC1 := Lib.hid (contains_any B _ s.m.nw (n : Int) wr hr.out.nw)
      have HC2 := Lib.hid (contains_any B _ s.m.od (n : Int) wr hr.out.od)
      have HBD := Lib.hid (bad_any B p c (n : Int) wr (HCH.out wr hr.out.bel) (by omega) (by omega))
      rw [Int.toNat_natCast] at HBD
      have HST : Hid (∀ x, kindM c s.m n = x → OfR B g gm w c s.m (.slice A3 s.m.nw.length c3) (.slice A4 s.m.od.length c4) (n + 1) (wr.setCell ⟨g + 1, n, none⟩ (.int .i64 x))) := fun x hx => hr.out.store HBB.out HGM.out hx
      have HNO : Hid (kindM c s.m n = 0 → OfR B g gm w c s.m (.slice A3 s.m.nw.length c3) (.slice A4 s.m.od.length c4) (n + 1) wr) := fun hx => hr.out.skip hx
      have hK : kindM c s.m n = if n < 2 then 1 else if (n : Int) = s.m.log then 2 else if inL s.m.nw n = true then 3 else if inL s.m.od n = true then 4 else if (c.b n).bad = true then 5 else 0 := rfl
      generalize kindM c s.m n = K at *
      clear hr
      by_cases h1 : n < 2
      · rw [if_pos h1] at hK
        have HX := Lib.hid (HST.out 1 hK)
        have t15 : decide ((n : Int) < 2) = true := decide_eq_true (by omega)
        clear hK h1 HST HNO
        go_wp2_with fail
        go_roundw
        case rel => exact ⟨n + 1, by omega, by go_num, HX.out⟩
        case measure => simp [intOf] <;> omega
      have t15 : decide ((n : Int) < 2) = false := decide_eq_false (by omega)
      rw [if_neg h1] at hK
      by_cases h2 : (n : Int) = s.m.log
      · rw [if_pos h2] at hK
        have HX := Lib.hid (HST.out 2 hK)
        have t22 : ((n : Int) == s.m.log) = true := beq_iff_eq.2 h2
        clear hK h1 h2 HST HNO
        go_wp2_with fail
        go_roundw
        case rel => exact ⟨n + 1, by omega, by go_num, HX.out⟩
        case measure => simp [intOf] <;> omega
      have t22 : ((n : Int) == s.m.log) = false := beq_eq_false_iff_ne.2 h2
      rw [if_neg h2] at hK
      clear h1 h2
      cases h3 : inL s.m.nw n
      case true =>
        rw [if_pos h3] at hK
        rw [h3] at HC1
        have HX := Lib.hid (HST.out 3 hK)
        clear hK HST HNO
        go_wp2_with (go_at_call 99; refine HC1.out.mono ?_; rintro e w1 ⟨rfl, rfl⟩)
        go_roundw
        case rel => exact ⟨n + 1, by omega, by go_num, HX.out⟩
        case measure => simp [intOf] <;> omega
      rw [if_neg (by rw [h3]; simp)] at hK
      rw [h3] at HC1
      cases h4 : inL s.m.od n
      case true =>
        rw [if_pos h4] at hK
        rw [h4] at HC2
        have HX := Lib.hid (HST.out 4 hK)
        clear hK HST HNO
        go_wp2_with (first
          | (go_at_call 99; refine HC1.out.mono ?_; rintro e w1 ⟨rfl, rfl⟩)
          | (go_at_call 99; refine HC2.out.mono ?_; rintro e w1 ⟨rfl, rfl⟩))
        go_roundw
        case rel => exact ⟨n + 1, by omega, by go_num, HX.out⟩
        case measure => simp [intOf] <;> omega
      rw [if_neg (by rw [h4]; simp)] at hK
      rw [h4] at HC2
      cases h5 : (c.b n).bad
      case true =>
        rw [if_pos h5] at hK
        rw [h5] at HBD
        have HX := Lib.hid (HST.out 5 hK)
        clear hK HST HNO
        go_wp2_with (first
          | (go_at_call 99; refine HC1.out.mono ?_; rintro e w1 ⟨rfl, rfl⟩)
          | (go_at_call 99; refine HC2.out.mono ?_; rintro e w1 ⟨rfl, rfl⟩)
          | (go_at_call 81; refine HBD.out.mono ?_; rintro e w1 ⟨rfl, rfl⟩))
        go_roundw
        case rel => exact ⟨n + 1, by omega, by go_num, HX.out⟩
        case measure => simp [intOf] <;> omega
      rw [if_neg (by rw [h5]; simp)] at hK
      rw [h5] at HBD
      have HX := Lib.hid (HNO.out hK)
      clear hK HST HNO
      go_wp2_with (first
        | (go_at_call 99; refine HC1.out.mono ?_; rintro e w1 ⟨rfl, rfl⟩)
        | (go_at_call 99; refine HC2.out.mono ?_; rintro e w1 ⟨rfl, rfl⟩)
        | (go_at_call 81; refine HBD.out.mono ?_; rintro e w1 ⟨rfl, rfl⟩))
      go_roundw
      case rel => exact ⟨n + 1, by omega, by go_num, HX.out⟩
      case measure => simp [intOf] <;> omega
    · obtain rfl : n = 24 := by omega
      have HE := Lib.hid hr.out.end_
      have HZ := Lib.hid hr.out.z
      have HB := Lib.hid hr.out.bel
      clear hr
      have hsz := arr24_size (kindM c s.m)
      have hsz0 := arr24_size (fun _ => 0)
      have ho := arr24_one (kindM c s.m)
      have hge := HE.out
      have hz := HZ.out
      generalize hcs : arr24 (kindM c s.m) = cs at *
      generalize (arr24 fun _ => 0) = zs at *
      go_wp2_with (first
        | (refine wpList_load_row rfl 82 _ rfl (g + 1) rfl 82 cs (0, 0) _ hge Try.underlying82 rfl (by rw [hsz]; kernel_rfl) ?_)
        | (refine wpList_store_row rfl 82 _ _ rfl g cs rfl rfl 82 zs hz (by rw [hsz]; kernel_rfl) (by rw [hsz, hsz0]) ho ?_))
      refine bodyPost_ret (v := .agg cs) (results_cell_row rfl _ _ g 82 cs (0, 0) _ rfl (setRow_heap _ _ _ _ _ _ hz) Try.underlying82 rfl (by rw [hsz]; kernel_rfl)) rfl ⟨by rw [hcs], ?_⟩
      exact ⟨HB.out.os, HB.out.tape, HB.out.output, by rw [setRow_size]; exact HB.out.size, fun k hk => (setRow_other _ _ _ _ (by have := HGE.out; omega)).trans (HB.out.block k (by rw [← HGE.out]; exact hk))⟩
end
end Go.Proofs.Ytaepdbkfaoiimaa
