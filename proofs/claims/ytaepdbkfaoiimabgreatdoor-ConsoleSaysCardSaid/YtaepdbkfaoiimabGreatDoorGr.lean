/- Several texts of this proof, one behind the other: walks and plain laws that the statement rests on. Conditions: none but those that each lemma names. -/
import Derived.Test.YtaepdbkfaoiimabGreatDoorGq
import Derived.Test.YtaepdbkfaoiimabGreatDoorGb
import Derived.Test.YtaepdbkfaoiimabGreatDoorGp
import Derived.Test.YtaepdbkfaoiimabGreatDoorGo
import Derived.Deep.RegionHeld
/- Sessions: the reference's functions answer as the plain ones say. Conditions: none but the sizes that each names. -/
set_option linter.unusedVariables false
set_option linter.unusedSimpArgs false
set_option linter.unnecessarySimpa false
namespace Go.Proofs.YtaepdbkfaoiimabGreatDoor
open Go.RowKit
attribute [local go_sem] bt_idx bt_wrap
/-! ### numbers -/
def digN (x : Nat) : Bool := decide (48 ≤ x) && decide (x ≤ 57)
/-- What the digits spell. -/
def valN (l : List UInt8) : Nat := l.foldl (fun n c => 10 * n + (c.toNat - 48)) 0
theorem valN_snoc (l : List UInt8) (c : UInt8) : valN (l ++ [c]) = 10 * valN l + (c.toNat - 48) := by unfold valN; rw [List.foldl_append]; rfl
/-- natural(s, 999). -/
def natR (w : ByteArray) : Int :=
  if w.size < 1 ∨ 9 < w.size ∨ (bt w 0 = 48 ∧ 1 < w.size) then -1
  else if (w.data.toList.all fun c => digN c.toNat) = true then (if 999 < valN w.data.toList then -1 else (valN w.data.toList : Int)) else -1
theorem dig3_ok_all : (List.range 1000).all (fun n => (dig3 n).all (fun c => digN c.toNat) && decide (valN (dig3 n) = n) && decide ((dig3 n).length ≤ 3) && decide (1 ≤ (dig3 n).length) && (decide ((dig3 n).head? ≠ some 48) || decide ((dig3 n).length = 1))) = true := by decide +kernel
def d8 (k : Nat) : UInt8 := UInt8.ofNat (48 + k)
theorem one_all : (List.range 10).all (fun a => decide (dig3 (valN [d8 a]) = [d8 a])) = true := by decide +kernel
theorem two_all : (List.range 10).all (fun a => (List.range 10).all fun b => a == 0 || decide (dig3 (valN [d8 a, d8 b]) = [d8 a, d8 b])) = true := by decide +kernel
theorem three_all : (List.range 10).all (fun a => (List.range 10).all fun b => (List.range 10).all fun c => a == 0 || decide (dig3 (valN [d8 a, d8 b, d8 c]) = [d8 a, d8 b, d8 c])) = true := by decide +kernel
theorem dig_d8 {c : UInt8} (h : digN c.toNat = true) : ∃ k, k < 10 ∧ c = d8 k := by
  unfold digN at h
  simp only [Bool.and_eq_true, decide_eq_true_eq] at h
  refine ⟨c.toNat - 48, by omega, ?_⟩
  unfold d8
  rw [show 48 + (c.toNat - 48) = c.toNat by omega]
  simp
theorem d8_nat {k : Nat} (h : k < 10) : (d8 k).toNat = 48 + k := by
  unfold d8
  simp; omega
theorem valN_ge : ∀ (l : List UInt8) (n : Nat), n ≤ l.foldl (fun n c => 10 * n + (c.toNat - 48)) n
  | [], n => Nat.le_refl _
  | c :: l, n => Nat.le_trans (by omega) (valN_ge l (10 * n + (c.toNat - 48)))
theorem natR_law (w : ByteArray) : natR w = match natM w with | some n => (n : Int) | none => -1 := by
  have hl : w.data.toList.length = w.size := Array.length_toList
  have hb0 : ∀ c l, w.data.toList = c :: l → bt w 0 = c.toNat := fun c l e => by
    unfold bt; rw [e]; rfl
  cases e : natM w with
  | some n =>
    obtain ⟨h1, h2⟩ := natM_some e
    have h3 := List.all_eq_true.1 dig3_ok_all n (List.mem_range.2 h1)
    simp only [Bool.and_eq_true, Bool.or_eq_true, decide_eq_true_eq] at h3
    obtain ⟨⟨⟨⟨a1, a2⟩, a3⟩, a4⟩, a5⟩ := h3
    rw [← h2] at a1 a2 a3 a4 a5
    unfold natR
    have hns : ¬(w.size < 1 ∨ 9 < w.size ∨ (bt w 0 = 48 ∧ 1 < w.size)) := by
      rintro (h | h | ⟨h, h'⟩)
      · omega
      · omega
      · rcases a5 with a5 | a5
        · cases hw : w.data.toList with
          | nil => rw [hw] at hl; simp at hl; omega
          | cons c l =>
            rw [hb0 c l hw] at h
            rw [hw] at a5
            apply a5
            simp only [List.head?_cons, Option.some.injEq]
            exact UInt8.toNat_inj.1 h
        · omega
    rw [if_neg hns, if_pos a1, a2, if_neg (by omega)]
  | none =>
    simp only
    unfold natR
    split
    · rfl
    · rename_i hs
      split
      · rename_i hd
        split
        · rfl
        · rename_i hv
          exfalso
          have hall := fun c hc => dig_d8 (List.all_eq_true.1 hd c hc)
          have hno := fun n (hn : n < 1000) => natM_none e hn
          match hw : w.data.toList with
          | [] => rw [hw] at hl; simp at hl; omega
          | [a] =>
            obtain ⟨ka, hka, rfl⟩ := hall a (by rw [hw]; simp)
            have h1 := List.all_eq_true.1 one_all ka (List.mem_range.2 hka)
            simp only [decide_eq_true_eq] at h1
            rw [hw] at hv
            exact hno _ (by omega) (hw.trans h1.symm)
          | [a, b] =>
            obtain ⟨ka, hka, rfl⟩ := hall a (by rw [hw]; simp)
            obtain ⟨kb, hkb, rfl⟩ := hall b (by rw [hw]; simp)
            have h0 : ka ≠ 0 := by
              rintro rfl
              exact hs (.inr (.inr ⟨hb0 _ _ hw, by rw [← hl, hw]; simp⟩))
            have h1 := List.all_eq_true.1 (List.all_eq_true.1 two_all ka (List.mem_range.2 hka)) kb (List.mem_range.2 hkb)
            simp only [Bool.or_eq_true, beq_iff_eq, decide_eq_true_eq] at h1
            rw [hw] at hv
            exact hno _ (by omega) (hw.trans (h1.resolve_left h0).symm)
          | [a, b, c] =>
            obtain ⟨ka, hka, rfl⟩ := hall a (by rw [hw]; simp)
            obtain ⟨kb, hkb, rfl⟩ := hall b (by rw [hw]; simp)
            obtain ⟨kc, hkc, rfl⟩ := hall c (by rw [hw]; simp)
            have h0 : ka ≠ 0 := by
              rintro rfl
              exact hs (.inr (.inr ⟨hb0 _ _ hw, by rw [← hl, hw]; simp⟩))
            have h1 := List.all_eq_true.1 (List.all_eq_true.1 (List.all_eq_true.1 three_all ka (List.mem_range.2 hka)) kb (List.mem_range.2 hkb)) kc (List.mem_range.2 hkc)
            simp only [Bool.or_eq_true, beq_iff_eq, decide_eq_true_eq] at h1
            rw [hw] at hv
            exact hno _ (by omega) (hw.trans (h1.resolve_left h0).symm)
          | a :: b :: c :: d :: l =>
            obtain ⟨ka, hka, rfl⟩ := hall a (by rw [hw]; simp)
            have h0 : ka ≠ 0 := by
              rintro rfl
              exact hs (.inr (.inr ⟨hb0 _ _ hw, by rw [← hl, hw]; simp⟩))
            rw [hw] at hv
            unfold valN at hv
            simp only [List.foldl_cons] at hv
            have := valN_ge l (10 * (10 * (10 * (10 * 0 + ((d8 ka).toNat - 48)) + (b.toNat - 48)) + (c.toNat - 48)) + (d.toNat - 48))
            rw [d8_nat hka] at this hv
            omega
      · rfl
theorem valN_le {l : List UInt8} (hd : ∀ c ∈ l, c.toNat ≤ 57) : valN l < 10 ^ l.length := by
  induction l using snoc_ind with
  | h0 => decide
  | h1 l x ih =>
    have h1 := ih fun c hc => hd c (by simp [hc])
    have h2 := hd x (by simp)
    rw [valN_snoc, List.length_append, List.length_singleton, Nat.pow_succ]
    omega
set_option maxHeartbeats 4000000 in
theorem natural_any (s : ByteArray) (w : World) (hs : s.size ≤ 1000000) :
    Calls Tryz.prog 19 #[.string s, .int .i64 999] w fun e w' => e = .returned (.int .i64 (natR s)) ∧ w = w' := by
  by_cases h1 : s.size < 1
  · have HR : Hid (natR s = -1) := if_pos (.inl h1)
    have t1 : decide ((s.size : Int) < 1) = true := decide_eq_true (by omega)
    clear h1
    go_enter Tryz.func19, Tryz.ntmps19
    go_wp2_with fail
    go_ret
    exact ⟨ret_int HR.out.symm, rfl⟩
  have t1 : decide ((s.size : Int) < 1) = false := decide_eq_false (by omega)
  by_cases h2 : 9 < s.size
  · have HR : Hid (natR s = -1) := if_pos (.inr (.inl h2))
    have t2 : decide ((9 : Int) < (s.size : Int)) = true := decide_eq_true (by omega)
    clear h1 h2
    go_enter Tryz.func19, Tryz.ntmps19
    go_wp2_with fail
    go_ret
    exact ⟨ret_int HR.out.symm, rfl⟩
  have t2 : decide ((9 : Int) < (s.size : Int)) = false := decide_eq_false (by omega)
  have i0 : 0 < s.size := by omega
  by_cases h3 : bt s 0 = 48 ∧ 1 < s.size
  · have HR : Hid (natR s = -1) := if_pos (.inr (.inr h3))
    have t3 : ((bt s 0 : Int) == 48) = true := by rw [beq_iff_eq]; omega
    have t4 : decide ((1 : Int) < (s.size : Int)) = true := decide_eq_true (by omega)
    clear h1 h2 h3
    go_enter Tryz.func19, Tryz.ntmps19
    go_wp2_with fail
    go_ret
    exact ⟨ret_int HR.out.symm, rfl⟩
  have HR : Hid (natR s = if (s.data.toList.all fun c => digN c.toNat) = true then (if 999 < valN s.data.toList then -1 else (valN s.data.toList : Int)) else -1) := if_neg (fun h => h.elim h1 (fun h => h.elim h2 h3))
  have h9 : s.size ≤ 9 := by omega
  have hcase : (((bt s 0 : Int) == 48) = true ∧ decide ((1 : Int) < (s.size : Int)) = false) ∨ ((bt s 0 : Int) == 48) = false := by
    by_cases h : bt s 0 = 48
    · exact .inl ⟨by rw [beq_iff_eq]; omega, decide_eq_false (by omega)⟩
    · exact .inr (by rw [beq_eq_false_iff_ne]; omega)
  clear h1 h2 h3
  rcases hcase with ⟨t3, t4⟩ | t3
  all_goals
    go_enter Tryz.func19, Tryz.ntmps19
    go_wp2_with fail
    go_loop [5, 6] (fun n x => ∃ i : Nat, x = .int .i64 (i : Int) ∧ i ≤ s.size ∧ n = .int .i64 (valN (s.data.toList.take i) : Nat) ∧ Hid ((s.data.toList.take i).all (fun c => digN c.toNat) = true)) (fun _ x => s.size - (intOf x).toNat)
    case atStart => exact ⟨0, rfl, Nat.zero_le _, rfl, rfl⟩
    case round =>
      obtain ⟨i, rfl, hi, rfl, hal⟩ := hrel
      have hvb : valN (s.data.toList.take i) < 10 ^ 9 := by
        have h57 : ∀ c ∈ s.data.toList.take i, c.toNat ≤ 57 := fun c hc => by
          have := List.all_eq_true.1 hal.out c hc
          unfold digN at this
          simp only [Bool.and_eq_true, decide_eq_true_eq] at this
          exact this.2
        refine Nat.lt_of_lt_of_le (valN_le h57) (Nat.pow_le_pow_right (by decide) ?_)
        rw [List.length_take]; omega
      have hvb2 : valN (s.data.toList.take i) < 1000000000 := hvb
      clear hvb
      by_cases hlt : i < s.size
      · have g1 : (0 : Int) ≤ (i : Int) := by omega
        have g2 : (i : Int) < (s.size : Int) := by omega
        obtain ⟨c, hc, hcb⟩ := bt_get hlt
        have htk : s.data.toList.take (i + 1) = s.data.toList.take i ++ [c] := by rw [List.take_add_one, hc]; rfl
        have HV : Hid (valN (s.data.toList.take (i + 1)) = 10 * valN (s.data.toList.take i) + (bt s i - 48)) := by rw [Hid, htk, valN_snoc, hcb]
        by_cases hd : 48 ≤ bt s i ∧ bt s i ≤ 57
        · have hal2 : Hid ((s.data.toList.take (i + 1)).all (fun c => digN c.toNat) = true) := by
            rw [Hid, htk, List.all_append, hal.out]
            simp only [List.all_cons, List.all_nil, Bool.and_true, Bool.true_and]
            unfold digN
            rw [← hcb]
            simp; omega
          have a1 : decide ((bt s i : Int) < 48) = false := decide_eq_false (by omega)
          have a2 : decide ((57 : Int) < (bt s i : Int)) = false := decide_eq_false (by omega)
          have a3 : IntKind.u8.wrap ((bt s i : Int) - 48) = ((bt s i - 48 : Nat) : Int) := by unfold IntKind.wrap; simp [IntKind.signed, IntKind.bits]; omega
          have a4 : ((bt s i - 48 : Nat) : Int) ≤ 9 := by omega
          clear hc hcb htk hd hal
          generalize valN (s.data.toList.take i) = V at *
          generalize (bt s i - 48 : Nat) = D at *
          go_wp2_with fail
          go_round
          case rel => exact ⟨i + 1, by go_num, by omega, by rw [HV.out]; go_num, hal2⟩
          case measure => simp [intOf] <;> omega
        · have HX : Hid ((s.data.toList.all fun c => digN c.toNat) = false) := by
            rw [Hid, List.all_eq_false]
            refine ⟨c, List.mem_of_getElem? hc, ?_⟩
            unfold digN
            rw [← hcb]
            simp; omega
          clear hc hcb htk hal HV
          by_cases hd1 : bt s i < 48
          · have a1 : decide ((bt s i : Int) < 48) = true := decide_eq_true (by omega)
            clear hd
            go_wp2_with fail
            go_ret
            exact ⟨ret_int (by rw [HR.out, HX.out]; rfl), rfl⟩
          · have a1 : decide ((bt s i : Int) < 48) = false := decide_eq_false (by omega)
            have a2 : decide ((57 : Int) < (bt s i : Int)) = true := decide_eq_true (by omega)
            clear hd
            go_wp2_with fail
            go_ret
            exact ⟨ret_int (by rw [HR.out, HX.out]; rfl), rfl⟩
      · have hge : i = s.size := by omega
        subst hge
        have htk : s.data.toList.take s.size = s.data.toList := List.take_of_length_le (by rw [Array.length_toList]; exact Nat.le_refl _)
        rw [htk] at hal hvb2 ⊢
        have HX := hal
        clear htk hal
        generalize valN s.data.toList = V at *
        by_cases h999 : 999 < V
        · have a1 : decide ((999 : Int) < (V : Int)) = true := decide_eq_true (by omega)
          have HZ : Hid ((if 999 < V then (-1 : Int) else (V : Int)) = -1) := if_pos h999
          clear h999
          go_wp2_with fail
          go_ret
          exact ⟨ret_int (by rw [HR.out, HX.out, if_pos rfl, HZ.out]), rfl⟩
        · have a1 : decide ((999 : Int) < (V : Int)) = false := decide_eq_false (by omega)
          have HZ : Hid ((if 999 < V then (-1 : Int) else (V : Int)) = V) := if_neg h999
          clear h999
          go_wp2_with fail
          go_ret
          exact ⟨ret_int (by rw [HR.out, HX.out, if_pos rfl, HZ.out]), rfl⟩
theorem str_one {n : Nat} (h : n < 10) : strOfNums [(48 : Int) + (n : Int)] = ⟨(Lib.decDigits n).toArray⟩ := by
  rw [Lib.decDigits_one h]
  have : n = 0 ∨ n = 1 ∨ n = 2 ∨ n = 3 ∨ n = 4 ∨ n = 5 ∨ n = 6 ∨ n = 7 ∨ n = 8 ∨ n = 9 := by omega
  rcases this with rfl | rfl | rfl | rfl | rfl | rfl | rfl | rfl | rfl | rfl <;> rfl
attribute [local go_sem] conv1
set_option maxHeartbeats 1000000 in
theorem decimal_any (n : Nat) (hn : n < 10) (w : World) : Calls Tryz.prog 34 #[.int .i64 (n : Int)] w fun e w' => e = .returned (.string ⟨(Lib.decDigits n).toArray⟩) ∧ Below w.heap.size w w' := by
  have t1 : decide ((n : Int) < 0) = false := decide_eq_false (by omega)
  have t2 : decide ((n : Int) < 10) = true := decide_eq_true (by omega)
  have u1 : IntKind.u8.wrap (48 + (n : Int)) = 48 + (n : Int) := by unfold IntKind.wrap; simp [IntKind.signed, IntKind.bits]; omega
  have HS := Lib.hid (str_one hn)
  go_enter Tryz.func34, Tryz.ntmps34
  go_wp2_with fail
  go_ret
  exact ⟨by rw [← HS.out]; rfl, (Below.refl _ _).alloc (Nat.le_refl _) _⟩
set_option maxHeartbeats 1000000 in
theorem rfaultT_any (n : Nat) (hn : n < 10) (w : World) : Calls Tryz.prog 13 #[.int .i64 (n : Int)] w fun e w' => e = .returned (.string (errB n)) ∧ Below w.heap.size w w' := by
  have HD := Lib.hid (decimal_any n hn w)
  have h2 : (Lib.decDigits n).toArray.size ≤ 100 := by rw [Lib.decDigits_one hn]; simp
  generalize hd : (⟨(Lib.decDigits n).toArray⟩ : ByteArray) = d at *
  have hds : d.size ≤ 100 := by rw [← hd]; exact h2
  clear h2
  go_enter Tryz.func13, Tryz.ntmps13
  go_wp2_with fail
  refine HD.out.mono ?_
  rintro e w1 ⟨rfl, hb⟩
  go_wp2_with fail
  go_ret
  exact ⟨by rw [errB, hd]; rfl, hb⟩
/-- What is told so far. -/
def accT (l : List Ent) : ByteArray := ⟨(Lib.join ((l.map pairB).map fun x => x.data.toList) [32]).toArray⟩
theorem pairB_size {e : Ent} (h : faultE e = 0) : (pairB e).size ≤ 25 := by
  have hz := (faultE_zero h).2.2
  unfold pairB
  rw [ByteArray.size_append, ByteArray.size_append, show bq.size = 1 from rfl]
  omega
theorem accT_next (l : List Ent) (y : Ent) : accT (l ++ [y]) = (if l = [] then ByteArray.empty else accT l ++ bsp) ++ pairB y := by
  apply b_eq
  by_cases h : l = []
  · subst h
    rw [if_pos rfl, b_app]
    show (Lib.join [(pairB y).data.toList] [32]).toArray.toList = _
    rw [Lib.join_one]; rfl
  · rw [if_neg h, b_app, b_app]
    show (Lib.join (((l ++ [y]).map pairB).map fun x => x.data.toList) [32]).toArray.toList = (Lib.join ((l.map pairB).map fun x => x.data.toList) [32]).toArray.toList ++ [32] ++ _
    rw [List.map_append, List.map_append, List.map_cons, List.map_nil, List.map_cons, List.map_nil, join_snoc _ _ _ (by simpa using h)]
theorem accT_size {l : List Ent} (h : ∀ e ∈ l, faultE e = 0) : (accT l).size ≤ 26 * l.length := by
  induction l using snoc_ind with
  | h0 => exact Nat.le_refl _
  | h1 l x ih =>
    have h1 := ih fun e he => h e (by simp [he])
    have h2 := pairB_size (h x (by simp))
    rw [accT_next, ByteArray.size_append]
    split
    · rw [show ByteArray.empty.size = 0 from rfl]; simp; omega
    · rw [ByteArray.size_append, show bsp.size = 1 from rfl]; simp; omega
theorem accT_pos {l : List Ent} (h : l ≠ []) : 0 < (accT l).size := by
  induction l using snoc_ind with
  | h0 => exact absurd rfl h
  | h1 l x ih =>
    rw [accT_next, ByteArray.size_append]
    unfold pairB
    rw [ByteArray.size_append, ByteArray.size_append, show bq.size = 1 from rfl]
    omega
theorem toldB_acc {l : List Ent} (h : l ≠ []) : toldB l = accT l := if_neg (by simpa using h)
set_option maxRecDepth 20000 in
set_option maxHeartbeats 4000000 in
theorem told_any (B : Nat) (v : Value) (l : List Ent) (w : World) (hv : Ents B w v l) (hf : ∀ e ∈ l, faultE e = 0) (hn : l.length ≤ 1000) :
    Calls Tryz.prog 17 #[v] w fun e w' => e = .returned (.string (toldB l)) ∧ Below w.heap.size w w' := by
  obtain ⟨A, c, rfl, hc, hc2, hcell⟩ := hv.form
  have HC := Lib.hid hcell
  have HF := Lib.hid hf
  clear hcell hv hf
  go_enter Tryz.func17, Tryz.ntmps17
  go_wp2_with fail
  go_loopw [3, 4] (fun s i wr => ∃ k n : Nat, k ≤ l.length ∧ i = .int .i64 k ∧ s = .string (accT (l.take k)) ∧ w.drewN n = wr) (fun _ i _ => l.length - (intOf i).toNat)
  case atStart => exact ⟨0, 0, Nat.zero_le _, rfl, rfl, rfl⟩
  case round =>
    obtain ⟨k, n, hk, rfl, rfl, rfl⟩ := hrel
    have hsz := accT_size (fun e he => HF.out e (List.mem_of_mem_take he) : ∀ e ∈ l.take k, faultE e = 0)
    rw [List.length_take_of_le hk] at hsz
    by_cases hlt : k < l.length
    · obtain ⟨y, hy, htk, _⟩ := getElem?_of_lt hlt
      obtain ⟨b, o, rfl, hb, c1, c2, c3⟩ := HC.out k y hy
      have hz := (faultE_zero (HF.out y (List.mem_of_getElem? hy))).2.2
      have z1 := hz.1
      have z2 := hz.2
      have g1 : (0 : Int) ≤ (k : Int) := by omega
      have g2 : (k : Int) < (l.length : Int) := by omega
      have hnx : accT (l.take (k + 1)) = (if l.take k = [] then ByteArray.empty else accT (l.take k) ++ bsp) ++ ((y.k ++ bq) ++ y.v) := by rw [htk, accT_next]; rfl
      have hne : 0 < k → l.take k ≠ [] := fun h e => by
        have := congrArg List.length e
        rw [List.length_take_of_le hk] at this
        simp at this; omega
      have h0 : k = 0 → l.take k = [] ∧ accT (l.take k) = ByteArray.empty := fun h => by subst h; exact ⟨rfl, rfl⟩
      generalize accT (l.take k) = S at *
      clear htk hy hz
      by_cases hk0 : k = 0
      · obtain ⟨e1, e2⟩ := h0 hk0
        have HNX : Hid (accT (l.take (k + 1)) = ((S ++ y.k) ++ bq) ++ y.v) := by
          rw [Hid, hnx, if_pos e1, e2]
          simp only [ByteArray.append_assoc]
        have t1 : decide (0 < k) = false := decide_eq_false (by omega)
        have q1 : (S ++ y.k).size = S.size + y.k.size := ByteArray.size_append
        have q2 : ((S ++ y.k) ++ (⟨#[61]⟩ : ByteArray)).size = S.size + y.k.size + 1 := by rw [ByteArray.size_append, q1]; rfl
        clear hnx hne h0 e1 e2 hk0
        go_wp2_with fail
        go_quiet (fail)
        go_wp2_with fail
        go_roundw
        case rel => exact ⟨k + 1, _, by omega, by go_num, by rw [HNX.out]; rfl, rfl⟩
        case measure => simp [intOf] <;> omega
      · have hif := hne (by omega)
        have HNX : Hid (accT (l.take (k + 1)) = (((S ++ bsp) ++ y.k) ++ bq) ++ y.v) := by
          rw [Hid, hnx, if_neg hif]
          simp only [ByteArray.append_assoc]
        have t1 : decide (0 < k) = true := decide_eq_true (by omega)
        have q0 : (S ++ (⟨#[32]⟩ : ByteArray)).size = S.size + 1 := by rw [ByteArray.size_append]; rfl
        have q1 : ((S ++ (⟨#[32]⟩ : ByteArray)) ++ y.k).size = S.size + 1 + y.k.size := by rw [ByteArray.size_append, q0]
        have q2 : (((S ++ (⟨#[32]⟩ : ByteArray)) ++ y.k) ++ (⟨#[61]⟩ : ByteArray)).size = S.size + 1 + y.k.size + 1 := by rw [ByteArray.size_append, q1]; rfl
        clear hnx hne h0 hif hk0
        go_wp2_with fail
        go_quiet (fail)
        go_wp2_with fail
        go_roundw
        case rel => exact ⟨k + 1, _, by omega, by go_num, by rw [HNX.out]; rfl, rfl⟩
        case measure => simp [intOf] <;> omega
    · have hge : k = l.length := by omega
      subst hge
      rw [List.take_length] at hsz ⊢
      by_cases hl : l = []
      · have t1 : ((accT l).toList == []) = true := by rw [hl]; decide +kernel
        have HT : Hid (toldB l = txDash) := by rw [hl]; rfl
        clear hl
        generalize accT l = S at *
        go_wp2_with fail
        go_ret
        rw [HT.out]
        exact ⟨rfl, below_drewN' (Below.refl _ _) n⟩
      · have hp := accT_pos hl
        have t1 : ((accT l).toList == []) = false := by rw [beq_eq_false_iff_ne, Ne, toList_nil]; omega
        have HT := Lib.hid (toldB_acc hl)
        clear hl hp
        generalize accT l = S at *
        go_wp2_with fail
        go_ret
        rw [HT.out]
        exact ⟨rfl, below_drewN' (Below.refl _ _) n⟩
set_option maxHeartbeats 1000000 in
theorem sameT_any (B : Nat) (a b : Value) (la lb : List ByteArray) (w : World) (ha : Strs B w a la) (hb : Strs B w b lb) :
    Calls Tryz.prog 8 #[a, b] w fun e w' => e = .returned (.bool (decide (la = lb))) ∧ ∃ n, w.drewN n = w' := by
  obtain ⟨A, c, rfl, hc, hc2, hcell⟩ := ha.form
  obtain ⟨A', c', rfl, hc', hc2', hcell'⟩ := hb.form
  have HA := Lib.hid hcell
  have HB := Lib.hid hcell'
  clear hcell hcell' ha hb
  by_cases hl : la.length = lb.length
  · have t1 : ((la.length : Int) != (lb.length : Int)) = false := by rw [hl]; simp
    have HL := Lib.hid hl
    clear hl
    go_enter Tryz.func8, Tryz.ntmps8
    go_wp2_with fail
    go_loopw [5] (fun i wr => ∃ k n : Nat, k ≤ la.length ∧ i = .int .i64 k ∧ w.drewN n = wr ∧ Hid (la.take k = lb.take k)) (fun i _ => la.length - (intOf i).toNat)
    case atStart => exact ⟨0, 0, Nat.zero_le _, rfl, rfl, rfl⟩
    case round =>
      obtain ⟨k, n, hk, rfl, rfl, htk⟩ := hrel
      by_cases hlt : k < la.length
      · have hlt' : k < lb.length := by have := HL.out; omega
        obtain ⟨x, hx, hx2, _⟩ := getElem?_of_lt hlt
        obtain ⟨y, hy, hy2, _⟩ := getElem?_of_lt hlt'
        obtain ⟨b, o, rfl, hb, c1⟩ := HA.out k x hx
        obtain ⟨b', o', rfl, hb', d1⟩ := HB.out k y hy
        have X2 := Lib.hid hx2
        have Y2 := Lib.hid hy2
        have X1 := Lib.hid hx
        have Y1 := Lib.hid hy
        clear hx hx2 hy hy2
        have g1 : (0 : Int) ≤ (k : Int) := by omega
        have g2 : (k : Int) < (la.length : Int) := by omega
        have g3 : (k : Int) < (lb.length : Int) := by omega
        by_cases hxy : x = y
        · have hd : (x.toList == y.toList) = true := by rw [hxy]; simp
          have HX := Lib.hid hxy
          clear hxy
          go_wp2_with fail
          go_quiet (fail)
          go_wp2_with fail
          go_roundw
          case rel => exact ⟨k + 1, _, by omega, by go_num, rfl, by rw [Hid, X2.out, Y2.out, htk.out, HX.out]⟩
          case measure => simp [intOf] <;> omega
        · have hd : (x.toList == y.toList) = false := by rw [beq_eq_false_iff_ne]; exact fun e => hxy ((toList_inj x y).1 e)
          have HX := Lib.hid hxy
          clear hxy
          go_wp2_with fail
          go_quiet (fail)
          go_wp2_with fail
          go_ret
          refine ⟨ret_bool ?_, n + nq, by simp [World.drewN_drewN]⟩
          symm
          apply decide_eq_false
          intro e
          have h1 := X1.out
          have h2 := Y1.out
          rw [e, h2] at h1
          exact HX.out (Option.some.inj h1).symm
      · have hge : la.length ≤ k := by omega
        go_wp2_with fail
        go_ret
        refine ⟨ret_bool ?_, _, rfl⟩
        have h1 := htk.out
        have h2 := HL.out
        rw [List.take_of_length_le hge, List.take_of_length_le (by omega)] at h1
        rw [h1]; simp
  · have t1 : ((la.length : Int) != (lb.length : Int)) = true := by rw [bne_iff_ne]; omega
    have HL := Lib.hid hl
    clear hl
    go_enter Tryz.func8, Tryz.ntmps8
    go_wp2_with fail
    go_ret
    refine ⟨ret_bool ?_, 0, rfl⟩
    symm
    apply decide_eq_false
    intro e
    exact HL.out (by rw [e])
end Go.Proofs.YtaepdbkfaoiimabGreatDoor
/- Sessions: the reference's Say answers as the plain function says. Conditions: the rows so far are at most a thousand, and nothing is wrong with them. -/
set_option linter.unusedVariables false
set_option linter.unusedSimpArgs false
set_option linter.unnecessarySimpa false
namespace Go.Proofs.YtaepdbkfaoiimabGreatDoor
open Go.RowKit
theorem checkR_lt10 (r l : List Ent) : checkR r l < 10 := by
  have h3 : ∀ l : List Ent, ff l ≤ 3 := by
    intro l
    induction l with
    | nil => exact Nat.zero_le _
    | cons e l ih =>
      rw [ff]
      split
      · exact ih
      · exact faultE_le e
  have h4 : bytesF l ≤ 3 := by
    unfold bytesF
    have := h3 l
    repeat' split
    all_goals omega
  unfold checkR
  repeat' split
  all_goals omega
/-- The reference's session. -/
structure RSes (B : Nat) (W : World) (y : Nat) (r : List Ent) : Prop where
  ex : ∃ m, Blk W y 35 #[.pointer (some ⟨m, 0, none⟩)] ∧ RS B W m r
  base : B ≤ y
theorem RSes.below {B y : Nat} {w w' : World} {r : List Ent} (h : RSes B w y r) (hb : Below w.heap.size w w') : RSes B w' y r := by
  obtain ⟨⟨m, h1, h2⟩, h3⟩ := h
  exact ⟨⟨m, h1.below hb h1.lt, h2.below hb⟩, h3⟩
theorem rses_apart {B y m : Nat} {W : World} {r : List Ent} {cs : Array Value} (hb : Blk W y 35 cs) (h : RS B W m r) : y ≠ m := by
  rintro rfl
  obtain ⟨⟨v, h1, _⟩, _⟩ := h
  exact blk_ne hb h1 (by decide)
set_option maxRecDepth 100000 in
set_option maxHeartbeats 8000000 in
theorem rsay_any (B y : Nat) (r : List Ent) (line : ByteArray) (w : World) (hB : B ≤ w.heap.size) (hf : ∀ e ∈ r, faultE e = 0) (hn : r.length ≤ 1000) (h : RSes B w y r) :
    Calls Tryz.prog 7 #[.pointer (some ⟨y, 0, none⟩), .string line] w fun e w' => e = .returned (.string (refM r (cmdOf line)).2) ∧ RSes B w' y (refM r (cmdOf line)).1 ∧ Fr B AnyB w w' := by
  have HD4 : Hid (∀ W, Calls Tryz.prog 13 #[.int .i64 4] W fun e w' => e = .returned (.string (errB 4)) ∧ Below W.heap.size W w') := fun W => rfaultT_any 4 (by decide) W
  by_cases h60 : 60 < line.size
  · have HC : Hid (refM r (cmdOf line) = (r, errB 4)) := by rw [Hid, cmd_long h60]; rfl
    have t1 : decide ((60 : Int) < (line.size : Int)) = true := decide_eq_true (by omega)
    have HFIN : Hid (∀ w', Below w.heap.size w w' → RSes B w' y r ∧ Fr B AnyB w w') := fun w' hb => ⟨h.below hb, Fr.of_below hb⟩
    clear h60 h
    go_enter Tryz.func7, Tryz.ntmps7
    go_wp2_with fail
    refine (HD4.out _).mono ?_
    rintro e wz ⟨rfl, hbz⟩
    have HFIN2 := Lib.hid (HFIN.out wz hbz)
    clear hbz
    go_wp2_with fail
    go_ret
    rw [HC.out]
    exact ⟨rfl, HFIN2.out⟩
  have t1 : decide ((60 : Int) < (line.size : Int)) = false := decide_eq_false (by omega)
  have HCW := Lib.hid (cmd_in h60)
  have hls : line.size ≤ 60 := by omega
  have HSP := Lib.hid (split_any B line w (by omega))
  have HS := Lib.hid h
  have HSUB : Hid (∀ z ∈ splB line, z.size ≤ line.size) := fun z hz => splB_sub hz
  have HF := Lib.hid hf
  clear h60 h hf
  go_enter Tryz.func7, Tryz.ntmps7
  go_wp2_with fail
  refine HSP.out.mono ?_
  rintro e w1 ⟨v1, rfl, hv1, hb1⟩
  obtain ⟨A, cp, rfl, _, _, _⟩ := hv1.form
  have HS1 := Lib.hid (HS.out.below hb1)
  have HF1 := Lib.hid (Fr.of_below (B := B) (M := AnyB) hb1)
  have hB1 : B ≤ w1.heap.size := Nat.le_trans hB hb1.size
  have HFIN : Hid (∀ w', Below w1.heap.size w1 w' → RSes B w' y r ∧ Fr B AnyB w w') := fun w' hb => ⟨HS1.out.below hb, HF1.out.trans (Fr.of_below (B := B) (M := AnyB) hb) (fun _ _ => trivial)⟩
  obtain ⟨⟨m, hy1, ⟨⟨vr, hm1, hvr⟩, hmB⟩⟩, hyB⟩ := HS1.out
  have q0 := hy1.cell 0
  have q1 := hm1.cell 0
  simp at q0 q1
  have HVR := Lib.hid hvr
  clear HSP HS hb1 hvr
  cases hws : splB line with
  | nil => exact absurd hws (splB_ne line)
  | cons w0 r0 =>
    rw [hws] at hv1 HSUB HCW
    obtain ⟨_, hcp, b, o, rfl, hbw, hcell⟩ := hv1.at_ (by simp)
    have c0 := hcell 0 w0 rfl
    simp at c0
    have hz0 := HSUB.out w0 (by simp)
    cases r0 with
    | nil =>
      have hcase : (w0.toList == [119, 114, 105, 116, 101]) = true ∨ (w0.toList == [119, 114, 105, 116, 101]) = false := by cases (w0.toList == [119, 114, 105, 116, 101]) <;> simp
      have HC0 : Hid (cmdOf line = cmd1 line) := HCW.out
      clear hcell hv1 hws HCW HSUB
      simp only [List.length_cons, List.length_nil, Nat.zero_add] at *
      have HTO : Hid (∀ W, Below w1.heap.size w1 W → Calls Tryz.prog 17 #[vr] W fun e w' => e = .returned (.string (toldB r)) ∧ Below w1.heap.size w1 w') := fun W hW => (told_any B vr r W (HVR.out.below hW) HF.out hn).mono fun e w' ⟨h1, h2⟩ => ⟨h1, hW.trans (h2.mono hW.size)⟩
      rcases hcase with t2 | t2
      · by_cases e1 : line.toList = kRows
        · have HC : Hid (refM r (cmdOf line) = (r, toldB r)) := by rw [Hid, HC0.out, cmd1, if_pos e1]; rfl
          have b1 : (line.toList == [114, 111, 119, 115]) = true := beq_iff_eq.2 e1
          have HT1 := Lib.hid (HTO.out w1 (Below.refl _ _))
          clear e1 HC0 HTO
          go_wp2_with fail
          refine HT1.out.mono ?_
          rintro e wz ⟨rfl, hbz⟩
          have HFIN2 := Lib.hid (HFIN.out wz hbz)
          clear hbz
          go_wp2_with fail
          go_ret
          rw [HC.out]
          exact ⟨rfl, HFIN2.out⟩
        have b1 : (line.toList == [114, 111, 119, 115]) = false := beq_eq_false_iff_ne.2 e1
        by_cases e3 : line.toList = kFlush
        · have eb : line.toList ≠ kBlocks := by rw [e3]; decide
          have HC : Hid (refM r (cmdOf line) = (r, txOk)) := by rw [Hid, HC0.out, cmd1, if_neg e1, if_neg eb, if_pos e3]; rfl
          have b3 : (line.toList == [102, 108, 117, 115, 104]) = true := beq_iff_eq.2 e3
          clear e3 eb HC0 HTO e1
          go_wp2_with fail
          go_ret
          rw [HC.out]
          exact ⟨rfl, HFIN.out _ (Below.refl _ _)⟩
        have b3 : (line.toList == [102, 108, 117, 115, 104]) = false := beq_eq_false_iff_ne.2 e3
        by_cases e4 : line.toList = kCompact
        · have eb : line.toList ≠ kBlocks := by rw [e4]; decide
          have HC : Hid (refM r (cmdOf line) = (r, txOk)) := by rw [Hid, HC0.out, cmd1, if_neg e1, if_neg eb, if_neg e3, if_pos e4]; rfl
          have b4 : (line.toList == [99, 111, 109, 112, 97, 99, 116]) = true := beq_iff_eq.2 e4
          clear e4 eb HC0 HTO e1 e3
          go_wp2_with fail
          go_ret
          rw [HC.out]
          exact ⟨rfl, HFIN.out _ (Below.refl _ _)⟩
        have b4 : (line.toList == [99, 111, 109, 112, 97, 99, 116]) = false := beq_eq_false_iff_ne.2 e4
        by_cases e5 : line.toList = kOpen
        · have eb : line.toList ≠ kBlocks := by rw [e5]; decide
          have HC : Hid (refM r (cmdOf line) = (r, txOk)) := by rw [Hid, HC0.out, cmd1, if_neg e1, if_neg eb, if_neg e3, if_neg e4, if_pos e5]; rfl
          have b5 : (line.toList == [111, 112, 101, 110]) = true := beq_iff_eq.2 e5
          clear e5 eb HC0 HTO e1 e3 e4
          go_wp2_with fail
          go_ret
          rw [HC.out]
          exact ⟨rfl, HFIN.out _ (Below.refl _ _)⟩
        have b5 : (line.toList == [111, 112, 101, 110]) = false := beq_eq_false_iff_ne.2 e5
        have HC : Hid (refM r (cmdOf line) = (r, errB 4)) := by
          rw [Hid, HC0.out, cmd1, if_neg e1]
          by_cases eb : line.toList = kBlocks
          · rw [if_pos eb]; rfl
          · rw [if_neg eb, if_neg e3, if_neg e4, if_neg e5]; rfl
        clear e1 e3 e4 e5 HC0 HTO
        go_wp2_with fail
        refine (HD4.out _).mono ?_
        rintro e wz ⟨rfl, hbz⟩
        have HFIN2 := Lib.hid (HFIN.out wz hbz)
        clear hbz
        go_wp2_with fail
        go_ret
        rw [HC.out]
        exact ⟨rfl, HFIN2.out⟩
      · by_cases e1 : line.toList = kRows
        · have HC : Hid (refM r (cmdOf line) = (r, toldB r)) := by rw [Hid, HC0.out, cmd1, if_pos e1]; rfl
          have b1 : (line.toList == [114, 111, 119, 115]) = true := beq_iff_eq.2 e1
          have HT1 := Lib.hid (HTO.out w1 (Below.refl _ _))
          clear e1 HC0 HTO
          go_wp2_with fail
          refine HT1.out.mono ?_
          rintro e wz ⟨rfl, hbz⟩
          have HFIN2 := Lib.hid (HFIN.out wz hbz)
          clear hbz
          go_wp2_with fail
          go_ret
          rw [HC.out]
          exact ⟨rfl, HFIN2.out⟩
        have b1 : (line.toList == [114, 111, 119, 115]) = false := beq_eq_false_iff_ne.2 e1
        by_cases e3 : line.toList = kFlush
        · have eb : line.toList ≠ kBlocks := by rw [e3]; decide
          have HC : Hid (refM r (cmdOf line) = (r, txOk)) := by rw [Hid, HC0.out, cmd1, if_neg e1, if_neg eb, if_pos e3]; rfl
          have b3 : (line.toList == [102, 108, 117, 115, 104]) = true := beq_iff_eq.2 e3
          clear e3 eb HC0 HTO e1
          go_wp2_with fail
          go_ret
          rw [HC.out]
          exact ⟨rfl, HFIN.out _ (Below.refl _ _)⟩
        have b3 : (line.toList == [102, 108, 117, 115, 104]) = false := beq_eq_false_iff_ne.2 e3
        by_cases e4 : line.toList = kCompact
        · have eb : line.toList ≠ kBlocks := by rw [e4]; decide
          have HC : Hid (refM r (cmdOf line) = (r, txOk)) := by rw [Hid, HC0.out, cmd1, if_neg e1, if_neg eb, if_neg e3, if_pos e4]; rfl
          have b4 : (line.toList == [99, 111, 109, 112, 97, 99, 116]) = true := beq_iff_eq.2 e4
          clear e4 eb HC0 HTO e1 e3
          go_wp2_with fail
          go_ret
          rw [HC.out]
          exact ⟨rfl, HFIN.out _ (Below.refl _ _)⟩
        have b4 : (line.toList == [99, 111, 109, 112, 97, 99, 116]) = false := beq_eq_false_iff_ne.2 e4
        by_cases e5 : line.toList = kOpen
        · have eb : line.toList ≠ kBlocks := by rw [e5]; decide
          have HC : Hid (refM r (cmdOf line) = (r, txOk)) := by rw [Hid, HC0.out, cmd1, if_neg e1, if_neg eb, if_neg e3, if_neg e4, if_pos e5]; rfl
          have b5 : (line.toList == [111, 112, 101, 110]) = true := beq_iff_eq.2 e5
          clear e5 eb HC0 HTO e1 e3 e4
          go_wp2_with fail
          go_ret
          rw [HC.out]
          exact ⟨rfl, HFIN.out _ (Below.refl _ _)⟩
        have b5 : (line.toList == [111, 112, 101, 110]) = false := beq_eq_false_iff_ne.2 e5
        have HC : Hid (refM r (cmdOf line) = (r, errB 4)) := by
          rw [Hid, HC0.out, cmd1, if_neg e1]
          by_cases eb : line.toList = kBlocks
          · rw [if_pos eb]; rfl
          · rw [if_neg eb, if_neg e3, if_neg e4, if_neg e5]; rfl
        clear e1 e3 e4 e5 HC0 HTO
        go_wp2_with fail
        refine (HD4.out _).mono ?_
        rintro e wz ⟨rfl, hbz⟩
        have HFIN2 := Lib.hid (HFIN.out wz hbz)
        clear hbz
        go_wp2_with fail
        go_ret
        rw [HC.out]
        exact ⟨rfl, HFIN2.out⟩
    | cons w1' r' =>
      have c1 := hcell 1 w1' rfl
      have hz1 := HSUB.out w1' (by simp)
      have hsz := splB_size hws
      by_cases hw : w0.toList = kWrite
      · have HC0 : Hid (cmdOf line = .write (line.extract 6 line.size)) := by
          rw [Hid, HCW.out]
          exact if_pos hw
        have t2 : (w0.toList == [119, 114, 105, 116, 101]) = true := beq_iff_eq.2 hw
        have h5 : w0.size = 5 := by
          have := congrArg List.length hw
          rw [b_toList, Array.length_toList] at this
          exact this
        have HRO := Lib.hid (rof_any B (line.extract 6 line.size) w1 (by rw [ByteArray.size_extract]; omega))
        have t3 : decide ((1 : Int) < (((w0 :: w1' :: r').length : Nat) : Int)) = true := decide_eq_true (by simp only [List.length_cons]; omega)
        have g6 : (6 : Int) ≤ (line.size : Int) := by omega
        generalize (w0 :: w1' :: r').length = N at *
        have g0 : 0 < N := by have := of_decide_eq_true t3; omega
        have HAP := Lib.hid (rses_apart hy1 (⟨⟨vr, hm1, HVR.out⟩, hmB⟩ : RS B w1 m r))
        have HY1 := Lib.hid hy1
        have HM1 : Hid (RS B w1 m r) := ⟨⟨vr, hm1, HVR.out⟩, hmB⟩
        have HREF : Hid (refM r (.write (line.extract 6 line.size)) = if ofF (line.extract 6 line.size) = 0 then (rowsW r (ofL (line.extract 6 line.size)), doneB (checkR r (ofL (line.extract 6 line.size)))) else (r, errB 4)) := rfl
        clear hcell hv1 hws HCW HSUB hw hy1 hm1
        go_wp2_with fail
        generalize line.extract 6 line.size = tx at *
        refine HRO.out.mono ?_
        rintro e w2 ⟨v2, rfl, hv2, hb2⟩
        by_cases h0 : ofF tx = 0
        · have hz : (ofF tx : Int) = 0 := by omega
          rw [hz]
          have HM2 := Lib.hid (HM1.out.below hb2)
          have HY2 := Lib.hid (HY1.out.below hb2 HY1.out.lt)
          have HWR := Lib.hid (rwrite_any B m v2 r (ofL tx) w2 HM2.out hv2 (by omega))
          have q2 := HY2.out.cell 0
          simp at q2
          have HC : Hid (refM r (cmdOf line) = (rowsW r (ofL tx), doneB (checkR r (ofL tx)))) := by rw [Hid, HC0.out, HREF.out, if_pos h0]
          have HF2 := Lib.hid (HF1.out.trans (Fr.of_below (B := B) (M := AnyB) hb2) (fun _ _ => trivial))
          have hck := checkR_lt10 r (ofL tx)
          have hB2 : B ≤ w2.heap.size := Nat.le_trans hB1 hb2.size
          clear h0 hz hv2 hb2 HC0 HREF q0 q1
          generalize rowsW r (ofL tx) = rw2 at *
          generalize checkR r (ofL tx) = n at *
          go_wp2_with fail
          refine HWR.out.mono ?_
          rintro e w3 ⟨rfl, hm3, hf3⟩
          have hy3 := HY2.out.fr hf3 (.inr (.inl HAP.out))
          have HFIN3 : Hid (∀ w', Below w3.heap.size w3 w' → RSes B w' y rw2 ∧ Fr B AnyB w w') := fun w' hb => ⟨(⟨⟨m, hy3, hm3⟩, hyB⟩ : RSes B w3 y rw2).below hb, (HF2.out.trans (hf3.mono fun _ _ _ => trivial) (fun _ _ => trivial)).trans (Fr.of_below (B := B) (M := AnyB) hb) (fun _ _ => trivial)⟩
          clear hy3 hm3 hf3 HWR q2
          by_cases hn0 : n = 0
          · subst hn0
            go_wp2_with fail
            go_ret
            rw [HC.out]
            exact ⟨rfl, HFIN3.out _ (Below.refl _ _)⟩
          · have t5 : decide ((0 : Int) < (n : Int)) = true := decide_eq_true (by omega)
            have t6 : decide (0 < n) = true := decide_eq_true (by omega)
            have HDN := Lib.hid (rfaultT_any n hck)
            have HDB : Hid (doneB n = errB n) := if_neg hn0
            clear hn0
            go_wp2_with fail
            refine (HDN.out _).mono ?_
            rintro e wz ⟨rfl, hbz⟩
            have HFIN2 := Lib.hid (HFIN3.out wz hbz)
            clear hbz
            go_wp2_with fail
            go_ret
            rw [HC.out, HDB.out]
            exact ⟨rfl, HFIN2.out⟩
        · have h4 : ofF tx = 4 := by unfold ofF at h0 ⊢; split <;> rename_i h <;> simp [h] at h0 ⊢
          have HC : Hid (refM r (cmdOf line) = (r, errB 4)) := by rw [Hid, HC0.out, HREF.out, if_neg h0]
          have hz : (ofF tx : Int) = 4 := by omega
          rw [hz]
          have HFIN3 : Hid (∀ w', Below w2.heap.size w2 w' → RSes B w' y r ∧ Fr B AnyB w w') := fun w' hb => HFIN.out w' (hb2.trans (hb.mono hb2.size))
          clear h0 h4 hz hv2 hb2 HFIN
          have HFIN := HFIN3
          clear HFIN3
          go_wp2_with fail
          refine (HD4.out _).mono ?_
          rintro e wz ⟨rfl, hbz⟩
          have HFIN2 := Lib.hid (HFIN.out wz hbz)
          clear hbz
          go_wp2_with fail
          go_ret
          rw [HC.out]
          exact ⟨rfl, HFIN2.out⟩
      have t2 : (w0.toList == [119, 114, 105, 116, 101]) = false := beq_eq_false_iff_ne.2 hw
      have HC2 : Hid (cmdOf line = cmd2 w0 w1' r') := by
        rw [Hid, HCW.out]
        exact if_neg hw
      clear hw HCW
      cases r' with
      | nil =>
        simp only [List.length_cons, List.length_nil, Nat.zero_add, Nat.reduceAdd] at *
        by_cases hg : w0.toList = kGet
        · have HC : Hid (refM r (cmdOf line) = (r, if (getE r w1').isSome then bq ++ ((getE r w1').getD Ent.zero).v else errB 5)) := by
            rw [Hid, HC2.out, cmd2, if_pos hg]; rfl
          have t4 : (w0.toList == [103, 101, 116]) = true := beq_iff_eq.2 hg
          have HG : Hid (∀ W, Below w1.heap.size w1 W → Calls Tryz.prog 18 #[vr, .string w1'] W fun e w' => e = .returned (.tuple #[((getE r w1').getD Ent.zero).val, .bool (getE r w1').isSome]) ∧ Below w1.heap.size w1 w') := fun W hW => (rget_any B vr r w1' W (HVR.out.below hW)).mono fun e w' ⟨h1, h2⟩ => ⟨h1, hW.trans (h2.mono hW.size)⟩
          have HGW : Hid (∀ W, Below w1.heap.size w1 W → Calls Tryz.prog 18 #[vr, .string w1'] W fun e w' => e = .returned (.tuple #[((getE r w1').getD Ent.zero).val, .bool (getE r w1').isSome]) ∧ Below W.heap.size W w') := fun W hW => rget_any B vr r w1' W (HVR.out.below hW)
          have hsv : ((getE r w1').getD Ent.zero).v.size ≤ 16 := by
            cases e : getE r w1' with
            | none => exact Nat.zero_le _
            | some z => exact (faultE_zero (HF.out z (List.mem_of_find?_eq_some e))).2.2.2
          have HD5 : Hid (∀ W, Calls Tryz.prog 13 #[.int .i64 5] W fun e w' => e = .returned (.string (errB 5)) ∧ Below W.heap.size W w') := fun W => rfaultT_any 5 (by decide) W
          generalize (getE r w1').isSome = bz at *
          generalize (getE r w1').getD Ent.zero = z at *
          obtain ⟨zk, zv, zg⟩ := z
          simp only [Ent.val] at *
          have HKEEP : Hid (∀ W, Below w1.heap.size w1 W → W.cell? ⟨y, 0, none⟩ = some (.pointer (some ⟨m, 0, none⟩)) ∧ W.cell? ⟨m, 0, none⟩ = some vr ∧ W.cell? ⟨b, o + 1, none⟩ = some (.string w1') ∧ Below w1.heap.size w1 W) := fun W hW => ⟨(hW.cell (cell_lt q0)).trans q0, (hW.cell (cell_lt q1)).trans q1, (hW.cell (cell_lt c1)).trans c1, hW⟩
          have hS0 := HKEEP.out w1.drew (Below.refl _ _).drew
          have hi3 : (Tryz.prog.info? 56).map (·.size) = some (#[Value.string zk, .string zv, .bool zg] : Array Value).size := by kernel_rfl
          have s2 : ((⟨#[61]⟩ : ByteArray) ++ zv).size = 1 + zv.size := by rw [ByteArray.size_append]; rfl
          clear hcell hv1 hws HSUB hg q0 q1 c1 hy1 hm1 HC2
          go_wp2_with fail
          refine wp_region_held_drew (S := fun w' => w'.cell? ⟨y, 0, none⟩ = some (.pointer (some ⟨m, 0, none⟩)) ∧ w'.cell? ⟨m, 0, none⟩ = some vr ∧ w'.cell? ⟨b, o + 1, none⟩ = some (.string w1') ∧ Below w1.heap.size w1 w') (by kernel_rfl) hS0 (fun hHeld => ?_)
          refine wpAnyH_take (i := 0) (oi := ⟨some 70, _, _, _, _, _⟩) (v := .pointer (some ⟨y, 0, none⟩)) rfl (by kernel_rfl) (by kernel_rfl) (by kernel_rfl) (fun _ _ _ h => h) (Or.inl ⟨by rfl, ?_⟩) (by assumption) ?_
          · intro wS hSw
            obtain ⟨hS0, hS1, hS2, _⟩ := hSw
            go_simp
          simp only [Act.put, List.setIfInBounds_toArray, List.set_cons_zero, List.set_cons_succ]
          refine wpAnyH_take (i := 1) (oi := ⟨some 71, _, _, _, _, _⟩) (v := .pointer (some ⟨y, 0, none⟩)) rfl (by kernel_rfl) (by kernel_rfl) (by kernel_rfl) (fun _ _ _ h => h) (Or.inl ⟨by rfl, ?_⟩) (by assumption) ?_
          · intro wS hSw
            obtain ⟨hS0, hS1, hS2, _⟩ := hSw
            go_simp
          simp only [Act.put, List.setIfInBounds_toArray, List.set_cons_zero, List.set_cons_succ]
          refine wpAnyH_take (i := 2) (oi := ⟨some 72, _, _, _, _, _⟩) (v := .pointer (some ⟨y, 0, none⟩)) rfl (by kernel_rfl) (by kernel_rfl) (by kernel_rfl) (fun _ _ _ h => h) (Or.inl ⟨by rfl, ?_⟩) (by assumption) ?_
          · intro wS hSw
            obtain ⟨hS0, hS1, hS2, _⟩ := hSw
            go_simp
          simp only [Act.put, List.setIfInBounds_toArray, List.set_cons_zero, List.set_cons_succ]
          refine wpAnyH_take (i := 3) (oi := ⟨some 73, _, _, _, _, _⟩) (v := .pointer (some ⟨m, 0, none⟩)) rfl (by kernel_rfl) (by kernel_rfl) (by kernel_rfl) (fun _ _ _ h => h) (Or.inl ⟨by rfl, ?_⟩) (by assumption) ?_
          · intro wS hSw
            obtain ⟨hS0, hS1, hS2, _⟩ := hSw
            go_simp
          simp only [Act.put, List.setIfInBounds_toArray, List.set_cons_zero, List.set_cons_succ]
          refine wpAnyH_take (i := 4) (oi := ⟨some 74, _, _, _, _, _⟩) (v := .pointer (some ⟨m, 0, none⟩)) rfl (by kernel_rfl) (by kernel_rfl) (by kernel_rfl) (fun _ _ _ h => h) (Or.inl ⟨by rfl, ?_⟩) (by assumption) ?_
          · intro wS hSw
            obtain ⟨hS0, hS1, hS2, _⟩ := hSw
            go_simp
          simp only [Act.put, List.setIfInBounds_toArray, List.set_cons_zero, List.set_cons_succ]
          refine wpAnyH_take (i := 5) (oi := ⟨some 75, _, _, _, _, _⟩) (v := .pointer (some ⟨m, 0, none⟩)) rfl (by kernel_rfl) (by kernel_rfl) (by kernel_rfl) (fun _ _ _ h => h) (Or.inl ⟨by rfl, ?_⟩) (by assumption) ?_
          · intro wS hSw
            obtain ⟨hS0, hS1, hS2, _⟩ := hSw
            go_simp
          simp only [Act.put, List.setIfInBounds_toArray, List.set_cons_zero, List.set_cons_succ]
          refine wpAnyH_take (i := 6) (oi := ⟨some 76, _, _, _, _, _⟩) (v := vr) rfl (by kernel_rfl) (by kernel_rfl) (by kernel_rfl) (fun _ _ _ h => h) (Or.inl ⟨by rfl, ?_⟩) (by assumption) ?_
          · intro wS hSw
            obtain ⟨hS0, hS1, hS2, _⟩ := hSw
            go_simp
          simp only [Act.put, List.setIfInBounds_toArray, List.set_cons_zero, List.set_cons_succ]
          refine wpAnyH_take (i := 7) (oi := ⟨some 77, _, _, _, _, _⟩) (v := .slice (some ⟨b, o, none⟩) 2 cp) rfl (by kernel_rfl) (by kernel_rfl) (by kernel_rfl) (fun _ _ _ h => h) (Or.inl ⟨by rfl, ?_⟩) (by assumption) ?_
          · intro wS hSw
            obtain ⟨hS0, hS1, hS2, _⟩ := hSw
            go_simp
          simp only [Act.put, List.setIfInBounds_toArray, List.set_cons_zero, List.set_cons_succ]
          refine wpAnyH_take (i := 8) (oi := ⟨some 78, _, _, _, _, _⟩) (v := .pointer (some ⟨b, o + 1, none⟩)) rfl (by kernel_rfl) (by kernel_rfl) (by kernel_rfl) (fun _ _ _ h => h) (Or.inl ⟨by rfl, ?_⟩) (by assumption) ?_
          · intro wS hSw
            obtain ⟨hS0, hS1, hS2, _⟩ := hSw
            go_simp
          simp only [Act.put, List.setIfInBounds_toArray, List.set_cons_zero, List.set_cons_succ]
          refine wpAnyH_take (i := 9) (oi := ⟨some 79, _, _, _, _, _⟩) (v := .string w1') rfl (by kernel_rfl) (by kernel_rfl) (by kernel_rfl) (fun _ _ _ h => h) (Or.inl ⟨by rfl, ?_⟩) (by assumption) ?_
          · intro wS hSw
            obtain ⟨hS0, hS1, hS2, _⟩ := hSw
            go_simp
          simp only [Act.put, List.setIfInBounds_toArray, List.set_cons_zero, List.set_cons_succ]
          refine wpAnyH_ready (rs := [10, 14]) (by kernel_rfl) (by simp) ?_
          refine AllReadyH.cons (o := ⟨some 80, _, _, _, _, _⟩) rfl (fun K hK => ?_) (AllReadyH.cons (o := ⟨some 8, _, _, _, _, _⟩) rfl (fun K hK => ?_) AllReadyH.nil)
          · go_simp
            refine (HG.out _ hHeld.2.2.2).mono ?_
            rintro e w6 ⟨rfl, hb6⟩
            refine hK.out _ _ (HKEEP.out _ hb6) (fun hHeld => ?_)
            clear hK K
            try simp only [Act.put, List.setIfInBounds_toArray, List.set_cons_zero, List.set_cons_succ]
            refine wpAnyH_take (i := 11) (oi := ⟨some 69, _, _, _, _, _⟩) (v := .tuple #[.agg #[.string zk, .string zv, .bool zg], .bool bz]) rfl (by kernel_rfl) (by kernel_rfl) (by kernel_rfl) (fun _ _ _ h => h) (Or.inl ⟨by rfl, ?_⟩) (by assumption) ?_
            · intro wS hSw
              obtain ⟨hS0, hS1, hS2, _⟩ := hSw
              go_simp
            simp only [Act.put, List.setIfInBounds_toArray, List.set_cons_zero, List.set_cons_succ]
            refine wpAnyH_take (i := 12) (oi := ⟨some 81, _, _, _, _, _⟩) (v := .agg #[.string zk, .string zv, .bool zg]) rfl (by kernel_rfl) (by kernel_rfl) (by kernel_rfl) (fun _ _ _ h => h) (Or.inl ⟨by rfl, ?_⟩) (by assumption) ?_
            · intro wS hSw
              obtain ⟨hS0, hS1, hS2, _⟩ := hSw
              go_simp
            simp only [Act.put, List.setIfInBounds_toArray, List.set_cons_zero, List.set_cons_succ]
            refine wpAnyH_take (i := 13) (oi := ⟨some 82, _, _, _, _, _⟩) (v := .bool bz) rfl (by kernel_rfl) (by kernel_rfl) (by kernel_rfl) (fun _ _ _ h => h) (Or.inl ⟨by rfl, ?_⟩) (by assumption) ?_
            · intro wS hSw
              obtain ⟨hS0, hS1, hS2, _⟩ := hSw
              go_simp
            simp only [Act.put, List.setIfInBounds_toArray, List.set_cons_zero, List.set_cons_succ]
            refine wpAnyH_ready (rs := [14]) (by kernel_rfl) (by simp) ?_
            refine AllReadyH.cons (o := ⟨some 8, _, _, _, _, _⟩) rfl (fun K hK => ?_) AllReadyH.nil
            go_simp
            refine hK.out _ _ (HKEEP.out _ (hb6.alloc hb6.size _)) (fun hHeld => ?_)
            clear hK K
            try simp only [Act.put, List.setIfInBounds_toArray, List.set_cons_zero, List.set_cons_succ]
            have hz6 : Blk (w6.alloc (.cells #[.string ⟨#[]⟩, .string ⟨#[]⟩, .bool false] 56)) w6.heap.size 56 #[.string ⟨#[]⟩, .string ⟨#[]⟩, .bool false] := Blk.new _ _ _
            have hb66 := hb6.alloc hb6.size (.cells #[.string ⟨#[]⟩, .string ⟨#[]⟩, .bool false] 56)
            refine wpAnyH_ready (rs := [15]) (by kernel_rfl) (by simp) ?_
            refine AllReadyH.cons (o := ⟨none, _, _, _, _, _⟩) rfl (fun K hK => ?_) AllReadyH.nil
            rw [if_pos (by rfl)]
            refine wp_store_row 56 (.tmp 8) (.tmp 81) rfl w6.heap.size #[Value.string zk, .string zv, .bool zg] rfl rfl 56 _ hz6 hi3 rfl (by simp [Value.oneCell']) ?_
            have HGZ : Hid (Blk ((w6.alloc (.cells #[.string ⟨#[]⟩, .string ⟨#[]⟩, .bool false] 56)).setRow w6.heap.size #[Value.string zk, .string zv, .bool zg]) w6.heap.size 56 #[Value.string zk, .string zv, .bool zg]) := blk_rowed hz6 _
            have HBW : Hid (Below w1.heap.size w1 ((w6.alloc (.cells #[.string ⟨#[]⟩, .string ⟨#[]⟩, .bool false] 56)).setRow w6.heap.size #[Value.string zk, .string zv, .bool zg])) := below_rowed hb66 hb6.size _
            refine hK.out _ _ (HKEEP.out _ HBW.out) (fun hHeld => ?_)
            clear hK K
            try simp only [Act.put, List.setIfInBounds_toArray, List.set_cons_zero, List.set_cons_succ]
            refine wpAnyH_take (i := 16) (oi := ⟨some 9, _, _, _, _, _⟩) (v := .bool bz) rfl (by kernel_rfl) (by kernel_rfl) (by kernel_rfl) (fun _ _ _ h => h) (Or.inl ⟨by rfl, ?_⟩) (by assumption) ?_
            · intro wS hSw
              obtain ⟨hS0, hS1, hS2, _⟩ := hSw
              go_simp
            simp only [Act.put, List.setIfInBounds_toArray, List.set_cons_zero, List.set_cons_succ]
            refine wpAnyH_done (by kernel_rfl) ?_ _
            generalize ((w6.alloc (.cells #[.string ⟨#[]⟩, .string ⟨#[]⟩, .bool false] 56)).setRow w6.heap.size #[Value.string zk, .string zv, .bool zg]) = W at *
            generalize w6.heap.size = g at *
            clear hHeld hb6 hb66 hz6 hS0
            have e1 := HGZ.out.cell 1
            simp at e1
            cases bz
            · go_wp2_with fail
              refine (HD5.out _).mono ?_
              rintro e wz ⟨rfl, hbz⟩
              have HFIN2 := Lib.hid (HFIN.out wz (HBW.out.trans (hbz.mono HBW.out.size)))
              clear hbz
              go_wp2_with fail
              go_ret
              rw [HC.out]
              exact ⟨rfl, HFIN2.out⟩
            · have HFIN2 := Lib.hid (HFIN.out _ HBW.out)
              go_wp2_with fail
              go_ret
              rw [HC.out]
              exact ⟨rfl, HFIN2.out⟩
          · go_simp
            have hb0 : Below w1.heap.size w1 (w1.alloc (.cells #[.string ⟨#[]⟩, .string ⟨#[]⟩, .bool false] 56)).drew := ((Below.refl _ _).alloc (Nat.le_refl _) _).drew
            refine hK.out _ _ (HKEEP.out _ hb0) (fun hHeld => ?_)
            clear hK K
            try simp only [Act.put, List.setIfInBounds_toArray, List.set_cons_zero, List.set_cons_succ]
            have hz0' : Blk (w1.alloc (.cells #[.string ⟨#[]⟩, .string ⟨#[]⟩, .bool false] 56)).drew w1.heap.size 56 #[.string ⟨#[]⟩, .string ⟨#[]⟩, .bool false] := Blk.new w1 _ _
            generalize (w1.alloc (.cells #[.string ⟨#[]⟩, .string ⟨#[]⟩, .bool false] 56)).drew = W0 at *
            have HG0 : Hid (∀ W, Below W0.heap.size W0 W → Below w1.heap.size w1 W) := fun W h => hb0.trans (h.mono hb0.size)
            have HGC : Hid (Calls Tryz.prog 18 #[vr, .string w1'] W0 fun e w' => e = .returned (.tuple #[.agg #[.string zk, .string zv, .bool zg], .bool bz]) ∧ Below W0.heap.size W0 w') := HGW.out W0 hb0
            refine wpAnyH_ready (rs := [10]) (by kernel_rfl) (by simp) ?_
            refine AllReadyH.cons (o := ⟨some 80, _, _, _, _, _⟩) rfl (fun K hK => ?_) AllReadyH.nil
            go_simp
            refine HGC.out.mono ?_
            rintro e w6 ⟨rfl, hb6'⟩
            have hb6 := HG0.out _ hb6'
            have hz6 := hz0'.below hb6' hz0'.lt
            refine hK.out _ _ (HKEEP.out _ hb6) (fun hHeld => ?_)
            clear hK K
            try simp only [Act.put, List.setIfInBounds_toArray, List.set_cons_zero, List.set_cons_succ]
            refine wpAnyH_take (i := 11) (oi := ⟨some 69, _, _, _, _, _⟩) (v := .tuple #[.agg #[.string zk, .string zv, .bool zg], .bool bz]) rfl (by kernel_rfl) (by kernel_rfl) (by kernel_rfl) (fun _ _ _ h => h) (Or.inl ⟨by rfl, ?_⟩) (by assumption) ?_
            · intro wS hSw
              obtain ⟨hS0, hS1, hS2, _⟩ := hSw
              go_simp
            simp only [Act.put, List.setIfInBounds_toArray, List.set_cons_zero, List.set_cons_succ]
            refine wpAnyH_take (i := 12) (oi := ⟨some 81, _, _, _, _, _⟩) (v := .agg #[.string zk, .string zv, .bool zg]) rfl (by kernel_rfl) (by kernel_rfl) (by kernel_rfl) (fun _ _ _ h => h) (Or.inl ⟨by rfl, ?_⟩) (by assumption) ?_
            · intro wS hSw
              obtain ⟨hS0, hS1, hS2, _⟩ := hSw
              go_simp
            simp only [Act.put, List.setIfInBounds_toArray, List.set_cons_zero, List.set_cons_succ]
            refine wpAnyH_take (i := 13) (oi := ⟨some 82, _, _, _, _, _⟩) (v := .bool bz) rfl (by kernel_rfl) (by kernel_rfl) (by kernel_rfl) (fun _ _ _ h => h) (Or.inl ⟨by rfl, ?_⟩) (by assumption) ?_
            · intro wS hSw
              obtain ⟨hS0, hS1, hS2, _⟩ := hSw
              go_simp
            simp only [Act.put, List.setIfInBounds_toArray, List.set_cons_zero, List.set_cons_succ]
            refine wpAnyH_ready (rs := [15]) (by kernel_rfl) (by simp) ?_
            refine AllReadyH.cons (o := ⟨none, _, _, _, _, _⟩) rfl (fun K hK => ?_) AllReadyH.nil
            rw [if_pos (by rfl)]
            refine wp_store_row 56 (.tmp 8) (.tmp 81) rfl w1.heap.size #[Value.string zk, .string zv, .bool zg] rfl rfl 56 _ hz6 hi3 rfl (by simp [Value.oneCell']) ?_
            have HGZ : Hid (Blk (w6.setRow w1.heap.size #[Value.string zk, .string zv, .bool zg]) w1.heap.size 56 #[Value.string zk, .string zv, .bool zg]) := blk_rowed hz6 _
            have HBW : Hid (Below w1.heap.size w1 (w6.setRow w1.heap.size #[Value.string zk, .string zv, .bool zg])) := below_rowed hb6 (Nat.le_refl _) _
            refine hK.out _ _ (HKEEP.out _ HBW.out) (fun hHeld => ?_)
            clear hK K
            try simp only [Act.put, List.setIfInBounds_toArray, List.set_cons_zero, List.set_cons_succ]
            refine wpAnyH_take (i := 16) (oi := ⟨some 9, _, _, _, _, _⟩) (v := .bool bz) rfl (by kernel_rfl) (by kernel_rfl) (by kernel_rfl) (fun _ _ _ h => h) (Or.inl ⟨by rfl, ?_⟩) (by assumption) ?_
            · intro wS hSw
              obtain ⟨hS0, hS1, hS2, _⟩ := hSw
              go_simp
            simp only [Act.put, List.setIfInBounds_toArray, List.set_cons_zero, List.set_cons_succ]
            refine wpAnyH_done (by kernel_rfl) ?_ _
            generalize w6.setRow w1.heap.size #[Value.string zk, .string zv, .bool zg] = W at *
            generalize hgg : w1.heap.size = g at HGZ ⊢
            clear hHeld hb6 hb6' hz6 hz0' hb0 hS0 HG0 HGC
            have e1 := HGZ.out.cell 1
            simp at e1
            cases bz
            · go_wp2_with fail
              refine (HD5.out _).mono ?_
              rintro e wz ⟨rfl, hbz⟩
              have HFIN2 := Lib.hid (HFIN.out wz (HBW.out.trans (hbz.mono HBW.out.size)))
              clear hbz
              go_wp2_with fail
              go_ret
              rw [HC.out]
              exact ⟨rfl, HFIN2.out⟩
            · have HFIN2 := Lib.hid (HFIN.out _ HBW.out)
              go_wp2_with fail
              go_ret
              rw [HC.out]
              exact ⟨rfl, HFIN2.out⟩
        · have t4 : (w0.toList == [103, 101, 116]) = false := beq_eq_false_iff_ne.2 hg
          have HC3 : Hid (cmdOf line = cmdN w0 w1') := by
            rw [Hid, HC2.out]
            exact cmd2_num hg
          by_cases hrs : w0.toList = kRestart
          · have b5 : (w0.toList == [114, 101, 115, 116, 97, 114, 116]) = true := beq_iff_eq.2 hrs
            have HNA := Lib.hid (natural_any w1' w1 (by omega))
            have hnl := natR_law w1'
            cases hnm : natM w1' with
            | none =>
              have HC : Hid (refM r (cmdOf line) = (r, errB 4)) := by rw [Hid, HC3.out, cmdN_no hnm]; rfl
              rw [hnm] at hnl
              simp only at hnl
              have t6 : decide ((0 : Int) ≤ natR w1') = false := by rw [hnl]; decide
              clear hcell hv1 hws HSUB hg HC2 HC3 hrs hnm hnl
              generalize natR w1' = nz at *
              go_wp2_with fail
              refine HNA.out.mono ?_
              rintro e w2 ⟨rfl, rfl⟩
              go_wp2_with fail
              refine (HD4.out _).mono ?_
              rintro e wz ⟨rfl, hbz⟩
              have HFIN2 := Lib.hid (HFIN.out wz hbz)
              clear hbz
              go_wp2_with fail
              go_ret
              rw [HC.out]
              exact ⟨rfl, HFIN2.out⟩
            | some n =>
              have HC : Hid (refM r (cmdOf line) = (r, txOk)) := by rw [Hid, HC3.out, cmdN_yes hrs hnm]; rfl
              rw [hnm] at hnl
              simp only at hnl
              have t6 : decide ((0 : Int) ≤ natR w1') = true := by rw [hnl]; exact decide_eq_true (by omega)
              clear hcell hv1 hws HSUB hg HC2 HC3 hrs hnm hnl
              generalize natR w1' = nz at *
              go_wp2_with fail
              refine HNA.out.mono ?_
              rintro e w2 ⟨rfl, rfl⟩
              go_wp2_with fail
              go_ret
              rw [HC.out]
              exact ⟨rfl, HFIN.out _ (Below.refl _ _)⟩
          · have b5 : (w0.toList == [114, 101, 115, 116, 97, 114, 116]) = false := beq_eq_false_iff_ne.2 hrs
            have HC : Hid (refM r (cmdOf line) = (r, errB 4)) := by rw [Hid, HC3.out, cmdN_far hrs]; rfl
            clear hcell hv1 hws HSUB hg HC2 HC3 hrs
            go_wp2_with fail
            refine (HD4.out _).mono ?_
            rintro e wz ⟨rfl, hbz⟩
            have HFIN2 := Lib.hid (HFIN.out wz hbz)
            clear hbz
            go_wp2_with fail
            go_ret
            rw [HC.out]
            exact ⟨rfl, HFIN2.out⟩
      | cons w2' r'' =>
        have c2 := hcell 2 w2' rfl
        have hz2 := HSUB.out w2' (by simp)
        cases r'' with
        | nil =>
          simp only [List.length_cons, List.length_nil, Nat.zero_add, Nat.reduceAdd] at *
          have HNA := Lib.hid (natural_any w2' w1 (by omega))
          have hnl := natR_law w2'
          by_cases hp : w0.toList = kPage
          · have t4 : (w0.toList == [112, 97, 103, 101]) = true := beq_iff_eq.2 hp
            have HC3 : Hid (cmdOf line = match natM w2' with | some n => .page w1' n | none => .bad) := by
              rw [Hid, HC2.out, cmd2, if_pos hp]
              cases natM w2' <;> rfl
            cases hnm : natM w2' with
            | none =>
              have HC : Hid (refM r (cmdOf line) = (r, errB 4)) := by rw [Hid, HC3.out, hnm]; rfl
              rw [hnm] at hnl
              simp only at hnl
              have t6 : decide ((0 : Int) ≤ natR w2') = false := by rw [hnl]; decide
              clear hcell hv1 hws HSUB hp HC2 HC3 hnm hnl
              generalize natR w2' = nz at *
              go_wp2_with fail
              refine HNA.out.mono ?_
              rintro e w2 ⟨rfl, rfl⟩
              go_wp2_with fail
              refine (HD4.out _).mono ?_
              rintro e wz ⟨rfl, hbz⟩
              have HFIN2 := Lib.hid (HFIN.out wz hbz)
              clear hbz
              go_wp2_with fail
              go_ret
              rw [HC.out]
              exact ⟨rfl, HFIN2.out⟩
            | some n =>
              have HC : Hid (refM r (cmdOf line) = (r, toldB (pageM r w1' n))) := by rw [Hid, HC3.out, hnm]; rfl
              rw [hnm] at hnl
              simp only at hnl
              have t6 : decide ((0 : Int) ≤ (n : Int)) = true := decide_eq_true (by omega)
              have HPA : Hid (∀ W, Below w1.heap.size w1 W → Calls Tryz.prog 20 #[vr, .string w1', .int .i64 (n : Int)] W fun e w' => ∃ u, e = .returned u ∧ Ents B w' u (pageM r w1' n) ∧ Below w1.heap.size w1 w') := fun W hW => (rpaged_any B vr r w1' (n : Int) W (HVR.out.below hW) (by omega)).mono fun e w' ⟨u, h1, h2, h3⟩ => ⟨u, h1, h2, hW.trans (h3.mono hW.size)⟩
              have HTP : Hid (∀ u W, Ents B W u (pageM r w1' n) → Below w1.heap.size w1 W → Calls Tryz.prog 17 #[u] W fun e w' => e = .returned (.string (toldB (pageM r w1' n))) ∧ Below w1.heap.size w1 w') := fun u W hu hW => (told_any B u _ W hu (fun e he => HF.out e (page_sub e he)) (Nat.le_trans (page_len _ _ _) hn)).mono fun e w' ⟨h1, h2⟩ => ⟨h1, hW.trans (h2.mono hW.size)⟩
              have HKEEP : Hid (∀ W, Below w1.heap.size w1 W → W.cell? ⟨y, 0, none⟩ = some (.pointer (some ⟨m, 0, none⟩)) ∧ W.cell? ⟨m, 0, none⟩ = some vr ∧ W.cell? ⟨b, o + 1, none⟩ = some (.string w1') ∧ Below w1.heap.size w1 W) := fun W hW => ⟨(hW.cell (cell_lt q0)).trans q0, (hW.cell (cell_lt q1)).trans q1, (hW.cell (cell_lt c1)).trans c1, hW⟩
              have hS0 := HKEEP.out w1.drew (Below.refl _ _).drew
              rw [hnl] at HNA
              generalize toldB (pageM r w1' n) = TT at *
              clear hcell hv1 hws HSUB hp HC2 HC3 hnm hnl q0 q1 c1 hy1 hm1
              go_wp2_with fail
              refine HNA.out.mono ?_
              rintro e w2 ⟨rfl, rfl⟩
              clear HNA
              go_wp2_with fail
              refine wp_region_held_drew (S := fun w' => w'.cell? ⟨y, 0, none⟩ = some (.pointer (some ⟨m, 0, none⟩)) ∧ w'.cell? ⟨m, 0, none⟩ = some vr ∧ w'.cell? ⟨b, o + 1, none⟩ = some (.string w1') ∧ Below w1.heap.size w1 w') (by kernel_rfl) hS0 (fun hHeld => ?_)
              refine wpAnyH_take (i := 0) (oi := ⟨some 114, _, _, _, _, _⟩) (v := .pointer (some ⟨y, 0, none⟩)) rfl (by kernel_rfl) (by kernel_rfl) (by kernel_rfl) (fun _ _ _ h => h) (Or.inl ⟨by rfl, ?_⟩) (by assumption) ?_
              · intro wS hSw
                obtain ⟨hS0, hS1, hS2, _⟩ := hSw
                go_simp
              simp only [Act.put, List.setIfInBounds_toArray, List.set_cons_zero, List.set_cons_succ]
              refine wpAnyH_take (i := 1) (oi := ⟨some 115, _, _, _, _, _⟩) (v := .pointer (some ⟨y, 0, none⟩)) rfl (by kernel_rfl) (by kernel_rfl) (by kernel_rfl) (fun _ _ _ h => h) (Or.inl ⟨by rfl, ?_⟩) (by assumption) ?_
              · intro wS hSw
                obtain ⟨hS0, hS1, hS2, _⟩ := hSw
                go_simp
              simp only [Act.put, List.setIfInBounds_toArray, List.set_cons_zero, List.set_cons_succ]
              refine wpAnyH_take (i := 2) (oi := ⟨some 116, _, _, _, _, _⟩) (v := .pointer (some ⟨y, 0, none⟩)) rfl (by kernel_rfl) (by kernel_rfl) (by kernel_rfl) (fun _ _ _ h => h) (Or.inl ⟨by rfl, ?_⟩) (by assumption) ?_
              · intro wS hSw
                obtain ⟨hS0, hS1, hS2, _⟩ := hSw
                go_simp
              simp only [Act.put, List.setIfInBounds_toArray, List.set_cons_zero, List.set_cons_succ]
              refine wpAnyH_take (i := 3) (oi := ⟨some 117, _, _, _, _, _⟩) (v := .pointer (some ⟨m, 0, none⟩)) rfl (by kernel_rfl) (by kernel_rfl) (by kernel_rfl) (fun _ _ _ h => h) (Or.inl ⟨by rfl, ?_⟩) (by assumption) ?_
              · intro wS hSw
                obtain ⟨hS0, hS1, hS2, _⟩ := hSw
                go_simp
              simp only [Act.put, List.setIfInBounds_toArray, List.set_cons_zero, List.set_cons_succ]
              refine wpAnyH_take (i := 4) (oi := ⟨some 118, _, _, _, _, _⟩) (v := .pointer (some ⟨m, 0, none⟩)) rfl (by kernel_rfl) (by kernel_rfl) (by kernel_rfl) (fun _ _ _ h => h) (Or.inl ⟨by rfl, ?_⟩) (by assumption) ?_
              · intro wS hSw
                obtain ⟨hS0, hS1, hS2, _⟩ := hSw
                go_simp
              simp only [Act.put, List.setIfInBounds_toArray, List.set_cons_zero, List.set_cons_succ]
              refine wpAnyH_take (i := 5) (oi := ⟨some 119, _, _, _, _, _⟩) (v := .pointer (some ⟨m, 0, none⟩)) rfl (by kernel_rfl) (by kernel_rfl) (by kernel_rfl) (fun _ _ _ h => h) (Or.inl ⟨by rfl, ?_⟩) (by assumption) ?_
              · intro wS hSw
                obtain ⟨hS0, hS1, hS2, _⟩ := hSw
                go_simp
              simp only [Act.put, List.setIfInBounds_toArray, List.set_cons_zero, List.set_cons_succ]
              refine wpAnyH_take (i := 6) (oi := ⟨some 120, _, _, _, _, _⟩) (v := vr) rfl (by kernel_rfl) (by kernel_rfl) (by kernel_rfl) (fun _ _ _ h => h) (Or.inl ⟨by rfl, ?_⟩) (by assumption) ?_
              · intro wS hSw
                obtain ⟨hS0, hS1, hS2, _⟩ := hSw
                go_simp
              simp only [Act.put, List.setIfInBounds_toArray, List.set_cons_zero, List.set_cons_succ]
              refine wpAnyH_take (i := 7) (oi := ⟨some 121, _, _, _, _, _⟩) (v := .slice (some ⟨b, o, none⟩) 3 cp) rfl (by kernel_rfl) (by kernel_rfl) (by kernel_rfl) (fun _ _ _ h => h) (Or.inl ⟨by rfl, ?_⟩) (by assumption) ?_
              · intro wS hSw
                obtain ⟨hS0, hS1, hS2, _⟩ := hSw
                go_simp
              simp only [Act.put, List.setIfInBounds_toArray, List.set_cons_zero, List.set_cons_succ]
              refine wpAnyH_take (i := 8) (oi := ⟨some 122, _, _, _, _, _⟩) (v := .pointer (some ⟨b, o + 1, none⟩)) rfl (by kernel_rfl) (by kernel_rfl) (by kernel_rfl) (fun _ _ _ h => h) (Or.inl ⟨by rfl, ?_⟩) (by assumption) ?_
              · intro wS hSw
                obtain ⟨hS0, hS1, hS2, _⟩ := hSw
                go_simp
              simp only [Act.put, List.setIfInBounds_toArray, List.set_cons_zero, List.set_cons_succ]
              refine wpAnyH_take (i := 9) (oi := ⟨some 123, _, _, _, _, _⟩) (v := .string w1') rfl (by kernel_rfl) (by kernel_rfl) (by kernel_rfl) (fun _ _ _ h => h) (Or.inl ⟨by rfl, ?_⟩) (by assumption) ?_
              · intro wS hSw
                obtain ⟨hS0, hS1, hS2, _⟩ := hSw
                go_simp
              simp only [Act.put, List.setIfInBounds_toArray, List.set_cons_zero, List.set_cons_succ]
              refine wpAnyH_take (i := 10) (oi := ⟨some 124, _, _, _, _, _⟩) (v := .int .i64 (n : Int)) rfl (by kernel_rfl) (by kernel_rfl) (by kernel_rfl) (fun _ _ _ h => h) (Or.inl ⟨by rfl, ?_⟩) (by assumption) ?_
              · intro wS hSw
                obtain ⟨hS0, hS1, hS2, _⟩ := hSw
                go_simp
              simp only [Act.put, List.setIfInBounds_toArray, List.set_cons_zero, List.set_cons_succ]
              refine wpAnyH_ready (rs := [11]) (by kernel_rfl) (by simp) ?_
              refine AllReadyH.cons (o := ⟨some 125, _, _, _, _, _⟩) rfl (fun K hK => ?_) AllReadyH.nil
              go_simp
              refine (HPA.out _ hHeld.2.2.2).mono ?_
              rintro e w6 ⟨u6, rfl, hu6, hb6⟩
              refine hK.out _ _ (HKEEP.out _ hb6) (fun hHeld => ?_)
              clear hK K
              try simp only [Act.put, List.setIfInBounds_toArray, List.set_cons_zero, List.set_cons_succ]
              refine wpAnyH_ready (rs := [12]) (by kernel_rfl) (by simp) ?_
              refine AllReadyH.cons (o := ⟨some 126, _, _, _, _, _⟩) rfl (fun K hK => ?_) AllReadyH.nil
              go_simp
              refine (HTP.out u6 w6 hu6 hb6).mono ?_
              rintro e w7 ⟨rfl, hb7⟩
              refine hK.out _ _ (HKEEP.out _ hb7) (fun hHeld => ?_)
              clear hK K hu6 hb6
              try simp only [Act.put, List.setIfInBounds_toArray, List.set_cons_zero, List.set_cons_succ]
              refine wpAnyH_take (i := 13) (oi := ⟨some 4, _, _, _, _, _⟩) (v := .string TT) rfl (by kernel_rfl) (by kernel_rfl) (by kernel_rfl) (fun _ _ _ h => h) (Or.inl ⟨by rfl, ?_⟩) (by assumption) ?_
              · intro wS hSw
                obtain ⟨hS0, hS1, hS2, _⟩ := hSw
                go_simp
              simp only [Act.put, List.setIfInBounds_toArray, List.set_cons_zero, List.set_cons_succ]
              refine wpAnyH_done (by kernel_rfl) ?_ _
              have HFIN2 := Lib.hid (HFIN.out w7 hb7)
              clear hb7 hHeld
              go_wp2_with fail
              go_ret
              rw [HC.out]
              exact ⟨rfl, HFIN2.out⟩
          · have t4 : (w0.toList == [112, 97, 103, 101]) = false := beq_eq_false_iff_ne.2 hp
            have HC : Hid (refM r (cmdOf line) = (r, errB 4)) := by rw [Hid, HC2.out, cmd2, if_neg hp]; rfl
            clear hcell hv1 hws HSUB hp HC2 hnl
            generalize natR w2' = nz at *
            go_wp2_with fail
            refine HNA.out.mono ?_
            rintro e w2 ⟨rfl, rfl⟩
            go_wp2_with fail
            refine (HD4.out _).mono ?_
            rintro e wz ⟨rfl, hbz⟩
            have HFIN2 := Lib.hid (HFIN.out wz hbz)
            clear hbz
            go_wp2_with fail
            go_ret
            rw [HC.out]
            exact ⟨rfl, HFIN2.out⟩
        | cons z0 z1 =>
          have HC : Hid (refM r (cmdOf line) = (r, errB 4)) := by rw [Hid, HC2.out]; rfl
          have hN : 3 < (w0 :: w1' :: w2' :: z0 :: z1).length := by simp
          generalize (w0 :: w1' :: w2' :: z0 :: z1).length = N at *
          have g0 : 0 < N := by omega
          have n1 : ((N : Int) == 1) = false := beq_eq_false_iff_ne.2 (by omega)
          have n2 : ((N : Int) == 2) = false := beq_eq_false_iff_ne.2 (by omega)
          have n3 : ((N : Int) == 3) = false := beq_eq_false_iff_ne.2 (by omega)
          clear hcell hv1 hws HSUB HC2
          go_wp2_with fail
          refine (HD4.out _).mono ?_
          rintro e wz ⟨rfl, hbz⟩
          have HFIN2 := Lib.hid (HFIN.out wz hbz)
          clear hbz
          go_wp2_with fail
          go_ret
          rw [HC.out]
          exact ⟨rfl, HFIN2.out⟩
end Go.Proofs.YtaepdbkfaoiimabGreatDoor
