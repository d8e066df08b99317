/- The contracts of package entry and of its reference: Check, Bytes, Parse. Conditions: none but the sizes of any memory. -/
import Derived.Test.YtaepdbkfaoiimaaSame
import Derived.Laws.BytesArg
import Derived.RegionTactic
import Derived.BigRegion
set_option linter.unusedVariables false
set_option linter.unusedSimpArgs false
set_option linter.unnecessarySimpa false
namespace Go.Proofs.Ytaepdbkfaoiimaa
open Go.RowKit

/-- What is wrong with an entry: its number; 0: nothing. -/
def faultE (e : Ent) : Nat := if e.k.toList = [] ∨ (e.g = true ∧ e.v.toList ≠ []) then 3 else if 8 < e.k.size ∨ 16 < e.v.size then 2 else 0
/-- An error by its number. -/
def errV (n : Nat) : Value := if n = 0 then .nilIface else .iface 137 (.int .i64 n)
theorem fault3 {k v : ByteArray} {g : Bool} (h : k.toList = [] ∨ (g = true ∧ v.toList ≠ [])) : faultE ⟨k, v, g⟩ = 3 := if_pos h
theorem fault2 {k v : ByteArray} {g : Bool} (h : ¬(k.toList = [] ∨ (g = true ∧ v.toList ≠ []))) (h2 : 8 < k.size ∨ 16 < v.size) : faultE ⟨k, v, g⟩ = 2 := by
  unfold faultE; rw [if_neg h, if_pos h2]
theorem fault0 {k v : ByteArray} {g : Bool} (h : ¬(k.toList = [] ∨ (g = true ∧ v.toList ≠ []))) (h2 : ¬(8 < k.size ∨ 16 < v.size)) : faultE ⟨k, v, g⟩ = 0 := by
  unfold faultE; rw [if_neg h, if_neg h2]
theorem faultE_le (e : Ent) : faultE e ≤ 3 := by unfold faultE; split <;> (try split) <;> omega

set_option maxHeartbeats 1000000 in
theorem check_any (e : Ent) (w : World) :
    Calls Try.prog 35 #[.agg #[.string e.k, .string e.v, .bool e.g]] w fun d w' => d = .returned (errV (faultE e)) ∧ Below w.heap.size w w' := by
  obtain ⟨k, v, g⟩ := e
  go_enter Try.func35, Try.ntmps35
  go_wp2_with fail
  all_goals
    go_ret
    refine ⟨?_, (Below.refl _ _).alloc (Nat.le_refl _) _⟩
    first
      | (rw [fault3 (by simp_all)]; rfl)
      | (rw [fault2 (by simp_all) (by omega)]; rfl)
      | (rw [fault0 (by simp_all) (by omega)]; rfl)

set_option maxHeartbeats 1000000 in
theorem rfault_any (e : Ent) (w : World) :
    Calls Try.prog 36 #[.agg #[.string e.k, .string e.v, .bool e.g]] w fun d w' => d = .returned (.int .i64 (faultE e)) ∧ Below w.heap.size w w' := by
  obtain ⟨k, v, g⟩ := e
  go_enter Try.func36, Try.ntmps36
  go_wp2_with fail
  all_goals
    go_ret
    refine ⟨?_, (Below.refl _ _).alloc (Nat.le_refl _) _⟩
    first
      | (rw [fault3 (by simp_all)]; rfl)
      | (rw [fault2 (by simp_all) (by omega)]; rfl)
      | (rw [fault0 (by simp_all) (by omega)]; rfl)
theorem assert_err (v : Value) (w : World) : (Instr.typeAssert (.iface 137 v) 55 137 true).run Try.prog w = .ok (.tuple #[v, .bool true]) w := by kernel_rfl
attribute [local go_sem] assert_err
set_option maxHeartbeats 1000000 in
theorem same_err (n m : Nat) (w : World) :
    Calls Try.prog 34 #[errV n, .int .i64 m] w fun d w' => d = .returned (.bool (decide (n = m))) ∧ w = w' := by
  unfold errV
  split
  · rename_i h
    subst h
    go_enter Try.func34, Try.ntmps34
    go_wp2_with fail
    go_ret
    exact ⟨ret_bool (by rw [Bool.eq_iff_iff]; simp; omega), rfl⟩
  · rename_i h
    go_enter Try.func34, Try.ntmps34
    set_option maxRecDepth 20000 in
    go_wp2_with fail
    all_goals
      go_ret
      exact ⟨ret_bool (by rw [Bool.eq_iff_iff]; simp; omega), rfl⟩

/-! ### Bytes -/
def gB (g : Bool) : Int := if g then 1 else 0
def entB (e : Ent) : ByteArray := (strOfNums [gB e.g, (e.k.size : Int), (e.v.size : Int)] ++ e.k) ++ e.v
def bytesL (n : Nat) (l : List Ent) : ByteArray := l.foldl (fun s e => s ++ entB e) (strOfNums [(n : Int)])
def ff : List Ent → Nat
  | [] => 0
  | e :: l => if faultE e = 0 then ff l else faultE e
def bytesF (l : List Ent) : Nat := if ff l = 0 then (if 64 < (bytesL l.length l).size then 2 else 0) else ff l
def bytesS (l : List Ent) : ByteArray := if bytesF l = 0 then bytesL l.length l else ByteArray.empty
theorem bytesL_snoc (n : Nat) (l : List Ent) (e : Ent) : bytesL n (l ++ [e]) = bytesL n l ++ entB e := by unfold bytesL; rw [List.foldl_append]; rfl
theorem faultE_zero {e : Ent} (h : faultE e = 0) : e.k.toList ≠ [] ∧ (e.g = true → e.v.toList = []) ∧ e.k.size ≤ 8 ∧ e.v.size ≤ 16 := by
  unfold faultE at h
  split at h
  · omega
  · split at h
    · omega
    · rename_i h1 h2
      refine ⟨fun h => h1 (.inl h), fun hg => ?_, by omega, by omega⟩
      cases hv : e.v.toList with
      | nil => rfl
      | cons a b => exact absurd (.inr ⟨hg, by rw [hv]; simp⟩) h1
theorem entB_size (e : Ent) : (entB e).size = 3 + e.k.size + e.v.size := by
  unfold entB; rw [ByteArray.size_append, ByteArray.size_append, strOfNums_size]; rfl
theorem ff_zero : ∀ {l : List Ent}, ff l = 0 ↔ ∀ e ∈ l, faultE e = 0
  | [] => by simp [ff]
  | e :: l => by
    rw [ff]
    split
    · rename_i h; rw [ff_zero]; simp [h]
    · rename_i h; simp [h]
theorem ff_at {l : List Ent} {k : Nat} {e : Ent} (h1 : ∀ x ∈ l.take k, faultE x = 0) (h2 : l[k]? = some e) (h3 : faultE e ≠ 0) : ff l = faultE e := by
  induction l generalizing k with
  | nil => simp at h2
  | cons x l ih =>
    rw [ff]
    cases k with
    | zero => simp at h2; subst h2; rw [if_neg h3]
    | succ k =>
      rw [if_pos (h1 x (by simp))]
      exact ih (k := k) (fun y hy => h1 y (by simp [hy])) (by simpa using h2)
theorem bytesL_size (n : Nat) (l : List Ent) (h : ∀ e ∈ l, faultE e = 0) : (bytesL n l).size ≤ 1 + 27 * l.length := by
  induction l using snoc_ind with
  | h0 => simp [bytesL, strOfNums_size]
  | h1 l x ih =>
    rw [bytesL_snoc, ByteArray.size_append, entB_size]
    have h1 := ih fun e he => h e (by simp [he])
    have h2 := faultE_zero (h x (by simp))
    simp
    omega

theorem conv1 (w : World) (g : Nat) (x : Int) (hg : g = w.heap.size) : (convert 139 9 (.slice (some ⟨g, 0, none⟩) 1 1)).run Try.prog (w.alloc (.cells #[.int .u8 x] 5)) = .ok (.string (strOfNums [x])) (w.alloc (.cells #[.int .u8 x] 5)) := by
  subst hg
  refine run_convert_bytes_arg _ _ _ Try.underlying139 Try.underlying5 _ _ _ _ [x] rfl (fun i hi => ?_) _ Try.underlying9
  obtain rfl : i = 0 := by simp at hi; omega
  have := (Blk.new w 5 #[.int .u8 x]).cell 0
  simp
theorem conv3 (w : World) (g : Nat) (x y z : Int) (hg : g = w.heap.size) : (convert 139 9 (.slice (some ⟨g, 0, none⟩) 3 3)).run Try.prog (w.alloc (.cells #[.int .u8 x, .int .u8 y, .int .u8 z] 5)) = .ok (.string (strOfNums [x, y, z])) (w.alloc (.cells #[.int .u8 x, .int .u8 y, .int .u8 z] 5)) := by
  subst hg
  refine run_convert_bytes_arg _ _ _ Try.underlying139 Try.underlying5 _ _ _ _ [x, y, z] rfl (fun i hi => ?_) _ Try.underlying9
  have h := (Blk.new w 5 #[.int .u8 x, .int .u8 y, .int .u8 z]).cell i
  match i, hi with
  | 0, _ => simp
  | 1, _ => simp
  | 2, _ => simp
theorem conv3d (w : World) (g : Nat) (x y z : Int) (hg : g = w.heap.size) : (convert 139 9 (.slice (some ⟨g, 0, none⟩) 3 3)).run Try.prog (w.alloc (.cells #[.int .u8 x, .int .u8 y, .int .u8 z] 5)).drew = .ok (.string (strOfNums [x, y, z])) (w.alloc (.cells #[.int .u8 x, .int .u8 y, .int .u8 z] 5)).drew := by
  have h := conv3 w.drew g x y z hg
  exact h
attribute [local go_sem] conv1 conv3 conv3d

set_option maxHeartbeats 4000000 in
theorem bytes_any (B : Nat) (v : Value) (l : List Ent) (w : World) (hl : Ents B w v l) (hn : l.length < 256) :
    Calls Try.prog 37 #[v] w fun d w' => d = .returned (.tuple #[.string (bytesS l), errV (bytesF l)]) ∧ Below w.heap.size w w' := by
  obtain ⟨A, c, rfl, hc, hc2, hcell⟩ := hl.form
  have HC := Lib.hid hcell
  clear hcell hl
  have u1 : IntKind.u8.wrap (l.length : Int) = (l.length : Int) := by unfold IntKind.wrap; simp [IntKind.signed, IntKind.bits]; omega
  go_enter Try.func37, Try.ntmps37
  go_wp2_with fail
  go_loopw [4, 16] (fun s i wr => ∃ k : Nat, i = .int .i64 (k : Int) ∧ k ≤ l.length ∧ s = .string (bytesL l.length (l.take k)) ∧ Hid (∀ x ∈ l.take k, faultE x = 0) ∧ Below w.heap.size w wr) (fun _ i _ => l.length - (intOf i).toNat)
  case atStart => exact ⟨0, rfl, Nat.zero_le _, rfl, fun x hx => by simp at hx, (Below.refl _ _).alloc (Nat.le_refl _) _⟩
  case round =>
    obtain ⟨k, rfl, hk, rfl, hok, hbl⟩ := hrel
    have hsz := bytesL_size l.length (l.take k) hok.out
    rw [List.length_take_of_le hk] at hsz
    by_cases hlt : k < l.length
    · obtain ⟨y, hy, hty, _⟩ := getElem?_of_lt hlt
      obtain ⟨b, o, rfl, hb, c1, c2, c3⟩ := HC.out k y hy
      have d1 := (hbl.cell (p := ⟨b, o + k * 3, none⟩) hb).trans c1
      have d2 := (hbl.cell (p := ⟨b, o + k * 3 + 1, none⟩) hb).trans c2
      have d3 := (hbl.cell (p := ⟨b, o + k * 3 + 2, none⟩) hb).trans c3
      have HY := Lib.hid hy
      have HTY := Lib.hid hty
      clear c1 c2 c3 hy hty
      have g1 : (0 : Int) ≤ (k : Int) := by omega
      have g2 : (k : Int) < (l.length : Int) := by omega
      have HB := Lib.hid hbl
      have HB1 := Lib.hid (hbl.alloc hbl.size (.cells #[.string y.k, .string y.v, .bool y.g] 35))
      have HK := Lib.hid (Blk.new wr 35 #[.string y.k, .string y.v, .bool y.g])
      clear hbl
      go_wp2_with fail
      refine (check_any y _).mono ?_
      rintro d w2 ⟨rfl, hb2⟩
      have HK2 := Lib.hid (HK.out.below hb2 (by simp))
      have HB2 := Lib.hid (HB1.out.trans (hb2.mono HB1.out.size))
      have e0 := HK2.out.cell 0
      have e1 := HK2.out.cell 1
      have e2 := HK2.out.cell 2
      simp at e0 e1 e2
      clear d1 d2 d3 hb2 HB HB1 HK
      by_cases hf : faultE y = 0
      · have he : errV (faultE y) = .nilIface := by rw [hf]; rfl
        rw [he]
        have hz := faultE_zero hf
        have HF := Lib.hid hf
        have z1 : y.k.size ≤ 8 := hz.2.2.1
        have z2 : y.v.size ≤ 16 := hz.2.2.2
        have u2 : IntKind.u8.wrap (y.k.size : Int) = (y.k.size : Int) := by unfold IntKind.wrap; simp [IntKind.signed, IntKind.bits]; omega
        have u3 : IntKind.u8.wrap (y.v.size : Int) = (y.v.size : Int) := by unfold IntKind.wrap; simp [IntKind.signed, IntKind.bits]; omega
        have hnx : Hid (bytesL l.length (l.take (k + 1)) = bytesL l.length (l.take k) ++ entB y) := by rw [Hid, HTY.out, bytesL_snoc]
        have hok2 : Hid (∀ x ∈ l.take (k + 1), faultE x = 0) := by
          intro x hx
          rw [HTY.out] at hx
          rcases List.mem_append.1 hx with hx | hx
          · exact hok.out x hx
          · simp at hx; subst hx; exact HF.out
        generalize bytesL l.length (l.take k) = S at *
        clear he hz hf hok HF
        have hgB : ∀ g : Bool, y.g = g → Hid (S ++ entB y = S ++ (strOfNums [gB g, (y.k.size : Int), (y.v.size : Int)] ++ y.k ++ y.v)) := fun g hg => by subst hg; rfl
        cases hg : y.g
        · have f := HK2.out.alloc (.cells #[.int .u8 0, .int .u8 y.k.size, .int .u8 y.v.size] 5)
          have f0 := f.cell 0
          have f1 := f.cell 1
          simp at f0 f1
          have hS := hgB false hg
          have s1 : (strOfNums [0, (y.k.size : Int), (y.v.size : Int)]).size = 3 := strOfNums_size _
          have s2 : (strOfNums [0, (y.k.size : Int), (y.v.size : Int)] ++ y.k).size = 3 + y.k.size := by rw [ByteArray.size_append, s1]
          have s3 : (strOfNums [0, (y.k.size : Int), (y.v.size : Int)] ++ y.k ++ y.v).size = 3 + y.k.size + y.v.size := by rw [ByteArray.size_append, s2]
          rw [hg] at e2
          clear f hgB
          go_wp2_with fail
          go_roundw
          case rel => exact ⟨k + 1, by simp, by omega, by rw [hnx.out, hS.out]; rfl, hok2, HB2.out.alloc HB2.out.size _⟩
          case measure => simp [intOf] <;> omega
        · have f := HK2.out.alloc (.cells #[.int .u8 1, .int .u8 y.k.size, .int .u8 y.v.size] 5)
          have f0 := f.cell 0
          have f1 := f.cell 1
          simp at f0 f1
          have hS := hgB true hg
          have s1 : (strOfNums [1, (y.k.size : Int), (y.v.size : Int)]).size = 3 := strOfNums_size _
          have s2 : (strOfNums [1, (y.k.size : Int), (y.v.size : Int)] ++ y.k).size = 3 + y.k.size := by rw [ByteArray.size_append, s1]
          have s3 : (strOfNums [1, (y.k.size : Int), (y.v.size : Int)] ++ y.k ++ y.v).size = 3 + y.k.size + y.v.size := by rw [ByteArray.size_append, s2]
          rw [hg] at e2
          clear f hgB
          go_wp2_with fail
          go_roundw
          case rel => exact ⟨k + 1, by simp, by omega, by rw [hnx.out, hS.out]; rfl, hok2, HB2.out.alloc HB2.out.size _⟩
          case measure => simp [intOf] <;> omega
      · have hff := ff_at hok.out HY.out hf
        have HF : Hid (bytesF l = faultE y) := by rw [Hid, bytesF, hff, if_neg hf]
        have HS : Hid (bytesS l = ByteArray.empty) := by rw [Hid, bytesS, HF.out, if_neg hf]
        have he : errV (faultE y) = .iface 137 (.int .i64 (faultE y)) := by unfold errV; rw [if_neg hf]
        rw [he]
        have HE := Lib.hid he
        clear he hff hf hok
        go_wp2_with fail
        exact bodyPost_ret (v := .tuple #[.string ByteArray.empty, .iface 137 (.int .i64 (faultE y))]) (by simp [results, Try.results37, go_sem] <;> rfl) rfl ⟨by rw [HF.out, HS.out, HE.out], HB2.out⟩
    · have hkl : k = l.length := by omega
      subst hkl
      rw [List.take_length] at hok hsz
      have hff := ff_zero.2 hok.out
      rw [List.take_length]
      by_cases h64 : 64 < (bytesL l.length l).size
      · have HF : Hid (bytesF l = 2) := by rw [Hid, bytesF, if_pos hff, if_pos h64]
        have HS : Hid (bytesS l = ByteArray.empty) := by rw [Hid, bytesS, HF.out]; rfl
        clear hff hok
        go_wp2_with fail
        exact bodyPost_ret (v := .tuple #[.string ByteArray.empty, .iface 137 (.int .i64 2)]) (by simp [results, Try.results37, go_sem] <;> rfl) rfl ⟨by rw [HF.out, HS.out]; rfl, hbl⟩
      · have HF : Hid (bytesF l = 0) := by rw [Hid, bytesF, if_pos hff, if_neg h64]
        have HS : Hid (bytesS l = bytesL l.length l) := by rw [Hid, bytesS, HF.out]; rfl
        clear hff hok
        go_wp2_with fail
        exact bodyPost_ret (v := .tuple #[.string (bytesL l.length l), .nilIface]) (by simp [results, Try.results37, go_sem] <;> rfl) rfl ⟨by rw [HF.out, HS.out]; rfl, hbl⟩
set_option maxHeartbeats 4000000 in
theorem rbytes_any (B : Nat) (v : Value) (l : List Ent) (w : World) (hl : Ents B w v l) (hn : l.length < 256) :
    Calls Try.prog 38 #[v] w fun d w' => d = .returned (.tuple #[.string (bytesS l), .int .i64 (bytesF l)]) ∧ Below w.heap.size w w' := by
  obtain ⟨A, c, rfl, hc, hc2, hcell⟩ := hl.form
  have HC := Lib.hid hcell
  clear hcell hl
  have u1 : IntKind.u8.wrap (l.length : Int) = (l.length : Int) := by unfold IntKind.wrap; simp [IntKind.signed, IntKind.bits]; omega
  have u1' : (l.length : Int).tmod 256 = (l.length : Int) := by rw [Int.tmod_eq_emod_of_nonneg (by omega)]; omega
  go_enter Try.func38, Try.ntmps38
  go_wp2_with fail
  go_loopw [4, 5] (fun s i wr => ∃ k : Nat, i = .int .i64 (k : Int) ∧ k ≤ l.length ∧ s = .string (bytesL l.length (l.take k)) ∧ Hid (∀ x ∈ l.take k, faultE x = 0) ∧ Below w.heap.size w wr) (fun _ i _ => l.length - (intOf i).toNat)
  case atStart => exact ⟨0, rfl, Nat.zero_le _, rfl, fun x hx => by simp at hx, (Below.refl _ _).alloc (Nat.le_refl _) _⟩
  case round =>
    obtain ⟨k, rfl, hk, rfl, hok, hbl⟩ := hrel
    have hsz := bytesL_size l.length (l.take k) hok.out
    rw [List.length_take_of_le hk] at hsz
    by_cases hlt : k < l.length
    · obtain ⟨y, hy, hty, _⟩ := getElem?_of_lt hlt
      obtain ⟨b, o, rfl, hb, c1, c2, c3⟩ := HC.out k y hy
      have HD : Hid (∀ {wx : World}, Below w.heap.size w wx → wx.cell? ⟨b, o + k * 3, none⟩ = some (.string y.k) ∧ wx.cell? ⟨b, o + k * 3 + 1, none⟩ = some (.string y.v) ∧ wx.cell? ⟨b, o + k * 3 + 2, none⟩ = some (.bool y.g)) := by
        intro wx hbl
        exact ⟨(hbl.cell (p := ⟨b, o + k * 3, none⟩) hb).trans c1, (hbl.cell (p := ⟨b, o + k * 3 + 1, none⟩) hb).trans c2, (hbl.cell (p := ⟨b, o + k * 3 + 2, none⟩) hb).trans c3⟩
      obtain ⟨d1, d2, d3⟩ := HD.out hbl
      have HY := Lib.hid hy
      have HTY := Lib.hid hty
      clear c1 c2 c3 hy hty
      have g1 : (0 : Int) ≤ (k : Int) := by omega
      have g2 : (k : Int) < (l.length : Int) := by omega
      have HB := Lib.hid hbl
      clear hbl
      go_wp2_with fail
      refine (rfault_any y _).mono ?_
      rintro d w2 ⟨rfl, hb2⟩
      have hbl2 := HB.out.trans (hb2.mono HB.out.size)
      have HB2 := Lib.hid hbl2
      obtain ⟨e0, e1, e2⟩ := HD.out hbl2
      clear d1 d2 d3 hb2 HB hbl2
      by_cases hf : faultE y = 0
      · have he : (faultE y : Int) = 0 := by omega
        rw [he]
        have hz := faultE_zero hf
        have HF := Lib.hid hf
        have z1 : y.k.size ≤ 8 := hz.2.2.1
        have z2 : y.v.size ≤ 16 := hz.2.2.2
        have u2 : IntKind.u8.wrap (y.k.size : Int) = (y.k.size : Int) := by unfold IntKind.wrap; simp [IntKind.signed, IntKind.bits]; omega
        have u3 : IntKind.u8.wrap (y.v.size : Int) = (y.v.size : Int) := by unfold IntKind.wrap; simp [IntKind.signed, IntKind.bits]; omega
        have hnx : Hid (bytesL l.length (l.take (k + 1)) = bytesL l.length (l.take k) ++ entB y) := by rw [Hid, HTY.out, bytesL_snoc]
        have hok2 : Hid (∀ x ∈ l.take (k + 1), faultE x = 0) := by
          intro x hx
          rw [HTY.out] at hx
          rcases List.mem_append.1 hx with hx | hx
          · exact hok.out x hx
          · simp at hx; subst hx; exact HF.out
        generalize bytesL l.length (l.take k) = S at *
        clear he hz hf hok HF
        have hgB : ∀ g : Bool, y.g = g → Hid (S ++ entB y = S ++ strOfNums [gB g, (y.k.size : Int), (y.v.size : Int)] ++ y.k ++ y.v) := fun g hg => by subst hg; rw [Hid, entB, ByteArray.append_assoc, ByteArray.append_assoc]; rw [ByteArray.append_assoc]
        cases hg : y.g
        · have HBD := Lib.hid ((HB2.out.alloc HB2.out.size (.cells #[.int .u8 0, .int .u8 y.k.size, .int .u8 y.v.size] 5)).drew)
          obtain ⟨f0, f1, f2⟩ := HD.out HBD.out
          have hS := hgB false hg
          have s1 : (strOfNums [0, (y.k.size : Int), (y.v.size : Int)]).size = 3 := strOfNums_size _
          have s2 : (S ++ strOfNums [0, (y.k.size : Int), (y.v.size : Int)]).size = S.size + 3 := by rw [ByteArray.size_append, s1]
          have s3 : (S ++ strOfNums [0, (y.k.size : Int), (y.v.size : Int)] ++ y.k).size = S.size + 3 + y.k.size := by rw [ByteArray.size_append, s2]
          rw [hg] at e2
          clear hgB
          go_wp2_with fail
          go_region
          all_goals
            go_wp2_with fail
            go_roundw
            case rel => exact ⟨k + 1, by simp, by omega, by rw [hnx.out, hS.out]; rfl, hok2, HBD.out⟩
            case measure => simp [intOf] <;> omega
        · have HBD := Lib.hid ((HB2.out.alloc HB2.out.size (.cells #[.int .u8 1, .int .u8 y.k.size, .int .u8 y.v.size] 5)).drew)
          obtain ⟨f0, f1, f2⟩ := HD.out HBD.out
          have hS := hgB true hg
          have s1 : (strOfNums [1, (y.k.size : Int), (y.v.size : Int)]).size = 3 := strOfNums_size _
          have s2 : (S ++ strOfNums [1, (y.k.size : Int), (y.v.size : Int)]).size = S.size + 3 := by rw [ByteArray.size_append, s1]
          have s3 : (S ++ strOfNums [1, (y.k.size : Int), (y.v.size : Int)] ++ y.k).size = S.size + 3 + y.k.size := by rw [ByteArray.size_append, s2]
          rw [hg] at e2
          clear hgB
          go_wp2_with fail
          go_region
          all_goals
            go_wp2_with fail
            go_roundw
            case rel => exact ⟨k + 1, by simp, by omega, by rw [hnx.out, hS.out]; rfl, hok2, HBD.out⟩
            case measure => simp [intOf] <;> omega
      · have hff := ff_at hok.out HY.out hf
        have HF : Hid (bytesF l = faultE y) := by rw [Hid, bytesF, hff, if_neg hf]
        have HS : Hid (bytesS l = ByteArray.empty) := by rw [Hid, bytesS, HF.out, if_neg hf]
        have hp : (0 : Int) < (faultE y : Int) := by omega
        clear hff hf hok
        go_wp2_with fail
        exact bodyPost_ret (v := .tuple #[.string ByteArray.empty, .int .i64 (faultE y)]) (by simp [results, Try.results38, go_sem] <;> rfl) rfl ⟨by rw [HF.out, HS.out], HB2.out⟩
    · have hkl : k = l.length := by omega
      subst hkl
      rw [List.take_length] at hok hsz
      have hff := ff_zero.2 hok.out
      rw [List.take_length]
      by_cases h64 : 64 < (bytesL l.length l).size
      · have HF : Hid (bytesF l = 2) := by rw [Hid, bytesF, if_pos hff, if_pos h64]
        have HS : Hid (bytesS l = ByteArray.empty) := by rw [Hid, bytesS, HF.out]; rfl
        clear hff hok
        go_wp2_with fail
        exact bodyPost_ret (v := .tuple #[.string ByteArray.empty, .int .i64 2]) (by simp [results, Try.results38, go_sem] <;> rfl) rfl ⟨by rw [HF.out, HS.out]; rfl, hbl⟩
      · have HF : Hid (bytesF l = 0) := by rw [Hid, bytesF, if_pos hff, if_neg h64]
        have HS : Hid (bytesS l = bytesL l.length l) := by rw [Hid, bytesS, HF.out]; rfl
        clear hff hok
        go_wp2_with fail
        exact bodyPost_ret (v := .tuple #[.string (bytesL l.length l), .int .i64 0]) (by simp [results, Try.results38, go_sem] <;> rfl) rfl ⟨by rw [HF.out, HS.out]; rfl, hbl⟩
end Go.Proofs.Ytaepdbkfaoiimaa
