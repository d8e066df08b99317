/- Changes as a text: the reference's functions compute the plain ones. Conditions: texts of at most a million bytes. -/
import Derived.Test.YtaepdbkfaoiimaaDoorParse
import Derived.Test.YtaepdbkfaoiimaaDoorBat0
import Derived.RegionTactic
import Derived.BigRegion
set_option linter.unusedVariables false
set_option linter.unusedSimpArgs false
set_option linter.unnecessarySimpa false
namespace Go.Proofs.YtaepdbkfaoiimaaDoor
open Go.RowKit
/-! ### plain -/
theorem bt_get {s : ByteArray} {i : Nat} (h : i < s.size) : ∃ c : UInt8, s.data.toList[i]? = some c ∧ bt s i = c.toNat := by
  have hl : i < s.data.toList.length := by rw [Array.length_toList]; exact h
  refine ⟨s.data.toList[i], List.getElem?_eq_getElem hl, ?_⟩
  unfold bt
  rw [List.getD_eq_getElem?_getD, List.getElem?_eq_getElem hl]; rfl
theorem plainW_next {s : ByteArray} {i : Nat} (h : i < s.size) : plainW (s.data.toList.take (i + 1)) = (plainW (s.data.toList.take i) && plainN (bt s i)) := by
  obtain ⟨c, hc, hb⟩ := bt_get h
  rw [List.take_add_one, hc, hb]
  unfold plainW
  rw [List.all_append]
  simp
theorem plainW_bad {s : ByteArray} {i : Nat} (h : i < s.size) (hb : plainN (bt s i) = false) : plainW s.data.toList = false := by
  obtain ⟨c, hc, hb2⟩ := bt_get h
  rw [hb2] at hb
  unfold plainW
  rw [List.all_eq_false]
  exact ⟨c, List.mem_of_getElem? hc, by rw [hb]; simp⟩
theorem plainN_t {x : Nat} (h : (97 ≤ x ∧ x ≤ 122) ∨ (48 ≤ x ∧ x ≤ 57)) : plainN x = true := by
  unfold plainN
  simp; omega
theorem plainN_f {x : Nat} (h : (x < 97 ∨ 122 < x) ∧ (x < 48 ∨ 57 < x)) : plainN x = false := by
  cases e : plainN x
  · rfl
  · unfold plainN at e; simp at e; omega
def splB (s : ByteArray) : List ByteArray := (spl s.data.toList).map fun w => ⟨w.toArray⟩
def accS (l : List Ent) : ByteArray := ⟨(chgs l).toArray⟩
theorem accS_size {l : List Ent} (h : ∀ e ∈ l, wordF e = 0) : (accS l).size ≤ 26 * l.length := by
  have := chgs_len h
  show (chgs l).toArray.size ≤ _
  simpa using this
theorem accS_next (l : List Ent) (y : Ent) : accS (l ++ [y]) = (if l = [] then ByteArray.empty else accS l ++ bsp) ++ chgB y := by
  apply b_eq
  rw [b_app, chgB_data]
  by_cases h : l = []
  · subst h
    rw [if_pos rfl]
    show (chgs [y]).toArray.toList = _
    rw [chgs_one]; rfl
  · rw [if_neg h, b_app]
    show (chgs (l ++ [y])).toArray.toList = (chgs l).toArray.toList ++ [32] ++ _
    rw [chgs_snoc _ _ h]
theorem textS_acc {l : List Ent} (h : textF l = 0) : textS l = accS l := if_pos h
theorem textS_bad {l : List Ent} (h : textF l ≠ 0) : textS l = ByteArray.empty := if_neg h
theorem textF_many {l : List Ent} (h : l.length = 0 ∨ 4 < l.length) : textF l = 2 := if_pos h
theorem textF_in {l : List Ent} (h : ¬(l.length = 0 ∨ 4 < l.length)) : textF l = wf l := if_neg h
theorem wordF_three {e : Ent} (h : faultE e = 0) (h2 : (plainW e.k.data.toList && plainW e.v.data.toList) = false) : wordF e = 3 := by
  unfold wordF; rw [if_pos h, h2]; rfl
theorem wordF_ok {e : Ent} (h : faultE e = 0) (h1 : plainW e.k.data.toList = true) (h2 : plainW e.v.data.toList = true) : wordF e = 0 := by
  unfold wordF; rw [if_pos h, h1, h2]; rfl
theorem wordF_fault {e : Ent} (h : faultE e ≠ 0) : wordF e = faultE e := by
  unfold wordF; rw [if_neg h]
theorem entW_none {x : ByteArray} (h : (61 : UInt8) ∉ x.data.toList) : entW x.data.toList = ⟨x, ByteArray.empty, true⟩ := by
  unfold entW
  rw [cutE_none h]
  rfl
theorem entW_at {x : ByteArray} {k : Nat} (h : (61 : UInt8) ∉ x.data.toList.take k) (hk : x.data.toList[k]? = some 61) : entW x.data.toList = ⟨x.extract 0 k, x.extract (k + 1) x.size, false⟩ := by
  unfold entW
  rw [cutE_at h hk]
  have hs : x.data.toList.length = x.size := Array.length_toList
  congr 1
  · apply b_eq
    rw [b_ext]; simp
  · apply b_eq
    rw [b_ext, List.take_of_length_le (l := x.data.toList.drop (k + 1)) (by rw [List.length_drop, hs]; omega)]
theorem splB_data (s : ByteArray) : (splB s).map (fun x => x.data.toList) = spl s.data.toList := by
  unfold splB
  rw [List.map_map]
  exact (List.map_congr_left fun w _ => rfl).trans (List.map_id _)
theorem entsOf_splB (s : ByteArray) : entsOf s = (splB s).map fun x => entW x.data.toList := by
  unfold entsOf
  rw [← splB_data, List.map_map]; rfl
theorem spl_len : ∀ l : List UInt8, (spl l).length ≤ l.length + 1
  | [] => by simp [spl]
  | b :: l => by
    have ih := spl_len l
    rw [spl]
    split
    · simp; omega
    · split
      · rename_i h; exact absurd h (spl_ne l)
      · rename_i h; rw [h] at ih; simp at ih ⊢; omega
theorem splB_len (s : ByteArray) : (splB s).length ≤ s.size + 1 := by
  unfold splB
  have := spl_len s.data.toList
  have hs : s.data.toList.length = s.size := Array.length_toList
  rw [List.length_map]; omega
theorem spl_sub : ∀ (l : List UInt8) (x : List UInt8), x ∈ spl l → x.length ≤ l.length
  | [], x, h => by simp [spl] at h; subst h; simp
  | b :: l, x, h => by
    rw [spl] at h
    split at h
    · rcases List.mem_cons.1 h with rfl | h
      · simp
      · have := spl_sub l x h; simp; omega
    · split at h
      · rename_i e; exact absurd e (spl_ne l)
      · rename_i y r e
        rcases List.mem_cons.1 h with rfl | h
        · have := spl_sub l y (by rw [e]; simp); simp; omega
        · have := spl_sub l x (by rw [e]; simp [h]); simp; omega
theorem splB_sub {s x : ByteArray} (h : x ∈ splB s) : x.size ≤ s.size := by
  unfold splB at h
  obtain ⟨y, hy, rfl⟩ := List.mem_map.1 h
  have := spl_sub _ _ hy
  have hs : s.data.toList.length = s.size := Array.length_toList
  show y.toArray.size ≤ _
  simp; omega
theorem cutE_len : ∀ l : List UInt8, (cutE l).1.length ≤ l.length ∧ (cutE l).2.1.length ≤ l.length
  | [] => by simp [cutE]
  | b :: l => by
    have ih := cutE_len l
    rw [cutE]
    split
    · simp
    · simp; omega
theorem entW_size (x : ByteArray) : (entW x.data.toList).k.size ≤ x.size ∧ (entW x.data.toList).v.size ≤ x.size := by
  have := cutE_len x.data.toList
  have hs : x.data.toList.length = x.size := Array.length_toList
  unfold entW
  constructor
  · show (cutE x.data.toList).1.toArray.size ≤ _
    simp; omega
  · show (cutE x.data.toList).2.1.toArray.size ≤ _
    simp; omega
theorem entsOf_ok {s : ByteArray} (hs : s.size ≤ 1000000) : ∀ e ∈ entsOf s, EntOk e := by
  intro e he
  rw [entsOf_splB] at he
  obtain ⟨x, hx, rfl⟩ := List.mem_map.1 he
  have h1 := splB_sub hx
  have h2 := entW_size x
  exact ⟨by omega, by omega⟩
attribute [local go_sem] bt_idx bt_wrap
set_option maxHeartbeats 4000000 in
theorem plainWord_any (s : ByteArray) (w : World) (hs : s.size ≤ 9223372036854775807) :
    Calls Tryd.prog 20 #[.string s] w fun e w' => e = .returned (.bool (plainW s.data.toList)) ∧ w = w' := by
  go_enter Tryd.func20, Tryd.ntmps20
  go_wp2_with fail
  go_loop [3] (fun x => ∃ i : Nat, x = .int .i64 (i : Int) ∧ i ≤ s.size ∧ Hid (plainW (s.data.toList.take i) = true)) (fun x => s.size - (intOf x).toNat)
  case atStart => exact ⟨0, rfl, Nat.zero_le _, rfl⟩
  case round =>
    obtain ⟨i, rfl, hi, hp⟩ := hrel
    by_cases hlt : i < s.size
    · have g1 : (0 : Int) ≤ (i : Int) := by omega
      have g2 : (i : Int) < (s.size : Int) := by omega
      have HN : Hid (plainN (bt s i) = true → plainW (s.data.toList.take (i + 1)) = true) := fun h => by rw [plainW_next hlt, hp.out, h]; rfl
      have HF : Hid (plainN (bt s i) = false → plainW s.data.toList = false) := fun h => plainW_bad hlt h
      have hr : (((97 ≤ bt s i ∧ bt s i ≤ 122) ∨ (48 ≤ bt s i ∧ bt s i ≤ 57)) ∧ plainN (bt s i) = true) ∨ (((bt s i < 97 ∨ 122 < bt s i) ∧ (bt s i < 48 ∨ 57 < bt s i)) ∧ plainN (bt s i) = false) := by
        by_cases h : (97 ≤ bt s i ∧ bt s i ≤ 122) ∨ (48 ≤ bt s i ∧ bt s i ≤ 57)
        · exact .inl ⟨h, plainN_t h⟩
        · exact .inr ⟨by omega, plainN_f (by omega)⟩
      rcases hr with ⟨hr, hpl⟩ | ⟨hr, hpl⟩
      · have hnx := HN.out hpl
        have HX := Lib.hid hnx
        clear hnx hpl HN HF
        by_cases h1 : bt s i < 97
        · have t1 : decide ((bt s i : Int) < 97) = true := decide_eq_true (by omega)
          have t3 : decide ((bt s i : Int) < 48) = false := decide_eq_false (by omega)
          have t4 : decide ((57 : Int) < (bt s i : Int)) = false := decide_eq_false (by omega)
          clear hr
          go_wp2_with fail
          go_round
          case rel => exact ⟨i + 1, by go_num, by omega, HX⟩
          case measure => simp [intOf] <;> omega
        · have t1 : decide ((bt s i : Int) < 97) = false := decide_eq_false (by omega)
          have t2 : decide ((122 : Int) < (bt s i : Int)) = false := decide_eq_false (by omega)
          clear hr
          go_wp2_with fail
          go_round
          case rel => exact ⟨i + 1, by go_num, by omega, HX⟩
          case measure => simp [intOf] <;> omega
      · have hnx := HF.out hpl
        have HX := Lib.hid hnx
        clear hnx hpl HN HF
        by_cases h1 : bt s i < 97
        · have t1 : decide ((bt s i : Int) < 97) = true := decide_eq_true (by omega)
          by_cases h3 : bt s i < 48
          · have t3 : decide ((bt s i : Int) < 48) = true := decide_eq_true (by omega)
            clear hr
            go_wp2_with fail
            go_ret
            exact ⟨ret_bool HX.out.symm, rfl⟩
          · have t3 : decide ((bt s i : Int) < 48) = false := decide_eq_false (by omega)
            have t4 : decide ((57 : Int) < (bt s i : Int)) = true := decide_eq_true (by omega)
            clear hr
            go_wp2_with fail
            go_ret
            exact ⟨ret_bool HX.out.symm, rfl⟩
        · have t1 : decide ((bt s i : Int) < 97) = false := decide_eq_false (by omega)
          have t2 : decide ((122 : Int) < (bt s i : Int)) = true := decide_eq_true (by omega)
          have t3 : decide ((bt s i : Int) < 48) = false := decide_eq_false (by omega)
          have t4 : decide ((57 : Int) < (bt s i : Int)) = true := decide_eq_true (by omega)
          clear hr
          go_wp2_with fail
          go_ret
          exact ⟨ret_bool HX.out.symm, rfl⟩
    · have hge : i = s.size := by omega
      subst hge
      have HX : Hid (plainW s.data.toList = true) := by
        have h := hp.out
        rwa [List.take_of_length_le (by rw [Array.length_toList]; exact Nat.le_refl _)] at h
      go_wp2_with fail
      go_ret
      exact ⟨ret_bool HX.out.symm, rfl⟩
theorem info_strS : (Tryd.prog.info? 9).map (fun i => (i.zero, i.size, i.bytes)) = some (some (.string ByteArray.empty), 1, 16) := by kernel_rfl
theorem rd_lit1S (B : Nat) (w : World) (g : Nat) (hg : w.heap.size = g) (s : ByteArray) : Rd B 9 1 (w.alloc (.cells #[.string s] 9)) (.slice (some ⟨g, 0, none⟩) 1 1) 1 [.string s] := by
  subst hg
  have hb := Blk.new w 9 #[.string s]
  refine ⟨rfl, _, _, rfl, Nat.le_refl _, by omega, fun _ => ⟨_, _, rfl, .inr ⟨_, _, hb⟩, hb.lt, fun j u hu => ?_⟩⟩
  rw [hb.cell]
  match j, hu with
  | 0, hu => exact hu
set_option maxHeartbeats 8000000 in
theorem split_any (B : Nat) (s : ByteArray) (w : World) (hs : s.size ≤ 1000000) :
    Calls Tryd.prog 23 #[.string s] w fun e w' => ∃ v, e = .returned v ∧ Strs B w' v (splB s) ∧ Below w.heap.size w w' := by
  go_enter Tryd.func23, Tryd.ntmps23
  go_wp2_with fail
  go_loopw [3, 4, 5] (fun u x y wr => ∃ (i a : Nat) (l : List (List UInt8)), y = .int .i64 (i : Int) ∧ x = .int .i64 (a : Int) ∧ a ≤ i ∧ i ≤ s.size ∧ l.length ≤ i ∧ Hid (wr.ownsRow w.heap.size 9 1 u l.length ((l.map fun x => (⟨x.toArray⟩ : ByteArray)).map .string)) ∧ Hid (spl s.data.toList = l ++ spl (s.data.toList.drop a)) ∧ Hid ((32 : UInt8) ∉ (s.data.toList.drop a).take (i - a)) ∧ Below w.heap.size w wr) (fun _ _ y _ => s.size - (intOf y).toNat)
  case atStart => exact ⟨0, 0, [], rfl, rfl, Nat.le_refl _, Nat.zero_le _, Nat.le_refl _, World.ownsRow_nil _ _ _ _, rfl, by simp [Hid], Below.refl _ _⟩
  case round =>
    obtain ⟨i, a, l, rfl, rfl, hai, hi, hli, hown, hsp, hno, hbl⟩ := hrel
    obtain ⟨i0, hinf, hz0, hz1, hz2⟩ := info_parts info_strS
    have HI := Lib.hid hinf
    have Z0 := Lib.hid hz0
    have Z1 := Lib.hid hz1
    have Z2 := Lib.hid hz2
    clear hinf hz0 hz1 hz2
    have hbs := hbl.size
    by_cases hlt : i < s.size
    · have g1 : (0 : Int) ≤ (i : Int) := by omega
      have g2 : (i : Int) < (s.size : Int) := by omega
      obtain ⟨c, hc, hcb⟩ := bt_get hlt
      by_cases h32 : bt s i = 32
      · have hc32 : c = 32 := by
          apply UInt8.toNat_inj.1
          rw [← hcb, h32]; rfl
        have HSP : Hid (spl s.data.toList = (l ++ [(s.data.toList.drop a).take (i - a)]) ++ spl (s.data.toList.drop (i + 1))) := by
          rw [Hid, hsp.out, spl_at hai hno.out (by rw [hc, hc32]), List.append_assoc]; rfl
        have HNO : Hid ((32 : UInt8) ∉ (s.data.toList.drop (i + 1)).take (i + 1 - (i + 1))) := by rw [Hid, Nat.sub_self]; simp
        have HW : Hid (s.extract a i = ⟨((s.data.toList.drop a).take (i - a)).toArray⟩) := by
          apply b_eq; rw [b_ext]
        have t1 : ((bt s i : Int) == 32) = true := by rw [beq_iff_eq]; omega
        have hownA := Lib.hid (own_alloc hown.out (.cells #[.string (s.extract a i)] 9))
        have hbA := Lib.hid (hbl.alloc hbs (.cells #[.string (s.extract a i)] 9))
        have HL := Lib.hid (rd_lit1S B wr wr.heap.size rfl (s.extract a i))
        clear hc hcb hc32 h32 hno hsp
        go_wp2_with (at_builtin; go_loud (refine wpList_append_rd _ rfl (.tmp 16) (.tmp 21) 47 rfl w.heap.size 9 i0 _ 1 16 Tryd.underlying47 HI.out Z0.out Z1.out Z2.out rfl (by decide) u3 _ _ rfl hownA.out B 9 _ 1 _ rfl HL.out (by simp [Value.oneCell']) (by unfold maxLen; omega) (by omega) (by simp; omega) ?_); intro v1 w5 hown1 hg1 hat1)
        have hown2 : Hid (w5.ownsRow w.heap.size 9 1 v1 (l ++ [(s.data.toList.drop a).take (i - a)]).length (((l ++ [(s.data.toList.drop a).take (i - a)]).map fun x => (⟨x.toArray⟩ : ByteArray)).map .string)) := by
          rw [HW.out] at hown1
          rw [Hid]
          simpa using hown1
        have hb5 := below_own hbA.out (Nat.le_refl _) hownA.out hg1
        clear hg1 hat1 hown1
        go_roundw
        case rel => exact ⟨i + 1, i + 1, l ++ [(s.data.toList.drop a).take (i - a)], by go_num, by go_num, Nat.le_refl _, by omega, by simp; omega, hown2, HSP, HNO, hb5⟩
        case measure => simp [intOf] <;> omega
      · have hc32 : c ≠ 32 := by
          intro e
          subst e
          exact h32 hcb
        have HNO : Hid ((32 : UInt8) ∉ (s.data.toList.drop a).take (i + 1 - a)) := take_step hai hno.out hc hc32
        have t1 : ((bt s i : Int) == 32) = false := by rw [beq_eq_false_iff_ne]; omega
        clear hc hcb hc32 h32 hno
        go_wp2_with fail
        go_roundw
        case rel => exact ⟨i + 1, a, l, by go_num, rfl, by omega, by omega, by omega, hown, hsp, HNO, hbl⟩
        case measure => simp [intOf] <;> omega
    · have hge : i = s.size := by omega
      subst hge
      have hsl : s.data.toList.length = s.size := Array.length_toList
      have HW : Hid (s.extract a s.size = ⟨(s.data.toList.drop a).toArray⟩) := by
        apply b_eq
        rw [b_ext, List.take_of_length_le (by rw [List.length_drop, hsl]; omega)]
      have HSP : Hid (splB s = (l.map fun x => (⟨x.toArray⟩ : ByteArray)) ++ [s.extract a s.size]) := by
        have h := hno.out
        rw [List.take_of_length_le (by rw [List.length_drop, hsl]; omega)] at h
        rw [Hid, HW.out]
        unfold splB
        rw [hsp.out, spl_one h, List.map_append]; rfl
      have hownA := Lib.hid (own_alloc hown.out (.cells #[.string (s.extract a s.size)] 9))
      have hbA := Lib.hid (hbl.alloc hbs (.cells #[.string (s.extract a s.size)] 9))
      have HL := Lib.hid (rd_lit1S B wr wr.heap.size rfl (s.extract a s.size))
      clear hno hsp hsl
      go_wp2_with (at_builtin; go_loud (refine wpList_append_rd _ rfl (.tmp 25) (.tmp 29) 47 rfl w.heap.size 9 i0 _ 1 16 Tryd.underlying47 HI.out Z0.out Z1.out Z2.out rfl (by decide) u3 _ _ rfl hownA.out B 9 _ 1 _ rfl HL.out (by simp [Value.oneCell']) (by unfold maxLen; omega) (by omega) (by simp; omega) ?_); intro v1 w5 hown1 hg1 hat1)
      have hb5 := below_own hbA.out (Nat.le_refl _) hownA.out hg1
      go_ret
      refine ⟨v1, rfl, ⟨?_, fun x hx => ?_⟩, hb5⟩
      · rw [HSP.out, List.map_append]
        have := Rd.of_own (B := B) hown1
        simpa using this
      · have := splB_sub hx
        omega
set_option maxRecDepth 20000 in
set_option maxHeartbeats 8000000 in
theorem rtext_any (B : Nat) (v : Value) (l : List Ent) (w : World) (hl : Ents B w v l) :
    Calls Tryd.prog 11 #[v] w fun d w' => d = .returned (.tuple #[.string (textS l), .int .i64 (textF l)]) ∧ Below w.heap.size w w' := by
  obtain ⟨A, c, rfl, hc, hc2, hcell⟩ := hl.form
  have HC := Lib.hid hcell
  clear hcell hl
  by_cases hz : l.length = 0 ∨ 4 < l.length
  · have HF := Lib.hid (textF_many hz)
    have HS := Lib.hid (textS_bad (l := l) (by rw [HF.out]; decide))
    by_cases h0 : l.length = 0
    · have t1 : decide ((l.length : Int) < 1) = true := decide_eq_true (by omega)
      clear hz
      go_enter Tryd.func11, Tryd.ntmps11
      go_wp2_with fail
      exact bodyPost_ret (v := .tuple #[.string ByteArray.empty, .int .i64 2]) (by simp [results, Tryd.results11, go_sem] <;> rfl) rfl ⟨by rw [HF.out, HS.out]; rfl, Below.refl _ _⟩
    · have t1 : decide ((l.length : Int) < 1) = false := decide_eq_false (by omega)
      have t2 : decide ((4 : Int) < (l.length : Int)) = true := decide_eq_true (by omega)
      clear hz
      go_enter Tryd.func11, Tryd.ntmps11
      go_wp2_with fail
      exact bodyPost_ret (v := .tuple #[.string ByteArray.empty, .int .i64 2]) (by simp [results, Tryd.results11, go_sem] <;> rfl) rfl ⟨by rw [HF.out, HS.out]; rfl, Below.refl _ _⟩
  have HW := Lib.hid (textF_in hz)
  have t1 : decide ((l.length : Int) < 1) = false := decide_eq_false (by omega)
  have t2 : decide ((4 : Int) < (l.length : Int)) = false := decide_eq_false (by omega)
  have hl4 : l.length ≤ 4 := by omega
  clear hz
  go_enter Tryd.func11, Tryd.ntmps11
  go_wp2_with fail
  go_loopw [4, 5] (fun s i wr => ∃ k : Nat, i = .int .i64 (k : Int) ∧ k ≤ l.length ∧ s = .string (accS (l.take k)) ∧ Hid (∀ x ∈ l.take k, wordF x = 0) ∧ Below w.heap.size w wr) (fun _ i _ => l.length - (intOf i).toNat)
  case atStart => exact ⟨0, rfl, Nat.zero_le _, rfl, fun x hx => by simp at hx, Below.refl _ _⟩
  case round =>
    obtain ⟨k, rfl, hk, rfl, hok, hbl⟩ := hrel
    have hsz := accS_size hok.out
    rw [List.length_take_of_le hk] at hsz
    by_cases hlt : k < l.length
    · obtain ⟨y, hy, hty, _⟩ := getElem?_of_lt hlt
      obtain ⟨b, o, rfl, hb, c1, c2, c3⟩ := HC.out k y hy
      have d1 := (hbl.cell (p := ⟨b, o + k * 3, none⟩) hb).trans c1
      have d2 := (hbl.cell (p := ⟨b, o + k * 3 + 1, none⟩) hb).trans c2
      have d3 := (hbl.cell (p := ⟨b, o + k * 3 + 2, none⟩) hb).trans c3
      have HY := Lib.hid hy
      have HTY := Lib.hid hty
      clear c1 c2 c3 hy hty
      have g1 : (0 : Int) ≤ (k : Int) := by omega
      have g2 : (k : Int) < (l.length : Int) := by omega
      have HB := Lib.hid hbl
      clear hbl
      go_wp2_with fail
      refine (rfault_any y _).mono ?_
      rintro d w2 ⟨rfl, hb2⟩
      have e1 := (hb2.cell (cell_lt d1)).trans d1
      have e2 := (hb2.cell (cell_lt d2)).trans d2
      have e3 := (hb2.cell (cell_lt d3)).trans d3
      have HB2 := Lib.hid (HB.out.trans (hb2.mono HB.out.size))
      clear d1 d2 d3 hb2 HB
      by_cases hf : faultE y = 0
      · have he : (faultE y : Int) = 0 := by omega
        rw [he]
        have hz := faultE_zero hf
        have HF := Lib.hid hf
        have z1 : y.k.size ≤ 8 := hz.2.2.1
        have z2 : y.v.size ≤ 16 := hz.2.2.2
        clear he hz hf
        go_wp2_with fail
        refine (plainWord_any y.k _ (by omega)).mono ?_
        rintro d w3 ⟨rfl, rfl⟩
        go_wp2_with fail
        refine (plainWord_any y.v _ (by omega)).mono ?_
        rintro d w3 ⟨rfl, rfl⟩
        cases hpk : plainW y.k.data.toList
        · have h3 := wordF_three HF.out (by rw [hpk]; rfl)
          have HT : Hid (textF l = 3) := by rw [Hid, HW.out, wf_at hok.out HY.out (by rw [h3]; decide), h3]
          have HS := Lib.hid (textS_bad (l := l) (by rw [HT.out]; decide))
          clear h3
          go_wp2_with fail
          exact bodyPost_ret (v := .tuple #[.string ByteArray.empty, .int .i64 3]) (by simp [results, Tryd.results11, go_sem] <;> rfl) rfl ⟨by rw [HT.out, HS.out]; rfl, HB2.out⟩
        cases hpv : plainW y.v.data.toList
        · have h3 := wordF_three HF.out (by rw [hpv]; simp)
          have HT : Hid (textF l = 3) := by rw [Hid, HW.out, wf_at hok.out HY.out (by rw [h3]; decide), h3]
          have HS := Lib.hid (textS_bad (l := l) (by rw [HT.out]; decide))
          clear h3
          go_wp2_with fail
          exact bodyPost_ret (v := .tuple #[.string ByteArray.empty, .int .i64 3]) (by simp [results, Tryd.results11, go_sem] <;> rfl) rfl ⟨by rw [HT.out, HS.out]; rfl, HB2.out⟩
        have h0 := wordF_ok HF.out hpk hpv
        have hok2 : Hid (∀ x ∈ l.take (k + 1), wordF x = 0) := by
          intro x hx
          rw [HTY.out] at hx
          rcases List.mem_append.1 hx with hx | hx
          · exact hok.out x hx
          · simp at hx; subst hx; exact h0
        have hnx : Hid (accS (l.take (k + 1)) = (if l.take k = [] then ByteArray.empty else accS (l.take k) ++ bsp) ++ chgB y) := by rw [Hid, HTY.out, accS_next]
        have hS0 : Hid (k = 0 → accS (l.take k) = ByteArray.empty) := fun h => by subst h; rfl
        have hne : Hid (0 < k → l.take k ≠ []) := fun h e => by
          have := congrArg List.length e
          rw [List.length_take_of_le hk] at this
          simp at this; omega
        have hn0 : Hid (k = 0 → l.take k = []) := fun h => by subst h; rfl
        generalize accS (l.take k) = S at *
        clear h0 hok hpk hpv
        have hchg : ∀ g : Bool, y.g = g → Hid (chgB y = if g then y.k else y.k ++ (bq ++ y.v)) := fun g hg => by subst hg; rfl
        have sq : bq.size = 1 := rfl
        have ssp : bsp.size = 1 := rfl
        by_cases hk0 : k = 0
        · have t3 : decide (0 < k) = false := decide_eq_false (by omega)
          have hS := hS0.out hk0
          have hif := hn0.out hk0
          clear hk0
          cases hg : y.g
          · have HNX : Hid (accS (l.take (k + 1)) = ((S ++ y.k) ++ bq) ++ y.v) := by
              rw [Hid, hnx.out, (hchg false hg).out, if_pos hif, hS]
              simp only [Bool.false_eq_true, if_false, ByteArray.append_assoc]
            rw [hg] at e3
            clear hnx hchg hS0 hne hn0 hif hS
            go_wp2_with fail
            go_roundw
            case rel => exact ⟨k + 1, by simp, by omega, by rw [HNX.out]; rfl, hok2, HB2.out⟩
            case measure => simp [intOf] <;> omega
          · have HNX : Hid (accS (l.take (k + 1)) = S ++ y.k) := by
              rw [Hid, hnx.out, (hchg true hg).out, if_pos hif, hS]; rfl
            rw [hg] at e3
            clear hnx hchg hS0 hne hn0 hif hS
            go_wp2_with fail
            go_roundw
            case rel => exact ⟨k + 1, by simp, by omega, by rw [HNX.out], hok2, HB2.out⟩
            case measure => simp [intOf] <;> omega
        · have t3 : decide (0 < k) = true := decide_eq_true (by omega)
          have hif := hne.out (by omega)
          cases hg : y.g
          · have HNX : Hid (accS (l.take (k + 1)) = (((S ++ bsp) ++ y.k) ++ bq) ++ y.v) := by
              rw [Hid, hnx.out, (hchg false hg).out, if_neg hif]
              simp only [Bool.false_eq_true, if_false, ByteArray.append_assoc]
            rw [hg] at e3
            clear hnx hchg hS0 hne hn0 hif
            go_wp2_with fail
            go_roundw
            case rel => exact ⟨k + 1, by simp, by omega, by rw [HNX.out]; rfl, hok2, HB2.out⟩
            case measure => simp [intOf] <;> omega
          · have HNX : Hid (accS (l.take (k + 1)) = (S ++ bsp) ++ y.k) := by
              rw [Hid, hnx.out, (hchg true hg).out, if_neg hif]; rfl
            rw [hg] at e3
            clear hnx hchg hS0 hne hn0 hif
            go_wp2_with fail
            go_roundw
            case rel => exact ⟨k + 1, by simp, by omega, by rw [HNX.out]; rfl, hok2, HB2.out⟩
            case measure => simp [intOf] <;> omega
      · have h3 := wordF_fault hf
        have HT : Hid (textF l = faultE y) := by rw [Hid, HW.out, wf_at hok.out HY.out (by rw [h3]; exact hf), h3]
        have HS := Lib.hid (textS_bad (l := l) (by rw [HT.out]; exact hf))
        have t3 : decide ((0 : Int) < (faultE y : Int)) = true := decide_eq_true (by omega)
        clear h3 hok
        go_wp2_with fail
        exact bodyPost_ret (v := .tuple #[.string ByteArray.empty, .int .i64 (faultE y)]) (by simp [results, Tryd.results11, go_sem] <;> rfl) rfl ⟨by rw [HT.out, HS.out], HB2.out⟩
    · have hkl : k = l.length := by omega
      subst hkl
      have HT : Hid (textF l = 0) := by
        rw [Hid, HW.out]
        have h := hok.out
        rw [List.take_length] at h
        exact wf_zero.2 h
      have HS := Lib.hid (textS_acc HT.out)
      rw [List.take_length] at hok hsz
      rw [List.take_length]
      clear hok
      go_wp2_with fail
      exact bodyPost_ret (v := .tuple #[.string (accS l), .int .i64 0]) (by simp [results, Tryd.results11, go_sem] <;> rfl) rfl ⟨by rw [HT.out, HS.out]; rfl, hbl⟩
end Go.Proofs.YtaepdbkfaoiimaaDoor
