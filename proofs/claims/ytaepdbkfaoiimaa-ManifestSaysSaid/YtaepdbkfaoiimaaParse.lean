/- The contracts of Parse and its reference. Conditions: none but the sizes of any memory. -/
import Derived.Test.YtaepdbkfaoiimaaEntry
import Derived.Test.YtaepdbkfaoiimaaMerge
import Derived.Deep.LoopGhost
set_option linter.unusedVariables false
set_option linter.unusedSimpArgs false
namespace Go.Proofs.Ytaepdbkfaoiimaa
open Go.RowKit

/-- A byte by its place; 0 behind the end. -/
def bt (s : ByteArray) (i : Nat) : Nat := (s.data.toList.getD i 0).toNat
/-- Does no entry lie at this place? -/
def badAt (s : ByteArray) (p : Nat) : Bool := decide (s.size < p + 3) || decide (1 < bt s p) || decide (s.size < p + 3 + bt s (p + 1) + bt s (p + 2))
def entAt (s : ByteArray) (p : Nat) : Ent := ⟨s.extract (p + 3) (p + 3 + bt s (p + 1)), s.extract (p + 3 + bt s (p + 1)) (p + 3 + bt s (p + 1) + bt s (p + 2)), decide (bt s p = 1)⟩
def pStep (s : ByteArray) : Option (List Ent × Nat) → Option (List Ent × Nat)
  | none => none
  | some (l, p) => if badAt s p || decide (faultE (entAt s p) ≠ 0) then none else some (l ++ [entAt s p], p + 3 + bt s (p + 1) + bt s (p + 2))
def pN (s : ByteArray) : Nat → Option (List Ent × Nat)
  | 0 => some ([], 1)
  | n + 1 => pStep s (pN s n)
def parseR (s : ByteArray) : Option (List Ent) :=
  if s.size = 0 then none else
  match pN s (bt s 0) with
  | none => none
  | some (l, p) => if (s.data.toList.drop p).all (· == 0) then some l else none
theorem pN_none {s : ByteArray} {i : Nat} (h : pN s i = none) : ∀ j, i ≤ j → pN s j = none := by
  intro j hj
  induction j with
  | zero => rw [← h]; congr 1; omega
  | succ j ih =>
    rcases Nat.lt_or_ge i (j + 1) with h1 | h1
    · rw [pN, ih (by omega)]; rfl
    · rw [← h]; congr 1; omega
theorem pN_le {s : ByteArray} (hs : 0 < s.size) : ∀ {i : Nat} {l : List Ent} {p : Nat}, pN s i = some (l, p) → 1 ≤ p ∧ p ≤ s.size ∧ l.length = i
  | 0, l, p, h => by simp [pN] at h; obtain ⟨rfl, rfl⟩ := h; simp; omega
  | i + 1, l, p, h => by
    rw [pN] at h
    cases hx : pN s i with
    | none => rw [hx] at h; cases h
    | some x =>
      obtain ⟨l', p'⟩ := x
      rw [hx, pStep] at h
      obtain ⟨h1, h2, h3⟩ := pN_le hs hx
      split at h
      · cases h
      · rename_i hb
        simp only [Option.some.injEq, Prod.mk.injEq] at h
        obtain ⟨rfl, rfl⟩ := h
        simp [badAt] at hb
        refine ⟨by omega, by omega, by simp [h3]⟩

theorem toList_nil (s : ByteArray) : s.toList = [] ↔ s.size = 0 := by
  have h1 : ByteArray.empty.toList = [] := by decide +kernel
  rw [← h1, toList_inj]
  constructor
  · rintro rfl; rfl
  · intro h; exact ByteArray.size_eq_zero_iff.1 h
theorem bt_lt (s : ByteArray) (i : Nat) : bt s i < 256 := UInt8.toNat_lt _
theorem bt_idx (s : ByteArray) (i : Nat) (h : i < s.size) : ((s[i]).toNat : Int) = (bt s i : Int) := by
  unfold bt
  rw [List.getD_eq_getElem?_getD, List.getElem?_eq_getElem (by simpa using h), Option.getD_some]
  rfl
theorem bt_wrap (s : ByteArray) (i : Nat) : wrap64 (bt s i : Int) = (bt s i : Int) := by
  have := bt_lt s i
  exact IntWalk.wrap64_in (bt s i : Int) (by omega)
theorem bt_extract (s : ByteArray) (p n i : Nat) (hn : n = s.size) : bt (s.extract p n) i = bt s (p + i) := by
  subst hn
  unfold bt
  congr 1
  rw [ByteArray.data_extract, List.getD_eq_getElem?_getD, List.getD_eq_getElem?_getD, Array.getElem?_toList, Array.getElem?_toList]
  congr 1
  rw [Array.getElem?_extract]
  split
  · rfl
  · rename_i h
    rw [Array.getElem?_eq_none]
    have : s.size = s.data.size := rfl
    omega
theorem size_extract_ (s : ByteArray) (p : Nat) : (s.extract p s.size).size = s.size - p := by rw [ByteArray.size_extract]; omega
theorem extract_extract_ (s : ByteArray) (p a b : Nat) (h : p + b ≤ s.size) : (s.extract p s.size).extract a b = s.extract (p + a) (p + b) := by
  rw [ByteArray.extract_extract]; congr 1; omega
theorem noughts_iff {s : ByteArray} {p : Nat} : (s.data.toList.drop p).all (· == 0) = true ↔ ∀ i, p ≤ i → i < s.size → bt s i = 0 := by
  have hsz : s.data.toList.length = s.size := Array.length_toList
  rw [List.all_eq_true]
  constructor
  · intro h i h1 h2
    have h3 : s.data.toList[i]? = some (s.data.toList[i]'(by omega)) := List.getElem?_eq_getElem _
    have h4 := h (s.data.toList[i]'(by omega)) (by
      rw [List.mem_iff_getElem?]
      exact ⟨i - p, by rw [List.getElem?_drop, show p + (i - p) = i by omega]; exact h3⟩)
    unfold bt
    rw [List.getD_eq_getElem?_getD, h3, Option.getD_some]
    simp at h4
    simp [h4]
  · intro h x hx
    obtain ⟨j, hj⟩ := List.getElem?_of_mem hx
    rw [List.getElem?_drop] at hj
    have hlt := (List.getElem?_eq_some_iff.1 hj).1
    have h1 := h (p + j) (by omega) (by omega)
    unfold bt at h1
    rw [List.getD_eq_getElem?_getD, hj, Option.getD_some] at h1
    simp
    exact UInt8.toNat_inj.1 (by simpa using h1)
theorem pN_ok {s : ByteArray} : ∀ {i : Nat} {l : List Ent} {p : Nat}, pN s i = some (l, p) → ∀ e ∈ l, EntOk e
  | 0, l, p, h => by simp [pN] at h; obtain ⟨rfl, rfl⟩ := h; intro e he; cases he
  | i + 1, l, p, h => by
    rw [pN] at h
    cases hx : pN s i with
    | none => rw [hx] at h; cases h
    | some x =>
      obtain ⟨l', p'⟩ := x
      rw [hx, pStep] at h
      split at h
      · cases h
      · rename_i hb
        simp only [Option.some.injEq, Prod.mk.injEq] at h
        obtain ⟨rfl, rfl⟩ := h
        intro e he
        rcases List.mem_append.1 he with he | he
        · exact pN_ok hx e he
        · simp at he
          subst he
          simp at hb
          have h2 := faultE_zero hb.2
          exact ⟨by omega, by omega⟩
/-- What is wrong with a page: 4: it can't be read; 0: nothing. -/
def perr (s : ByteArray) : Nat := if parseR s = none then 4 else 0
theorem own_lt {w : World} {base : Nat} {e : TypeId} {size : Nat} {v : Value} {n : Nat} {xs : List Value} (h : w.ownsRow base e size v n xs) : v.ownBlock ≠ some w.heap.size := by
  intro hk
  rcases h.2 with ⟨rfl, _⟩ | ⟨g, cap, cur, rfl, hg, hh, _⟩
  · simp [Value.ownBlock] at hk
  · simp [Value.ownBlock] at hk
    have := heap_lt hh
    omega
theorem own_below {w w' : World} {base : Nat} {e : TypeId} {size : Nat} {v : Value} {n : Nat} {xs : List Value} (h : w.ownsRow base e size v n xs) (hb : Below w.heap.size w w') : w'.ownsRow base e size v n xs := by
  refine ⟨h.1, ?_⟩
  rcases h.2 with hn | ⟨g, cap, cur, h1, hg, hh, hrest⟩
  · exact .inl hn
  · exact .inr ⟨g, cap, cur, h1, hg, (hb.block g (heap_lt hh)).trans hh, hrest⟩
attribute [local go_sem] bt_idx bt_wrap bt_extract
set_option maxHeartbeats 4000000 in
theorem parse_any (B : Nat) (s : ByteArray) (w : World) (hs : s.size ≤ 9223372036854775807) :
    Calls Try.prog 39 #[.string s] w fun d w' => ∃ v, d = .returned (.tuple #[v, errV (perr s)]) ∧ Ents B w' v ((parseR s).getD []) ∧ Below w.heap.size w w' := by
  by_cases h0 : s.size = 0
  · have he : (s.toList == []) = true := by rw [beq_iff_eq, toList_nil]; exact h0
    have hp : parseR s = none := by unfold parseR; rw [if_pos h0]
    have HP := Lib.hid hp
    clear hp
    go_enter Try.func39, Try.ntmps39
    go_wp2_with fail
    exact bodyPost_ret (v := .tuple #[.slice none 0 0, errV 4]) (by simp [results, Try.results39, go_sem] <;> rfl) rfl ⟨_, by rw [perr, HP.out]; rfl, by rw [HP.out]; exact ⟨Rd.nil _ _ _ _, by simp⟩, Below.refl _ _⟩
  have he : (s.toList == []) = false := by rw [beq_eq_false_iff_ne]; rw [Ne, toList_nil]; exact h0
  go_enter Try.func39, Try.ntmps39
  go_wp2_with fail
  simp only [bt_idx s 0 (by omega), bt_wrap]
  go_loopw [0, 5, 18] (fun t u x wr => ∃ (i p : Nat) (l : List Ent), x = .int .i64 (i : Int) ∧ i ≤ bt s 0 ∧ t = .string (s.extract p s.size) ∧ Hid (pN s i = some (l, p)) ∧ Hid (wr.ownsRow w.heap.size 35 3 u l.length (l.flatMap Ent.cells)) ∧ Below w.heap.size w wr) (fun _ _ x _ => bt s 0 - (intOf x).toNat)
  case atStart => exact ⟨0, 1, [], rfl, Nat.zero_le _, rfl, rfl, World.ownsRow_nil _ _ _ _, Below.refl _ _⟩
  case round =>
    obtain ⟨i, p, l, rfl, hi, rfl, hpn, hown, hbl⟩ := hrel
    obtain ⟨hp1, hp2, hll⟩ := pN_le (by omega) hpn.out
    obtain ⟨q, hq⟩ : ∃ q, s.size = p + q := ⟨s.size - p, by omega⟩
    have z0 : (s.extract p s.size).size = q := by rw [size_extract_]; omega
    have HQ := Lib.hid hq
    have hqm : q ≤ 9223372036854775807 := by omega
    have HOWN := Lib.hid hown.out
    have b256 := bt_lt s (p + 1)
    have b256' := bt_lt s (p + 2)
    clear hown
    by_cases hlt : i < bt s 0
    · by_cases hbad : badAt s p = true
      · have HN : Hid (parseR s = none) := by
          have h1 : pN s (i + 1) = none := by rw [pN, hpn.out, pStep, hbad]; rfl
          rw [Hid, parseR, if_neg h0, pN_none h1 (bt s 0) (by omega)]
        simp only [badAt, Bool.or_eq_true, decide_eq_true_eq] at hbad
        by_cases b1 : q < 3
        · have t1 : decide ((q : Int) < 3) = true := decide_eq_true (by omega)
          clear hbad hq
          go_wp2_with fail
          go_quiet (fail)
          go_wp2_with fail
          exact bodyPost_ret (v := .tuple #[.slice none 0 0, errV 4]) (by simp [results, Try.results39, go_sem] <;> rfl) rfl ⟨_, by rw [perr, HN.out]; rfl, by rw [HN.out]; exact ⟨Rd.nil _ _ _ _, by simp⟩, below_drewN' hbl _⟩
        have t1 : decide ((q : Int) < 3) = false := decide_eq_false (by omega)
        have i0 : 0 < q := by omega
        have i1 : (1 : Int) < (q : Int) := by omega
        have i2 : (2 : Int) < (q : Int) := by omega
        by_cases b2 : 1 < bt s p
        · have t2 : decide ((1 : Int) < (bt s p : Int)) = true := decide_eq_true (by omega)
          clear hbad hq
          go_wp2_with fail
          go_quiet (fail)
          go_wp2_with fail
          exact bodyPost_ret (v := .tuple #[.slice none 0 0, errV 4]) (by simp [results, Try.results39, go_sem] <;> rfl) rfl ⟨_, by rw [perr, HN.out]; rfl, by rw [HN.out]; exact ⟨Rd.nil _ _ _ _, by simp⟩, below_drewN' hbl _⟩
        have t2 : decide ((1 : Int) < (bt s p : Int)) = false := decide_eq_false (by omega)
        have t3 : decide ((q : Int) < 3 + (bt s (p + 1) : Int) + (bt s (p + 2) : Int)) = true := decide_eq_true (by omega)
        clear hbad hq
        go_wp2_with fail
        go_quiet (fail)
        go_wp2_with fail
        exact bodyPost_ret (v := .tuple #[.slice none 0 0, errV 4]) (by simp [results, Try.results39, go_sem] <;> rfl) rfl ⟨_, by rw [perr, HN.out]; rfl, by rw [HN.out]; exact ⟨Rd.nil _ _ _ _, by simp⟩, below_drewN' hbl _⟩
      · have hgood : badAt s p = false := by simpa using hbad
        have hst : Hid (pN s (i + 1) = if faultE (entAt s p) ≠ 0 then none else some (l ++ [entAt s p], p + 3 + bt s (p + 1) + bt s (p + 2))) := by
          rw [Hid, pN, hpn.out, pStep, hgood]; simp
        simp only [badAt, Bool.or_eq_false_iff, decide_eq_false_iff_not] at hgood
        have t1 : decide ((q : Int) < 3) = false := decide_eq_false (by omega)
        have i0 : 0 < q := by omega
        have i1 : (1 : Int) < (q : Int) := by omega
        have i2 : (2 : Int) < (q : Int) := by omega
        have t2 : decide ((1 : Int) < (bt s p : Int)) = false := decide_eq_false (by omega)
        have t3 : decide ((q : Int) < 3 + (bt s (p + 1) : Int) + (bt s (p + 2) : Int)) = false := decide_eq_false (by omega)
        have hq3 : 3 + bt s (p + 1) + bt s (p + 2) ≤ q := by omega
        have E1 : (s.extract p s.size).extract 3 (3 + bt s (p + 1)) = (entAt s p).k := by rw [extract_extract_ _ _ _ _ (by omega), ← Nat.add_assoc]; rfl
        have E2 : (s.extract p s.size).extract (3 + bt s (p + 1)) (3 + bt s (p + 1) + bt s (p + 2)) = (entAt s p).v := by rw [extract_extract_ _ _ _ _ (by omega)]; unfold entAt; simp only [Nat.add_assoc]
        have HE3 : Hid (((bt s p : Int) == 1) = (entAt s p).g) := by rw [Hid, Bool.eq_iff_iff]; simp [entAt]; omega
        have HE1 := Lib.hid E1
        have HE2 := Lib.hid E2
        clear hgood hbad hq E1 E2
        generalize hk1 : bt s (p + 1) = k1 at *
        generalize hv1 : bt s (p + 2) = v1 at *
        go_wp2_with fail
        go_quiet (fail)
        go_wp2_with fail
        have hnb := Blk.new (wr.drewN (nq + 1)) 35 #[.string ⟨#[]⟩, .string ⟨#[]⟩, .bool false]
        have k0 := hnb.cell 0
        have k1' := hnb.cell 1
        have k2 := hnb.cell 2
        have j0 := hnb.frozen 0
        have j1 := hnb.frozen 1
        have j2 := hnb.frozen 2
        simp at k0 k1' k2 j0 j1 j2
        clear hnb
        go_region
        rw [HE1.out, HE2.out, HE3.out]
        clear k0 k1' k2 j0 j1 j2 HE1 HE2 HE3
        have hb1 := below_drewN' hbl (nq + 1)
        have hb2 := (((hb1.alloc hb1.size (.cells #[.string ⟨#[]⟩, .string ⟨#[]⟩, .bool false] 35)).setCell (p := ⟨wr.heap.size, 0, none⟩) hbl.size (.string (entAt s p).k)).setCell (p := ⟨wr.heap.size, 1, none⟩) hbl.size (.string (entAt s p).v)).setCell (p := ⟨wr.heap.size, 2, none⟩) hbl.size (.bool (entAt s p).g)
        have hk2 : Blk (((((wr.drewN (nq + 1)).alloc (.cells #[.string ⟨#[]⟩, .string ⟨#[]⟩, .bool false] 35)).setCell ⟨wr.heap.size, 0, none⟩ (.string (entAt s p).k)).setCell ⟨wr.heap.size, 1, none⟩ (.string (entAt s p).v)).setCell ⟨wr.heap.size, 2, none⟩ (.bool (entAt s p).g)) wr.heap.size 35 #[.string (entAt s p).k, .string (entAt s p).v, .bool (entAt s p).g] := (((Blk.new (wr.drewN (nq + 1)) _ _).set_ 0 _).set_ 1 _).set_ 2 _
        have ho2 : (((((wr.drewN (nq + 1)).alloc (.cells #[.string ⟨#[]⟩, .string ⟨#[]⟩, .bool false] 35)).setCell ⟨wr.heap.size, 0, none⟩ (.string (entAt s p).k)).setCell ⟨wr.heap.size, 1, none⟩ (.string (entAt s p).v)).setCell ⟨wr.heap.size, 2, none⟩ (.bool (entAt s p).g)).ownsRow w.heap.size 35 3 u5 l.length (l.flatMap Ent.cells) := by
          have h1 := own_lt HOWN.out
          exact ownsRow_setCell_other (ownsRow_setCell_other (ownsRow_setCell_other (own_alloc (own_drewN HOWN.out (nq + 1)) _) (a := ⟨wr.heap.size, 0, none⟩) h1 _) (a := ⟨wr.heap.size, 1, none⟩) h1 _) (a := ⟨wr.heap.size, 2, none⟩) h1 _
        generalize (((((wr.drewN (nq + 1)).alloc (.cells #[.string ⟨#[]⟩, .string ⟨#[]⟩, .bool false] 35)).setCell ⟨wr.heap.size, 0, none⟩ (.string (entAt s p).k)).setCell ⟨wr.heap.size, 1, none⟩ (.string (entAt s p).v)).setCell ⟨wr.heap.size, 2, none⟩ (.bool (entAt s p).g)) = w3 at *
        generalize hb : wr.heap.size = nb at *
        have HO2 := Lib.hid ho2
        have HB2 := Lib.hid hb2
        have HK2 := Lib.hid hk2
        have e0 := hk2.cell 0
        have e1 := hk2.cell 1
        have e2 := hk2.cell 2
        simp at e0 e1 e2
        clear ho2 hb2 hk2 hb1 HOWN
        generalize hy : entAt s p = y at *
        go_wp2_with fail
        refine (check_any y _).mono ?_
        rintro d w4 ⟨rfl, hb4⟩
        have HB4 := Lib.hid (HB2.out.trans (hb4.mono HB2.out.size))
        have HO4 := Lib.hid (own_below HO2.out hb4)
        have hk4 := HK2.out.below hb4 HK2.out.lt
        have f0 := hk4.cell 0
        have f1 := hk4.cell 1
        have f2 := hk4.cell 2
        simp at f0 f1 f2
        clear e0 e1 e2 HO2 HB2 HK2 hb4 hk4
        by_cases hf : faultE y = 0
        · have he : errV (faultE y) = .nilIface := by rw [hf]; rfl
          rw [he]
          have hst2 : Hid (pN s (i + 1) = some (l ++ [y], p + 3 + k1 + v1)) := by rw [Hid, hst.out, if_neg (by simp [hf])]
          have h256 := bt_lt s 0
          have hlen : l.length ≤ 1000000 := by omega
          have HF := Lib.hid hf
          clear he hst hf
          have hbs := HB4.out.size
          obtain ⟨i0', hi', hz0, hz1, hz2⟩ := info_parts info_entry
          have hownA := Lib.hid (own_alloc HO4.out (.cells #[.string y.k, .string y.v, .bool y.g] 35))
          have hbA := Lib.hid (HB4.out.alloc HB4.out.size (.cells #[.string y.k, .string y.v, .bool y.g] 35))
          go_wp2_with (at_builtin; go_loud (refine wpList_append_rd _ rfl (.tmp 65) (.tmp 67) 32 rfl w.heap.size 35 i0' _ 3 40 Try.underlying32 hi' hz0 hz1 hz2 rfl (by decide) u5 _ _ rfl hownA.out B 35 _ 1 _ rfl (rd_lit3 _ _ _ rfl _ _ _) (ent_one3 _ _ _) (by unfold maxLen; omega) (by omega) (by simp; omega) ?_); intro v1' w5 hown1 hg1 hat1)
          have hown2 : w5.ownsRow w.heap.size 35 3 v1' (l ++ [y]).length ((l ++ [y]).flatMap Ent.cells) := by simpa [Ent.cells] using hown1
          have hb5 := below_own hbA.out (Nat.le_refl _) hownA.out hg1
          clear hi' hz0 hz1 hz2 hg1 hat1 hown1
          go_roundw
          case rel => exact ⟨i + 1, p + 3 + k1 + v1, l ++ [y], by simp, by omega, by rw [extract_extract_ _ _ _ _ (by have := HQ.out; omega), ← HQ.out, Nat.add_assoc p 3, Nat.add_assoc p (3 + k1)], hst2, hown2, hb5⟩
          case measure => simp [intOf] <;> omega
        · have HN : Hid (parseR s = none) := by
            have h1 : pN s (i + 1) = none := by rw [hst.out, if_pos hf]
            rw [Hid, parseR, if_neg h0, pN_none h1 (bt s 0) (by omega)]
          have he : errV (faultE y) = .iface 137 (.int .i64 (faultE y)) := by unfold errV; rw [if_neg hf]
          rw [he]
          clear he hst hf
          go_wp2_with fail
          exact bodyPost_ret (v := .tuple #[.slice none 0 0, errV 4]) (by simp [results, Try.results39, go_sem] <;> rfl) rfl ⟨_, by rw [perr, HN.out]; rfl, by rw [HN.out]; exact ⟨Rd.nil _ _ _ _, by simp⟩, HB4.out⟩
    · have hib : i = bt s 0 := by omega
      subst hib
      have HPR : Hid (parseR s = if (s.data.toList.drop p).all (· == 0) then some l else none) := by rw [Hid, parseR, if_neg h0, hpn.out]
      clear hq
      go_wp2_with fail
      go_loop [79] (fun x => ∃ j : Nat, x = .int .i64 (j : Int) ∧ j ≤ q ∧ Hid (∀ j', j' < j → bt s (p + j') = 0)) (fun x => q - (intOf x).toNat)
      case atStart => exact ⟨0, rfl, Nat.zero_le _, fun j' h => by omega⟩
      case round =>
        obtain ⟨j, rfl, hj, hz⟩ := hrel
        by_cases hjq : j < q
        · have g1 : (0 : Int) ≤ (j : Int) := by omega
          have g2 : (j : Int) < (q : Int) := by omega
          by_cases hb : bt s (p + j) = 0
          · have HZ2 : Hid (∀ j', j' < j + 1 → bt s (p + j') = 0) := fun j' h => by
              by_cases h1 : j' = j
              · subst h1; exact hb
              · exact hz.out j' (by omega)
            go_wp2_with fail
            go_round
            case rel => exact ⟨j + 1, by go_num, by omega, HZ2⟩
            case measure => simp [intOf] <;> omega
          · have HN : Hid (parseR s = none) := by
              rw [Hid, HPR.out, if_neg]
              intro h
              exact hb (noughts_iff.1 h (p + j) (by omega) (by have := HQ.out; omega))
            have hb2 : ((bt s (p + j) : Int) == 0) = false := by simp; omega
            go_wp2_with fail
            exact bodyPost_ret (v := .tuple #[.slice none 0 0, errV 4]) (by simp [results, Try.results39, go_sem] <;> rfl) rfl ⟨_, by rw [perr, HN.out]; rfl, by rw [HN.out]; exact ⟨Rd.nil _ _ _ _, by simp⟩, hbl⟩
        · have HS : Hid (parseR s = some l) := by
            rw [Hid, HPR.out, if_pos]
            exact noughts_iff.2 fun i h1 h2 => by
              have := hz.out (i - p) (by have := HQ.out; omega)
              rwa [show p + (i - p) = i by omega] at this
          go_wp2_with fail
          have hok : ∀ e ∈ l, EntOk e := pN_ok hpn.out
          exact bodyPost_ret (v := .tuple #[u5, .nilIface]) (by simp [results, Try.results39, go_sem] <;> rfl) rfl ⟨_, by rw [perr, HS.out]; rfl, by rw [HS.out]; exact ⟨Rd.of_own HOWN.out, hok⟩, hbl⟩

set_option maxHeartbeats 8000000 in
theorem entriesOf_any (B : Nat) (s : ByteArray) (w : World) (hs : s.size ≤ 9223372036854775000) :
    Calls Try.prog 40 #[.string s] w fun d w' => ∃ v, d = .returned (.tuple #[v, .int .i64 (perr s)]) ∧ Ents B w' v ((parseR s).getD []) ∧ Below w.heap.size w w' := by
  by_cases h0 : s.size = 0
  · have he : (s.toList == []) = true := by rw [beq_iff_eq, toList_nil]; exact h0
    have hp : parseR s = none := by unfold parseR; rw [if_pos h0]
    have HP := Lib.hid hp
    clear hp
    go_enter Try.func40, Try.ntmps40
    go_wp2_with fail
    exact bodyPost_ret (v := .tuple #[.slice none 0 0, .int .i64 4]) (by simp [results, Try.results40, go_sem] <;> rfl) rfl ⟨_, by rw [perr, HP.out]; rfl, by rw [HP.out]; exact ⟨Rd.nil _ _ _ _, by simp⟩, Below.refl _ _⟩
  have he : (s.toList == []) = false := by rw [beq_eq_false_iff_ne]; rw [Ne, toList_nil]; exact h0
  go_enter Try.func40, Try.ntmps40
  go_wp2_with fail
  go_loopw [4, 5, 6] (fun t u x wr => ∃ (i p : Nat) (l : List Ent), x = .int .i64 (i : Int) ∧ i ≤ bt s 0 ∧ t = .int .i64 (p : Int) ∧ Hid (pN s i = some (l, p)) ∧ Hid (wr.ownsRow w.heap.size 35 3 u l.length (l.flatMap Ent.cells)) ∧ Below w.heap.size w wr) (fun _ _ x _ => bt s 0 - (intOf x).toNat)
  case atStart => exact ⟨0, 1, [], rfl, Nat.zero_le _, rfl, rfl, World.ownsRow_nil _ _ _ _, Below.refl _ _⟩
  case round =>
    obtain ⟨i, p, l, rfl, hi, rfl, hpn, hown, hbl⟩ := hrel
    obtain ⟨hp1, hp2, hll⟩ := pN_le (by omega) hpn.out
    have b256 := bt_lt s (p + 1)
    have b256' := bt_lt s (p + 2)
    have i00 : 0 < s.size := by omega
    by_cases hlt : i < bt s 0
    · by_cases hbad : badAt s p = true
      · have HN : Hid (parseR s = none) := by
          have h1 : pN s (i + 1) = none := by rw [pN, hpn.out, pStep, hbad]; rfl
          rw [Hid, parseR, if_neg h0, pN_none h1 (bt s 0) (by omega)]
        simp only [badAt, Bool.or_eq_true, decide_eq_true_eq] at hbad
        by_cases b1 : s.size < p + 3
        · have t1 : decide ((s.size : Int) < (p : Int) + 3) = true := decide_eq_true (by omega)
          clear hbad
          go_wp2_with fail
          exact bodyPost_ret (v := .tuple #[.slice none 0 0, .int .i64 4]) (by simp [results, Try.results40, go_sem] <;> rfl) rfl ⟨_, by rw [perr, HN.out]; rfl, by rw [HN.out]; exact ⟨Rd.nil _ _ _ _, by simp⟩, hbl⟩
        have t1 : decide ((s.size : Int) < (p : Int) + 3) = false := decide_eq_false (by omega)
        have i0 : (p : Int) < (s.size : Int) := by omega
        have i1 : (p : Int) + 1 < (s.size : Int) := by omega
        have i2 : (p : Int) + 2 < (s.size : Int) := by omega
        have j0 : (0 : Int) ≤ (p : Int) := by omega
        have j1 : (0 : Int) ≤ (p : Int) + 1 := by omega
        have j2 : (0 : Int) ≤ (p : Int) + 2 := by omega
        have n1 : ((p : Int) + 1).toNat = p + 1 := by omega
        have n2 : ((p : Int) + 2).toNat = p + 2 := by omega
        by_cases b2 : 1 < bt s p
        · have t2 : decide ((1 : Int) < (bt s p : Int)) = true := decide_eq_true (by omega)
          clear hbad
          go_wp2_with fail
          exact bodyPost_ret (v := .tuple #[.slice none 0 0, .int .i64 4]) (by simp [results, Try.results40, go_sem] <;> rfl) rfl ⟨_, by rw [perr, HN.out]; rfl, by rw [HN.out]; exact ⟨Rd.nil _ _ _ _, by simp⟩, hbl⟩
        have t2 : decide ((1 : Int) < (bt s p : Int)) = false := decide_eq_false (by omega)
        have t3 : decide ((s.size : Int) < (p : Int) + 3 + (bt s (p + 1) : Int) + (bt s (p + 2) : Int)) = true := decide_eq_true (by omega)
        clear hbad
        go_wp2_with fail
        exact bodyPost_ret (v := .tuple #[.slice none 0 0, .int .i64 4]) (by simp [results, Try.results40, go_sem] <;> rfl) rfl ⟨_, by rw [perr, HN.out]; rfl, by rw [HN.out]; exact ⟨Rd.nil _ _ _ _, by simp⟩, hbl⟩
      · have hgood : badAt s p = false := by simpa using hbad
        have hst : Hid (pN s (i + 1) = if faultE (entAt s p) ≠ 0 then none else some (l ++ [entAt s p], p + 3 + bt s (p + 1) + bt s (p + 2))) := by
          rw [Hid, pN, hpn.out, pStep, hgood]; simp
        simp only [badAt, Bool.or_eq_false_iff, decide_eq_false_iff_not] at hgood
        have t1 : decide ((s.size : Int) < (p : Int) + 3) = false := decide_eq_false (by omega)
        have i0 : (p : Int) < (s.size : Int) := by omega
        have i1 : (p : Int) + 1 < (s.size : Int) := by omega
        have i2 : (p : Int) + 2 < (s.size : Int) := by omega
        have j0 : (0 : Int) ≤ (p : Int) := by omega
        have j1 : (0 : Int) ≤ (p : Int) + 1 := by omega
        have j2 : (0 : Int) ≤ (p : Int) + 2 := by omega
        have n1 : ((p : Int) + 1).toNat = p + 1 := by omega
        have n2 : ((p : Int) + 2).toNat = p + 2 := by omega
        have t2 : decide ((1 : Int) < (bt s p : Int)) = false := decide_eq_false (by omega)
        have t3 : decide ((s.size : Int) < (p : Int) + 3 + (bt s (p + 1) : Int) + (bt s (p + 2) : Int)) = false := decide_eq_false (by omega)
        have hq3 : p + 3 + bt s (p + 1) + bt s (p + 2) ≤ s.size := by omega
        have E1 : s.extract (p + 3) (p + 3 + bt s (p + 1)) = (entAt s p).k := rfl
        have E2 : s.extract (p + 3 + bt s (p + 1)) (p + 3 + bt s (p + 1) + bt s (p + 2)) = (entAt s p).v := rfl
        have HE3 : Hid (((bt s p : Int) == 1) = (entAt s p).g) := by rw [Hid, Bool.eq_iff_iff]; simp [entAt]; omega
        have HE1 := Lib.hid E1
        have HE2 := Lib.hid E2
        clear hgood hbad E1 E2
        generalize hk1 : bt s (p + 1) = k1 at *
        generalize hv1 : bt s (p + 2) = v1 at *
        go_wp2_with fail
        have hnb := Blk.new wr.drew 35 #[.string ⟨#[]⟩, .string ⟨#[]⟩, .bool false]
        have k0 := hnb.cell 0
        have k1' := hnb.cell 1
        have k2 := hnb.cell 2
        have y0 := hnb.frozen 0
        have y1 := hnb.frozen 1
        have y2 := hnb.frozen 2
        simp at k0 k1' k2 y0 y1 y2
        clear hnb
        go_region
        rw [HE1.out, HE2.out, HE3.out]
        clear k0 k1' k2 y0 y1 y2 HE1 HE2 HE3
        have hb2 := (hbl.alloc hbl.size (.cells #[.string (entAt s p).k, .string (entAt s p).v, .bool (entAt s p).g] 35)).drew
        have hk2 := (Blk.new wr 35 #[.string (entAt s p).k, .string (entAt s p).v, .bool (entAt s p).g])
        have hk3 : Blk (wr.alloc (.cells #[.string (entAt s p).k, .string (entAt s p).v, .bool (entAt s p).g] 35)).drew wr.heap.size 35 #[.string (entAt s p).k, .string (entAt s p).v, .bool (entAt s p).g] := hk2
        have ho2 := World.ownsRow.drew (own_alloc hown.out (.cells #[.string (entAt s p).k, .string (entAt s p).v, .bool (entAt s p).g] 35))
        generalize (wr.alloc (.cells #[.string (entAt s p).k, .string (entAt s p).v, .bool (entAt s p).g] 35)).drew = w3 at *
        generalize hb : wr.heap.size = nb at *
        have HO2 := Lib.hid ho2
        have HB2 := Lib.hid hb2
        have HK2 := Lib.hid hk3
        have e0 := hk3.cell 0
        have e1 := hk3.cell 1
        have e2 := hk3.cell 2
        simp at e0 e1 e2
        clear ho2 hb2 hk2 hk3
        generalize hy : entAt s p = y at *
        go_wp2_with fail
        refine (rfault_any y _).mono ?_
        rintro d w4 ⟨rfl, hb4⟩
        have HB4 := Lib.hid (HB2.out.trans (hb4.mono HB2.out.size))
        have HO4 := Lib.hid (own_below HO2.out hb4)
        have hk4 := HK2.out.below hb4 HK2.out.lt
        have f0 := hk4.cell 0
        have f1 := hk4.cell 1
        have f2 := hk4.cell 2
        simp at f0 f1 f2
        clear e0 e1 e2 HO2 HB2 HK2 hb4 hk4
        by_cases hf : faultE y = 0
        · have he : (faultE y : Int) = 0 := by omega
          rw [he]
          have hst2 : Hid (pN s (i + 1) = some (l ++ [y], p + 3 + k1 + v1)) := by rw [Hid, hst.out, if_neg (by simp [hf])]
          have h256 := bt_lt s 0
          have hlen : l.length ≤ 1000000 := by omega
          clear he hst hf
          have hbs := HB4.out.size
          obtain ⟨i0', hi', hz0, hz1, hz2⟩ := info_parts info_entry
          have hownA := Lib.hid (own_alloc HO4.out (.cells #[.string y.k, .string y.v, .bool y.g] 35))
          have hbA := Lib.hid (HB4.out.alloc HB4.out.size (.cells #[.string y.k, .string y.v, .bool y.g] 35))
          go_wp2_with (at_builtin; go_loud (refine wpList_append_rd _ rfl (.tmp 67) (.tmp 69) 32 rfl w.heap.size 35 i0' _ 3 40 Try.underlying32 hi' hz0 hz1 hz2 rfl (by decide) u5 _ _ rfl hownA.out B 35 _ 1 _ rfl (rd_lit3 _ _ _ rfl _ _ _) (ent_one3 _ _ _) (by unfold maxLen; omega) (by omega) (by simp; omega) ?_); intro v1' w5 hown1 hg1 hat1)
          have hown2 : w5.ownsRow w.heap.size 35 3 v1' (l ++ [y]).length ((l ++ [y]).flatMap Ent.cells) := by simpa [Ent.cells] using hown1
          have hb5 := below_own hbA.out (Nat.le_refl _) hownA.out hg1
          clear hi' hz0 hz1 hz2 hg1 hat1 hown1
          go_roundw
          case rel => exact ⟨i + 1, p + 3 + k1 + v1, l ++ [y], by simp, by omega, by simp, hst2, hown2, hb5⟩
          case measure => simp [intOf] <;> omega
        · have HN : Hid (parseR s = none) := by
            have h1 : pN s (i + 1) = none := by rw [hst.out, if_pos hf]
            rw [Hid, parseR, if_neg h0, pN_none h1 (bt s 0) (by omega)]
          have hp : (0 : Int) < (faultE y : Int) := by omega
          clear hst hf
          go_wp2_with fail
          exact bodyPost_ret (v := .tuple #[.slice none 0 0, .int .i64 4]) (by simp [results, Try.results40, go_sem] <;> rfl) rfl ⟨_, by rw [perr, HN.out]; rfl, by rw [HN.out]; exact ⟨Rd.nil _ _ _ _, by simp⟩, HB4.out⟩
    · have hib : i = bt s 0 := by omega
      subst hib
      have HPR : Hid (parseR s = if (s.data.toList.drop p).all (· == 0) then some l else none) := by rw [Hid, parseR, if_neg h0, hpn.out]
      go_wp2_with fail
      go_loop [10] (fun x => ∃ j : Nat, x = .int .i64 (j : Int) ∧ p ≤ j ∧ j ≤ s.size ∧ Hid (∀ j', p ≤ j' → j' < j → bt s j' = 0)) (fun x => s.size - (intOf x).toNat)
      case atStart => exact ⟨p, rfl, Nat.le_refl _, hp2, fun j' h h' => by omega⟩
      case round =>
        obtain ⟨j, rfl, hj0, hj, hz⟩ := hrel
        by_cases hjq : j < s.size
        · have g1 : (0 : Int) ≤ (j : Int) := by omega
          have g2 : (j : Int) < (s.size : Int) := by omega
          by_cases hb : bt s j = 0
          · have HZ2 : Hid (∀ j', p ≤ j' → j' < j + 1 → bt s j' = 0) := fun j' h0 h => by
              by_cases h1 : j' = j
              · subst h1; exact hb
              · exact hz.out j' h0 (by omega)
            go_wp2_with fail
            go_round
            case rel => exact ⟨j + 1, by go_num, by omega, by omega, HZ2⟩
            case measure => simp [intOf] <;> omega
          · have HN : Hid (parseR s = none) := by
              rw [Hid, HPR.out, if_neg]
              intro h
              exact hb (noughts_iff.1 h j hj0 hjq)
            have hb2 : ((bt s j : Int) == 0) = false := by simp; omega
            go_wp2_with fail
            exact bodyPost_ret (v := .tuple #[.slice none 0 0, .int .i64 4]) (by simp [results, Try.results40, go_sem] <;> rfl) rfl ⟨_, by rw [perr, HN.out]; rfl, by rw [HN.out]; exact ⟨Rd.nil _ _ _ _, by simp⟩, hbl⟩
        · have HS : Hid (parseR s = some l) := by
            rw [Hid, HPR.out, if_pos]
            exact noughts_iff.2 fun i h1 h2 => hz.out i h1 (by omega)
          go_wp2_with fail
          have hok : ∀ e ∈ l, EntOk e := pN_ok hpn.out
          exact bodyPost_ret (v := .tuple #[u5, .int .i64 0]) (by simp [results, Try.results40, go_sem] <;> rfl) rfl ⟨_, by rw [perr, HS.out]; rfl, by rw [HS.out]; exact ⟨Rd.of_own hown.out, hok⟩, hbl⟩
end Go.Proofs.Ytaepdbkfaoiimaa
