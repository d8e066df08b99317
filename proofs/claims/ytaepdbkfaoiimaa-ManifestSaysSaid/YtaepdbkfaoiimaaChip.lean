/- The contracts of package chip: what its functions do is what the plain model does. Conditions: none but the sizes of any memory. -/
import Derived.Test.YtaepdbkfaoiimaaChipR
set_option linter.unusedVariables false
set_option linter.unusedSimpArgs false
namespace Go.Proofs.Ytaepdbkfaoiimaa
open Go.RowKit

/-! ### the small ones -/
theorem next_any (B p : Nat) (c : Chip) (b : Int) (w : World) (h : ChipR B w p c) (h0 : 0 ≤ b) (h1 : b < 24) :
    Calls Try.prog 86 #[.pointer (some ⟨p, 0, none⟩), .int .i64 b] w fun e w' => e = .returned (.int .i64 (c.b b.toNat).l.length) ∧ w = w' := by
  obtain ⟨V, u, hv, _, _⟩ := h
  obtain ⟨n, rfl⟩ := Int.eq_ofNat_of_zero_le h0
  have hn : n < 24 := by omega
  have hc := (hv.cell hn).1
  have hr := hv.rows n hn
  rw [Int.toNat_natCast]
  obtain ⟨_, A, cap, h2, h3, h4, _⟩ := hr
  rw [h2] at hc
  clear h2 hv
  go_enter Try.func86, Try.ntmps86
  go_wp2_with fail
  go_ret
  exact ⟨rfl, rfl⟩
theorem bad_any (B p : Nat) (c : Chip) (b : Int) (w : World) (h : ChipR B w p c) (h0 : 0 ≤ b) (h1 : b < 24) :
    Calls Try.prog 81 #[.pointer (some ⟨p, 0, none⟩), .int .i64 b] w fun e w' => e = .returned (.bool (c.b b.toNat).bad) ∧ w = w' := by
  obtain ⟨V, u, hv, _, _⟩ := h
  obtain ⟨n, rfl⟩ := Int.eq_ofNat_of_zero_le h0
  have hc := (hv.cell (b := n) (by omega)).2.2.2
  rw [Int.toNat_natCast]
  clear hv
  go_enter Try.func81, Try.ntmps81
  go_wp2_with fail
  go_ret
  exact ⟨rfl, rfl⟩
theorem wear_any (B p : Nat) (c : Chip) (b : Int) (w : World) (h : ChipR B w p c) (h0 : 0 ≤ b) (h1 : b < 24) :
    Calls Try.prog 82 #[.pointer (some ⟨p, 0, none⟩), .int .i64 b] w fun e w' => e = .returned (.int .i64 (c.b b.toNat).wear) ∧ w = w' := by
  obtain ⟨V, u, hv, _, _⟩ := h
  obtain ⟨n, rfl⟩ := Int.eq_ofNat_of_zero_le h0
  have hc := (hv.cell (b := n) (by omega)).2.1
  rw [Int.toNat_natCast]
  clear hv
  go_enter Try.func82, Try.ntmps82
  go_wp2_with fail
  go_ret
  exact ⟨rfl, rfl⟩
theorem down_any (B p : Nat) (c : Chip) (w : World) (h : ChipR B w p c) :
    Calls Try.prog 97 #[.pointer (some ⟨p, 0, none⟩)] w fun e w' => e = .returned (.bool c.down) ∧ w = w' := by
  obtain ⟨V, u, hv, _, _⟩ := h
  have hc := hv.tail.2.1
  clear hv
  go_enter Try.func97, Try.ntmps97
  go_wp2_with fail
  go_ret
  exact ⟨rfl, rfl⟩
theorem cnew_any (B : Nat) (w : World) (hB : B ≤ w.heap.size) :
    Calls Try.prog 43 #[] w fun e w' => ∃ p, e = .returned (.pointer (some ⟨p, 0, none⟩)) ∧ w.heap.size ≤ p ∧ ChipR B w' p Chip.new ∧ Below w.heap.size w w' := by
  go_enter Try.func43, Try.ntmps43
  go_wp2_with fail
  go_ret
  refine ⟨w.heap.size, rfl, Nat.le_refl _, ⟨fun _ => .slice none 0 0, .nilFunc, ⟨?_, fun b hb => Rd.nil _ _ _ _, hB⟩, rfl, CWf.new⟩, (Below.refl _ _).alloc (Nat.le_refl _) _⟩
  have h := Blk.new w 145 (chipL (fun _ => .slice none 0 0) Chip.new .nilFunc).toArray
  exact h
theorem arm_any (B p : Nat) (c : Chip) (n : Int) (w : World) (h : ChipR B w p c) (hn : n ≤ 9223372036854775807) :
    Calls Try.prog 51 #[.pointer (some ⟨p, 0, none⟩), .int .i64 n] w fun e w' => e = .returned (.tuple #[]) ∧ ChipR B w' p (c.arm n) ∧ Fr B (· = p) w w' := by
  obtain ⟨V, u, hv, hu, hwf⟩ := h
  have hc := hv.tail.1
  have hfz := hv.blk.frozen 96
  have HV := Lib.hid hv
  have HU := Lib.hid hu
  have HW := Lib.hid hwf
  clear hv hu hwf
  go_enter Try.func51, Try.ntmps51
  go_wp2_with fail
  all_goals
    go_end0
    have e : (c.arm n).fuse = max n (-1) := rfl
    refine ⟨rfl, ⟨V, u, HV.out.setT (c' := c.arm n) (j := 0) (by omega) rfl ?_, HU.out.keep (fr_chip (Fr.refl B _ w) HV.out _ _ HV.out.mut), HW.out.arm_ hn⟩, fr_chip (Fr.refl B _ w) HV.out _ _ HV.out.mut⟩
    rw [e]
    show [Value.int .i64 (max n (-1)), _, _] = _
    congr 2
    omega
theorem UndoR.weaken {w : World} {p : Nat} {c : Chip} {u : Value} {o : Option Pend} (h : UndoR w p c u o) (b : Int) : UndoR w p (c.weaken b).1 u o := by
  refine h.like fun i => ?_
  unfold Chip.weaken
  split
  · rfl
  · simp only [Chip.set]; split <;> simp_all
theorem weaken_any (B p : Nat) (c : Chip) (b : Int) (w : World) (h : ChipR B w p c) :
    Calls Try.prog 49 #[.pointer (some ⟨p, 0, none⟩), .int .i64 b] w fun e w' => e = .returned (errV (c.weaken b).2) ∧ ChipR B w' p (c.weaken b).1 ∧ Fr B (· = p) w w' := by
  by_cases hb : b < 2 ∨ 24 ≤ b
  · have e : c.weaken b = (c, 1) := if_pos hb
    rw [e]
    have HR := Lib.hid h
    clear h e
    rcases hb with hb | hb
    · go_enter Try.func49, Try.ntmps49
      go_wp2_with fail
      go_ret
      exact ⟨rfl, HR.out, Fr.refl _ _ _⟩
    · have hb2 : ¬ b < 2 := by omega
      go_enter Try.func49, Try.ntmps49
      go_wp2_with fail
      go_ret
      exact ⟨rfl, HR.out, Fr.refl _ _ _⟩
  · have e : c.weaken b = (c.set b.toNat { c.b b.toNat with weak := true }, 0) := if_neg hb
    obtain ⟨V, u, hv, hu, hwf⟩ := h
    have hu' := hu.weaken b
    have hw' := hwf.weaken_ b
    rw [e] at hu' hw' ⊢
    obtain ⟨n, rfl⟩ := Int.eq_ofNat_of_zero_le (show 0 ≤ b by omega)
    have hn : n < 24 := by omega
    have hn2 : ¬ ((n : Int) < 2) := by omega
    have hn3 : ¬ (24 ≤ (n : Int)) := by omega
    rw [Int.toNat_natCast] at *
    have hc := (hv.cell hn).2.2.1
    have hfz := hv.blk.frozen (n * 4 + 2)
    have HV := Lib.hid hv
    have HU := Lib.hid hu'
    have HW := Lib.hid hw'
    clear hv hu hwf hu' hw' e hb
    go_enter Try.func49, Try.ntmps49
    go_wp2_with fail
    go_ret
    refine ⟨rfl, ⟨V, u, HV.out.set_ (c' := c.set n { c.b n with weak := true }) (b := n) (j := 2) hn (by omega) (fun i hi hne => ?_) ?_ ⟨rfl, rfl⟩ (fun b hb => ?_), HU.out.keep (fr_chip (Fr.refl B _ w) HV.out _ _ HV.out.mut), HW.out⟩, fr_chip (Fr.refl B _ w) HV.out _ _ HV.out.mut⟩
    · simp only [blkL]; rw [Chip.set_far _ _ hne]
    · simp only [blkL, Chip.set_same, List.set_cons_succ, List.set_cons_zero]
    · have := HV.out.rows b hb
      by_cases hbn : b = n
      · subst hbn; rw [Chip.set_same]; exact this
      · rw [Chip.set_far _ _ hbn]; exact this
theorem ready_any (B p : Nat) (c : Chip) (b : Int) (w : World) (h : ChipR B w p c) :
    Calls Try.prog 87 #[.pointer (some ⟨p, 0, none⟩), .int .i64 b] w fun e w' => e = .returned (errV (c.ready b)) ∧ w = w' := by
  obtain ⟨V, u, hv, _, _⟩ := h
  have hd := hv.tail.2.1
  cases hdn : c.down
  · rw [hdn] at hd
    by_cases hb : b < 0 ∨ 24 ≤ b
    · have e : c.ready b = 1 := by unfold Chip.ready; rw [hdn, if_neg (by simp), if_pos hb]
      rw [e]
      clear hv e hdn
      rcases hb with hb | hb
      · go_enter Try.func87, Try.ntmps87
        go_wp2_with fail
        go_ret
        exact ⟨rfl, rfl⟩
      · have hb2 : ¬ b < 0 := by omega
        go_enter Try.func87, Try.ntmps87
        go_wp2_with fail
        go_ret
        exact ⟨rfl, rfl⟩
    · obtain ⟨n, rfl⟩ := Int.eq_ofNat_of_zero_le (show 0 ≤ b by omega)
      have hn : n < 24 := by omega
      have hc := (hv.cell hn).2.2.2
      have hn2 : ¬ ((n : Int) < 0) := by omega
      have hn3 : ¬ (24 ≤ (n : Int)) := by omega
      have hn4 : decide (24 ≤ (n : Int)) = false := by simpa using hn3
      have e : c.ready n = if (c.b n).bad then 7 else 0 := by unfold Chip.ready; rw [hdn, if_neg (by simp), if_neg hb, Int.toNat_natCast]
      rw [e]
      clear hv e hdn hb
      cases hbd : (c.b n).bad <;> rw [hbd] at hc <;> clear hbd
      all_goals
        go_enter Try.func87, Try.ntmps87
        go_wp2_with fail
        go_ret
        exact ⟨rfl, rfl⟩
  · rw [hdn] at hd
    have e : c.ready b = 9 := by unfold Chip.ready; rw [hdn, if_pos rfl]
    rw [e]
    clear hv e hdn
    go_enter Try.func87, Try.ntmps87
    go_wp2_with fail
    go_ret
    exact ⟨rfl, rfl⟩
theorem Chip.spoil_len (c : Chip) (n i : Nat) : ((c.spoil n).b i).l = (c.b i).l := by
  unfold Chip.spoil
  split
  · simp only [Chip.set]; split <;> simp_all
  · rfl
theorem spoil_any (B p : Nat) (c : Chip) (n : Nat) (w : World) (h : ChipR B w p c) (hn : n < 24) (hd : c.down = false) (hbad : (c.b n).bad = false) :
    Calls Try.prog 88 #[.pointer (some ⟨p, 0, none⟩), .int .i64 n] w fun e w' => e = .returned (.bool (c.b n).weak) ∧ ChipR B w' p (c.spoil n) ∧ Fr B (· = p) w w' := by
  have hwf' := h.wf.spoil_ n hd
  have hlen := Chip.spoil_len c n
  obtain ⟨V, u, hv, hu, hwf⟩ := h
  have hc1 := (hv.cell hn).2.2.1
  have hc2 := (hv.cell hn).2.2.2
  have hfz := hv.blk.frozen (n * 4 + 3)
  rw [hbad] at hc2
  have HV := Lib.hid hv
  have hu' : UndoR w p (c.spoil n) u (c.spoil n).pend := by
    have e : (c.spoil n).pend = c.pend := by unfold Chip.spoil; split <;> rfl
    rw [e]
    exact hu.like fun i => by rw [hlen]
  have HU := Lib.hid hu'
  have HW := Lib.hid hwf'
  have HBAD := Lib.hid hbad
  clear hv hu hwf hwf' hu' hbad
  cases hw : (c.b n).weak
  · rw [hw] at hc1
    have e : c.spoil n = c := by unfold Chip.spoil; rw [hw]; rfl
    rw [e] at HU HW hlen ⊢
    clear hw hlen e
    go_enter Try.func88, Try.ntmps88
    go_wp2_with fail
    go_ret
    exact ⟨rfl, ⟨V, u, HV.out, HU.out, HW.out⟩, Fr.refl _ _ _⟩
  · rw [hw] at hc1
    have e : c.spoil n = c.set n { c.b n with bad := true } := by unfold Chip.spoil; rw [hw]; rfl
    have E := Lib.hid e
    clear hw hlen e
    go_enter Try.func88, Try.ntmps88
    go_wp2_with fail
    go_ret
    refine ⟨rfl, ⟨V, u, HV.out.set_ (c' := c.spoil n) (b := n) (j := 3) hn (by omega) (fun i hi hne => ?_) ?_ ?_ (fun b hb => ?_), HU.out.keep (fr_chip (Fr.refl B _ w) HV.out _ _ HV.out.mut), HW.out⟩, fr_chip (Fr.refl B _ w) HV.out _ _ HV.out.mut⟩
    · rw [E.out]; simp only [blkL]; rw [Chip.set_far _ _ hne]
    · rw [E.out]; simp only [blkL, Chip.set_same, List.set_cons_succ, List.set_cons_zero]
    · rw [E.out]; exact ⟨rfl, rfl⟩
    · rw [Chip.spoil_len]; exact HV.out.rows b hb
set_option maxHeartbeats 1000000 in
theorem cread_any (B p : Nat) (c : Chip) (b q : Int) (w : World) (h : ChipR B w p c) :
    Calls Try.prog 54 #[.pointer (some ⟨p, 0, none⟩), .int .i64 b, .int .i64 q] w fun e w' => e = .returned (.tuple #[.string (c.read b q).1, errV (c.read b q).2]) ∧ w = w' := by
  have fin : ∀ (s : ByteArray) (n : Nat), c.read b q = (s, n) → ∀ (tmps : Array Value), tmps[6]? = some (.string s) → tmps[7]? = some (errV n) →
      bodyPost Try.prog Try.f54 (fun e w' => e = .returned (.tuple #[.string (c.read b q).1, errV (c.read b q).2]) ∧ w = w') .ret { tmps := tmps, defers := [] } w := by
    intro s n e tmps h6 h7
    rw [e]
    exact bodyPost_ret (v := .tuple #[.string s, errV n]) (by simp [results, Try.results54, go_sem, h6, h7]) rfl ⟨rfl, rfl⟩
  have FIN := Lib.hid fin
  clear fin
  obtain ⟨V, u, hv, _, _⟩ := h
  have hd := hv.tail.2.1
  cases hdn : c.down
  · rw [hdn] at hd
    by_cases hb : b < 0 ∨ 24 ≤ b ∨ q < 0 ∨ 8 ≤ q
    · have e : c.read b q = (ByteArray.empty, 1) := by unfold Chip.read; rw [hdn, if_neg (by simp), if_pos hb]
      have E := Lib.hid e
      clear hv e hdn
      by_cases h1 : b < 0
      · go_enter Try.func54, Try.ntmps54
        go_wp2_with fail
        exact FIN.out _ 1 E.out _ rfl rfl
      · by_cases h2 : 24 ≤ b
        · clear hb
          go_enter Try.func54, Try.ntmps54
          go_wp2_with fail
          exact FIN.out _ 1 E.out _ rfl rfl
        · by_cases h3 : q < 0
          · clear hb
            go_enter Try.func54, Try.ntmps54
            go_wp2_with fail
            exact FIN.out _ 1 E.out _ rfl rfl
          · have h4 : 8 ≤ q := by omega
            clear hb
            go_enter Try.func54, Try.ntmps54
            go_wp2_with fail
            exact FIN.out _ 1 E.out _ rfl rfl
    · obtain ⟨n, rfl⟩ := Int.eq_ofNat_of_zero_le (show 0 ≤ b by omega)
      obtain ⟨k, rfl⟩ := Int.eq_ofNat_of_zero_le (show 0 ≤ q by omega)
      have hn : n < 24 := by omega
      have hk : k < 8 := by omega
      have hc := (hv.cell hn).1
      obtain ⟨A, cap, h1, h2, h3, hA, h4⟩ := sheets_form (hv.rows n hn)
      rw [h1] at hc
      have e : c.read n k = match (c.b n).l[k]? with
          | none => (ByteArray.empty, 5)
          | some s => if s.t then (ByteArray.empty, 4) else (s.d, 0) := by
        unfold Chip.read; rw [hdn, if_neg (by simp), if_neg hb, Int.toNat_natCast, Int.toNat_natCast]; rfl
      have n1 : ¬ ((n : Int) < 0) := by omega
      have n2 : ¬ (24 ≤ (n : Int)) := by omega
      have n3 : ¬ ((k : Int) < 0) := by omega
      have n4 : ¬ (8 ≤ (k : Int)) := by omega
      have H4 := Lib.hid h4
      have E := Lib.hid e
      clear hv e hdn hb h1 h4
      by_cases hkl : k < (c.b n).l.length
      · obtain ⟨s, hs, _, _⟩ := getElem?_of_lt hkl
        obtain ⟨bb, o, rfl, hbb, c1, c2⟩ := H4.out k s hs
        have g1 : (0 : Int) ≤ (k : Int) := by omega
        have g2 : (k : Int) < ((c.b n).l.length : Int) := by omega
        have t1 : decide (((c.b n).l.length : Int) ≤ (k : Int)) = false := decide_eq_false (by omega)
        have HE : Hid (c.read n k = if s.t then (ByteArray.empty, 4) else (s.d, 0)) := by rw [Hid, E.out, hs]
        clear hA hs E
        cases hst : s.t
        · rw [hst] at c2 HE
          clear hst
          go_enter Try.func54, Try.ntmps54
          go_wp2_with fail
          exact FIN.out _ 0 HE.out _ rfl rfl
        · rw [hst] at c2 HE
          clear hst
          go_enter Try.func54, Try.ntmps54
          go_wp2_with fail
          exact FIN.out _ 4 HE.out _ rfl rfl
      · have HE : Hid (c.read n k = (ByteArray.empty, 5)) := by rw [Hid, E.out, List.getElem?_eq_none (by omega)]
        have t1 : decide (((c.b n).l.length : Int) ≤ (k : Int)) = true := decide_eq_true (by omega)
        clear hA E
        go_enter Try.func54, Try.ntmps54
        go_wp2_with fail
        exact FIN.out _ 5 HE.out _ rfl rfl
  · rw [hdn] at hd
    have e : c.read b q = (ByteArray.empty, 9) := by unfold Chip.read; rw [hdn, if_pos rfl]
    have E := Lib.hid e
    clear hv e hdn
    go_enter Try.func54, Try.ntmps54
    go_wp2_with fail
    exact FIN.out _ 9 E.out _ rfl rfl
end Go.Proofs.Ytaepdbkfaoiimaa
