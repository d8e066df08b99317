/- The walks of FilterSays and TopFilter: they return true. Conditions: none but that texts and slices are no longer than any memory. -/
import Derived.Test.YtaepdbkfaoiimaaFilt
set_option linter.unusedVariables false
set_option linter.unusedSimpArgs false
namespace Go.Proofs.Ytaepdbkfaoiimaa
open Go.RowKit

/-- LightTexts. -/
def lightB (l : List ByteArray) : Bool := decide (l.length ≤ 60) && l.all (fun s => decide (s.size ≤ 20))
set_option maxHeartbeats 400000 in
theorem light_any (B : Nat) (v : Value) (l : List ByteArray) (w : World) (hl : Strs B w v l) :
    Calls Try.prog 14 #[v] w fun e w' => e = .returned (.bool (lightB l)) ∧ w = w' := by
  obtain ⟨A, c, rfl, hc, hc2, hcell⟩ := hl.form
  have HC := Lib.hid hcell
  have hlen := hl.len
  clear hl hcell
  by_cases h60 : l.length ≤ 60
  · go_enter Try.func14, Try.ntmps14
    go_wp2
    go_loop [3] (fun i => ∃ k : Nat, k ≤ l.length ∧ i = .int .i64 k ∧ Hid ((l.take k).all (fun s => decide (s.size ≤ 20)) = true)) (fun i => l.length - (intOf i).toNat)
    case atStart => exact ⟨0, Nat.zero_le _, rfl, rfl⟩
    case round =>
      obtain ⟨k, hk, rfl, hx⟩ := hrel
      by_cases hlt : k < l.length
      · obtain ⟨s, hs, htk, hdr⟩ := getElem?_of_lt hlt
        obtain ⟨b, o, rfl, hb, hcell⟩ := HC.out k s hs
        have HS := Lib.hid hs
        have HT := Lib.hid htk
        clear htk hs hdr
        by_cases h20 : s.size ≤ 20
        · go_wp2
          go_round
          case rel => exact ⟨k + 1, by omega, by go_num, by rw [Hid, HT.out, List.all_append, hx.out]; simp [h20]⟩
          case measure => simp [intOf]; omega
        · go_wp2
          go_ret
          refine ⟨ret_bool ?_, rfl⟩
          have : l.all (fun s => decide (s.size ≤ 20)) = false := by
            rw [List.all_eq_false]
            exact ⟨s, List.mem_of_getElem? HS.out, by simpa using h20⟩
          rw [lightB, this, Bool.and_false]
      · have hge : l.length ≤ k := by omega
        go_wp2
        go_ret
        have e : l.take k = l := List.take_of_length_le hge
        have hx' := hx.out
        rw [e] at hx'
        exact ⟨ret_bool (by rw [lightB, hx']; simp [h60]), rfl⟩
  · go_enter Try.func14, Try.ntmps14
    go_wp2
    go_ret
    exact ⟨ret_bool (by simp [lightB, h60]), rfl⟩

set_option maxHeartbeats 400000 in
theorem rspots_any (s : ByteArray) (w : World) (hs : s.size ≤ 9223372036854775807) :
    Calls Try.prog 15 #[.string s] w fun e w' => e = .returned (.tuple #[.int .i64 (spA s), .int .i64 (spB s)]) ∧ w = w' := by
  rw [← spA_eq, ← spB_eq]
  go_enter Try.func15, Try.ntmps15
  go_wp2
  go_loop [4, 5, 6] (fun a b i => ∃ k : Nat, k ≤ s.size ∧ i = .int .i64 k ∧ ∃ x y : Int, a = .int .i64 x ∧ b = .int .i64 y ∧ Hid ((x, y) = spFold (s.data.toList.take k))) (fun _ _ i => s.size - (intOf i).toNat)
  case atStart => exact ⟨0, Nat.zero_le _, rfl, 7, 3, rfl, rfl, rfl⟩
  case round =>
    obtain ⟨k, hk, rfl, x, y, rfl, rfl, hd⟩ := hrel
    obtain ⟨h1, h2, h3, h4⟩ : 0 ≤ x ∧ x < 10007 ∧ 0 ≤ y ∧ y < 7919 := by
      have := spFold_bd (s.data.toList.take k); rw [← hd.out] at this; exact this
    by_cases hlt : k < s.size
    · have hts := Lib.hid (take_snoc s k hlt)
      go_wp2
      go_round
      case rel => exact ⟨k + 1, by omega, by go_num, _, _, rfl, rfl, by rw [Hid, hts.out, spFold_snoc, ← hd.out]; exact spStep_wrap x y s[k] ⟨h1, h2⟩ ⟨h3, h4⟩⟩
      case measure => simp [intOf]; omega
    · have hge : s.size ≤ k := by omega
      go_wp2
      go_ret2
      have e : s.data.toList.take k = s.data.toList := List.take_of_length_le (by simp; omega)
      have hd' := hd.out
      rw [e] at hd'
      rw [← hd']
      exact ⟨rfl, rfl⟩

theorem or_valR (x : Nat) (s : ByteArray) (hx : x < 18446744073709551616) :
    Value.int .u64 (bits .or .u64 (bits .or .u64 (x : Int) (IntKind.u64.wrap (2 ^ min (spA s) 64))) (IntKind.u64.wrap (2 ^ min (spB s) 64))) = .int .u64 ((x ||| spBits s : Nat) : Int) := by
  have h1 := shl_wrap (spA s) (spA_lt s)
  have h2 := shl_wrap (spB s) (spB_lt s)
  simp only [Int.toNat_natCast, IntKind.bits] at h1 h2
  rw [h1, h2, Go.u64_or_nat _ _ hx (two_lt _ (spA_lt s)), Go.u64_or_nat _ _ (or_lt64 hx (two_lt _ (spA_lt s))) (two_lt _ (spB_lt s)), Nat.or_assoc]
  rfl
theorem u64_small (a : Nat) (h : a < 64) : IntKind.u64.wrap (a : Int) = a := by
  simp [IntKind.wrap, IntKind.bits, IntKind.signed]; omega

set_option maxHeartbeats 400000 in
theorem rof_any (B : Nat) (v : Value) (l : List ByteArray) (w : World) (hl : Strs B w v l) :
    Calls Try.prog 16 #[v] w fun e w' => e = .returned (.int .u64 (fOf l : Nat)) ∧ ∃ n, w.drewN n = w' := by
  obtain ⟨A, c, rfl, hc, hc2, hcell⟩ := hl.form
  have hsz := hl.2
  have HC := Lib.hid hcell
  have HS := Lib.hid hsz
  have hlen := hl.len
  clear hl hcell hsz
  go_enter Try.func16, Try.ntmps16
  go_wp2
  go_loopw [3, 4] (fun f i wr => ∃ k n : Nat, k ≤ l.length ∧ i = .int .i64 k ∧ w.drewN n = wr ∧ ∃ x : Nat, f = .int .u64 x ∧ Hid (x = fOf (l.take k)) ∧ x < 18446744073709551616) (fun _ i _ => l.length - (intOf i).toNat)
  case atStart => exact ⟨0, 0, Nat.zero_le _, rfl, rfl, 0, rfl, rfl, by decide⟩
  case round =>
    obtain ⟨k, n, hk, rfl, rfl, x, rfl, hx, hx2⟩ := hrel
    by_cases hlt : k < l.length
    · obtain ⟨s, hs, htk, _⟩ := getElem?_of_lt hlt
      obtain ⟨b, o, rfl, hb, hcell⟩ := HC.out k s hs
      have hs2 := HS.out s (List.mem_of_getElem? hs)
      have HT := Lib.hid htk
      have HH := Lib.hid (rspots_any s (w.drewN n) hs2)
      clear htk hs
      have g1 : (0 : Int) ≤ (spA s : Int) := by omega
      have g2 : (0 : Int) ≤ (spB s : Int) := by omega
      have g3 := u64_small _ (spA_lt s)
      have g4 := u64_small _ (spB_lt s)
      go_wp2_with (go_at_call 15; refine HH.out.mono ?_; rintro e w' ⟨rfl, rfl⟩)
      go_roundw
      case rel => exact ⟨k + 1, _, by omega, by go_num, rfl, _, or_valR x s hx2, by rw [Hid, HT.out, fOf_snoc, ← hx.out], or_lt64 hx2 (spBits_lt s)⟩
      case measure => simp [intOf]; omega
    · have hge : l.length ≤ k := by omega
      go_wp2
      go_ret
      have e : l.take k = l := List.take_of_length_le hge
      have hx' := hx.out
      rw [e] at hx'
      exact ⟨by rw [hx']; rfl, _, rfl⟩

abbrev kText : ByteArray := ⟨#[107]⟩
theorem may_k : mayB (fOf [kText]) kText = true := by decide
theorem may_0 : mayB 0 kText = false := by decide
theorem strs_lit (w : World) (s : ByteArray) (hs : s.size ≤ 9223372036854775807) (B : Nat) : Strs B (w.alloc (.cells #[.string s] 9)) (.slice (some ⟨w.heap.size, 0, none⟩) 1 1) [s] := by
  have hb := Blk.new w 9 #[.string s]
  refine ⟨⟨rfl, _, _, rfl, Nat.le_refl _, by omega, fun _ => ⟨_, _, rfl, .inr ⟨_, _, hb⟩, hb.lt, fun j u hu => ?_⟩⟩, by simpa using hs⟩
  rw [hb.cell]
  match j, hu with
  | 0, hu => simpa using hu

theorem below_lit (w : World) (o : Obj) (n : Nat) : Below w.heap.size w ((w.alloc o).drewN n) := by
  have := (Below.refl w.heap.size w).alloc (Nat.le_refl _) o
  exact ⟨this.os, this.tape, this.output, this.size, this.block⟩
theorem below_drewN' {n : Nat} {w w' : World} (h : Below n w w') (k : Nat) : Below n w (w'.drewN k) := ⟨h.os, h.tape, h.output, h.size, h.block⟩

set_option maxHeartbeats 1000000 in
theorem filterSays_walk (keys : Value) (l : List ByteArray) (s : ByteArray) (f : Nat) (w : World) (hl : Strs w.heap.size w keys l) (hs : s.size ≤ 9223372036854775807) (hf : f < 18446744073709551616) :
    Calls Try.prog 3 #[keys, .string s, .int .u64 f] w fun e w' => e = .returned (.bool true) ∧ Below w.heap.size w w' := by
  have H1 := may_k
  have H2 := may_0
  have g1 : (0 : Int) ≤ (spA s : Int) := by omega
  have g2 : (0 : Int) ≤ (spB s : Int) := by omega
  have g3 := u64_small _ (spA_lt s)
  have g4 := u64_small _ (spB_lt s)
  have E1 := Lib.hid (and_bitA f s hf)
  have E2 := Lib.hid (and_bitB f s hf)
  have HL : Hid (Strs w.heap.size w keys l) := hl
  clear hl
  go_enter Try.func3, Try.ntmps3
  go_wp2_with fail
  refine (of_any w.heap.size _ [kText] _ (strs_lit w kText (by decide) _)).mono ?_
  rintro e w' ⟨rfl, n, rfl⟩
  go_wp2_with fail
  refine (may_any _ kText _ (by decide) (fOf_lt _)).mono ?_
  rintro e w' ⟨rfl, rfl⟩
  go_wp2_with fail
  refine (may_any 0 kText _ (by decide) (by decide)).mono ?_
  rintro e w' ⟨rfl, rfl⟩
  have hb := below_lit w (.cells #[.string kText] 9) n
  generalize ((w.alloc (.cells #[.string kText] 9)).drewN n) = W at hb ⊢
  by_cases hli : lightB l = true
  · by_cases h20 : s.size ≤ 20
    · go_wp2_with fail
      refine (light_any w.heap.size _ l _ (HL.out.below hb)).mono ?_
      rintro e w' ⟨rfl, rfl⟩
      go_wp2_with fail
      refine (rspots_any s _ hs).mono ?_
      rintro e w' ⟨rfl, rfl⟩
      go_wp2_with fail
      refine (of_any w.heap.size _ l _ (HL.out.below hb)).mono ?_
      rintro e w' ⟨rfl, n1, rfl⟩
      go_wp2_with fail
      refine (rof_any w.heap.size _ l _ ((HL.out.below hb).drewN n1)).mono ?_
      rintro e w' ⟨rfl, n2, rfl⟩
      have hb2 := below_drewN' hb (n1 + n2)
      cases hA : f.testBit (spA s) <;> cases hB : f.testBit (spB s)
      all_goals
        have e1 := E1.out.trans hA
        have e2 := E2.out.trans hB
        have em : mayB f s = (f.testBit (spA s) && f.testBit (spB s)) := rfl
        rw [hA, hB] at em
        simp only [Bool.and_true, Bool.and_false] at em
        clear hA hB
        go_wp2_with fail
        refine (may_any f s _ hs hf).mono ?_
        rintro e w' ⟨rfl, rfl⟩
        go_wp2_with fail
        go_ret
        exact ⟨rfl, hb2⟩
    · go_wp2_with fail
      refine (light_any w.heap.size _ l _ (HL.out.below hb)).mono ?_
      rintro e w' ⟨rfl, rfl⟩
      go_wp2_with fail
      go_ret
      exact ⟨rfl, hb⟩
  · have hli' : lightB l = false := by simpa using hli
    clear hli
    go_wp2_with fail
    refine (light_any w.heap.size _ l _ (HL.out.below hb)).mono ?_
    rintro e w' ⟨rfl, rfl⟩
    go_wp2_with fail
    go_ret
    exact ⟨rfl, hb⟩
end Go.Proofs.Ytaepdbkfaoiimaa
