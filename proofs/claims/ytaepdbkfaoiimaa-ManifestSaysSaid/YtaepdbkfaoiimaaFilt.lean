/- The contracts of package filter: spots, Of, May. Conditions: the texts are no longer than any memory. -/
import Derived.Test.YtaepdbkfaoiimaaBase
import Derived.Test.YtaepdbkfaoiimaaChecked
import Derived.Laws.BitsAllLaws
set_option linter.unusedVariables false
set_option linter.unusedSimpArgs false
namespace Go.Proofs.Ytaepdbkfaoiimaa
open Go.RowKit

def spStep (p : Int × Int) (c : UInt8) : Int × Int := ((p.1 * 31 + (c.toNat : Int)) % 10007, (p.2 * 17 + (c.toNat : Int) + 5) % 7919)
def spFold (l : List UInt8) : Int × Int := l.foldl spStep (7, 3)
theorem spFold_bd (l : List UInt8) : 0 ≤ (spFold l).1 ∧ (spFold l).1 < 10007 ∧ 0 ≤ (spFold l).2 ∧ (spFold l).2 < 7919 := by
  rcases List.eq_nil_or_concat l with rfl | ⟨l', c, rfl⟩
  · decide
  · simp only [spFold, List.concat_eq_append, List.foldl_append, List.foldl_cons, List.foldl_nil, spStep]; omega
theorem spFold_snoc (l : List UInt8) (c : UInt8) : spFold (l ++ [c]) = spStep (spFold l) c := by simp [spFold]
theorem take_snoc (s : ByteArray) (k : Nat) (h : k < s.size) : s.data.toList.take (k + 1) = s.data.toList.take k ++ [s[k]] := by
  rw [List.take_succ_eq_append_getElem (by simpa using h)]; rfl
theorem spStep_wrap (x y : Int) (c : UInt8) (hx : 0 ≤ x ∧ x < 10007) (hy : 0 ≤ y ∧ y < 7919) :
    ((wrap64 (x * 31 + wrap64 ↑c.toNat)).tmod 10007, (wrap64 (wrap64 (y * 17 + wrap64 ↑c.toNat) + 5)).tmod 7919) = spStep (x, y) c := by
  have hc : c.toNat < 256 := UInt8.toNat_lt c
  have e0 : wrap64 (c.toNat : Int) = c.toNat := w64 _ (by omega) (by omega)
  rw [e0, w64 (x * 31 + c.toNat) (by omega) (by omega), w64 (y * 17 + c.toNat) (by omega) (by omega), w64 (y * 17 + c.toNat + 5) (by omega) (by omega),
    Int.tmod_eq_emod_of_nonneg (by omega), Int.tmod_eq_emod_of_nonneg (by omega)]
  rfl
/-- The two spots of a text. -/
def spA (s : ByteArray) : Nat := ((spFold s.data.toList).1 % 64).toNat
def spB (s : ByteArray) : Nat := ((spFold s.data.toList).2 % 64).toNat
theorem spA_lt (s : ByteArray) : spA s < 64 := by unfold spA; omega
theorem spB_lt (s : ByteArray) : spB s < 64 := by unfold spB; omega
theorem spA_eq (s : ByteArray) : (spFold s.data.toList).1 % 64 = (spA s : Int) := by unfold spA; omega
theorem spB_eq (s : ByteArray) : (spFold s.data.toList).2 % 64 = (spB s : Int) := by unfold spB; omega

set_option maxHeartbeats 400000 in
theorem spots_any (s : ByteArray) (w : World) (hs : s.size ≤ 9223372036854775807) :
    Calls Try.prog 84 #[.string s] w fun e w' => e = .returned (.tuple #[.int .i64 (spA s), .int .i64 (spB s)]) ∧ w = w' := by
  rw [← spA_eq, ← spB_eq]
  go_enter Try.func84, Try.ntmps84
  go_wp2
  go_loop [4, 5, 9] (fun a b i => ∃ k : Nat, k ≤ s.size ∧ i = .int .i64 k ∧ ∃ x y : Int, a = .int .i64 x ∧ b = .int .i64 y ∧ Hid ((x, y) = spFold (s.data.toList.take k))) (fun _ _ i => s.size - (intOf i).toNat)
  case atStart => exact ⟨0, Nat.zero_le _, rfl, 7, 3, rfl, rfl, rfl⟩
  case round =>
    obtain ⟨k, hk, rfl, x, y, rfl, rfl, hd⟩ := hrel
    obtain ⟨h1, h2, h3, h4⟩ : 0 ≤ x ∧ x < 10007 ∧ 0 ≤ y ∧ y < 7919 := by
      have := spFold_bd (s.data.toList.take k); rw [← hd.out] at this; exact this
    by_cases hlt : k < s.size
    · have hts := Lib.hid (take_snoc s k hlt)
      go_wp2
      go_round
      case rel => exact ⟨k + 1, by omega, by go_num, _, _, rfl, rfl, by rw [Hid, hts.out, spFold_snoc, ← hd.out]; exact spStep_wrap x y s[k] ⟨h1, h2⟩ ⟨h3, h4⟩⟩
      case measure => simp [intOf]; omega
    · have hge : s.size ≤ k := by omega
      go_wp2
      go_ret2
      have e : s.data.toList.take k = s.data.toList := List.take_of_length_le (by simp; omega)
      have hd' := hd.out
      rw [e] at hd'
      rw [← hd']
      exact ⟨rfl, rfl⟩

/-- The bits of a text's spots. -/
def spBits (s : ByteArray) : Nat := 2 ^ spA s ||| 2 ^ spB s
def fOf (l : List ByteArray) : Nat := l.foldl (fun f s => f ||| spBits s) 0
theorem two_lt (a : Nat) (h : a < 64) : 2 ^ a < 18446744073709551616 := Nat.pow_lt_pow_of_lt (a := 2) (n := a) (m := 64) (by decide) h
theorem or_lt64 {a b : Nat} (ha : a < 18446744073709551616) (hb : b < 18446744073709551616) : a ||| b < 18446744073709551616 := Nat.or_lt_two_pow (n := 64) ha hb
theorem spBits_lt (s : ByteArray) : spBits s < 18446744073709551616 := or_lt64 (two_lt _ (spA_lt s)) (two_lt _ (spB_lt s))
theorem fOf_snoc (l : List ByteArray) (s : ByteArray) : fOf (l ++ [s]) = fOf l ||| spBits s := by simp [fOf]
theorem foldl_or_lt (l : List ByteArray) : ∀ n, n < 18446744073709551616 → l.foldl (fun f s => f ||| spBits s) n < 18446744073709551616 := by
  induction l with
  | nil => intro n h; exact h
  | cons s l ih => intro n h; exact ih _ (or_lt64 h (spBits_lt s))
theorem fOf_lt (l : List ByteArray) : fOf l < 18446744073709551616 := foldl_or_lt l 0 (by decide)
theorem shl_wrap (a : Nat) (h : a < 64) : IntKind.u64.wrap (2 ^ min (a : Int).toNat IntKind.u64.bits) = ((2 ^ a : Nat) : Int) := by
  have h1 : min (a : Int).toNat IntKind.u64.bits = a := by simp [IntKind.bits]; omega
  have h2 := two_lt a h
  have h3 : ((2 : Int) ^ a) = ((2 ^ a : Nat) : Int) := by simp
  rw [h1, h3]
  generalize 2 ^ a = m at *
  simp [IntKind.wrap, IntKind.bits, IntKind.signed]
  omega
/-- May: has f both bits? -/
def mayB (f : Nat) (s : ByteArray) : Bool := f.testBit (spA s) && f.testBit (spB s)
theorem and_bit (f a : Nat) (hf : f < 18446744073709551616) : (bits BinOp.and IntKind.u64 ((f : Int) / 2 ^ a) 1 == 1) = f.testBit a := by
  have h1 : ((f : Int) / 2 ^ a) = ((f / 2 ^ a : Nat) : Int) := by simp
  have h2 : f / 2 ^ a < 18446744073709551616 := Nat.lt_of_le_of_lt (Nat.div_le_self _ _) hf
  rw [h1, show (1 : Int) = ((1 : Nat) : Int) from rfl, Go.u64_and_nat _ _ h2 (by decide)]
  rw [Nat.and_one_is_mod, Nat.testBit_eq_decide_div_mod_eq]
  generalize f / 2 ^ a = m
  rcases Nat.mod_two_eq_zero_or_one m with h | h <;> simp [h]
theorem and_bitA (f : Nat) (s : ByteArray) (hf : f < 18446744073709551616) : (bits BinOp.and IntKind.u64 ((f : Int) / 2 ^ min (spA s) 64) 1 == 1) = f.testBit (spA s) := by
  rw [Nat.min_eq_left (Nat.le_of_lt (spA_lt s))]; exact and_bit f _ hf
theorem and_bitB (f : Nat) (s : ByteArray) (hf : f < 18446744073709551616) : (bits BinOp.and IntKind.u64 ((f : Int) / 2 ^ min (spB s) 64) 1 == 1) = f.testBit (spB s) := by
  rw [Nat.min_eq_left (Nat.le_of_lt (spB_lt s))]; exact and_bit f _ hf
theorem or_val (x : Nat) (s : ByteArray) (hx : x < 18446744073709551616) :
    Value.int .u64 (bits .or .u64 (x : Int) (bits .or .u64 (IntKind.u64.wrap (2 ^ min (spA s) 64)) (IntKind.u64.wrap (2 ^ min (spB s) 64)))) = .int .u64 ((x ||| spBits s : Nat) : Int) := by
  have h1 := shl_wrap (spA s) (spA_lt s)
  have h2 := shl_wrap (spB s) (spB_lt s)
  simp only [Int.toNat_natCast, IntKind.bits] at h1 h2
  rw [h1, h2, Go.u64_or_nat _ _ (two_lt _ (spA_lt s)) (two_lt _ (spB_lt s)), Go.u64_or_nat _ _ hx (or_lt64 (two_lt _ (spA_lt s)) (two_lt _ (spB_lt s)))]
  rfl

set_option maxHeartbeats 400000 in
theorem of_any (B : Nat) (v : Value) (l : List ByteArray) (w : World) (hl : Strs B w v l) :
    Calls Try.prog 13 #[v] w fun e w' => e = .returned (.int .u64 (fOf l : Nat)) ∧ ∃ n, w.drewN n = w' := by
  obtain ⟨A, c, rfl, hc, hc2, hcell⟩ := hl.form
  have hsz := hl.2
  have HC := Lib.hid hcell
  have HS := Lib.hid hsz
  have hlen := hl.len
  clear hl hcell hsz
  go_enter Try.func13, Try.ntmps13
  go_wp2
  go_loopw [3, 10] (fun f i wr => ∃ k n : Nat, k ≤ l.length ∧ i = .int .i64 k ∧ w.drewN n = wr ∧ ∃ x : Nat, f = .int .u64 x ∧ Hid (x = fOf (l.take k)) ∧ x < 18446744073709551616) (fun _ i _ => l.length - (intOf i).toNat)
  case atStart => exact ⟨0, 0, Nat.zero_le _, rfl, rfl, 0, rfl, rfl, by decide⟩
  case round =>
    obtain ⟨k, n, hk, rfl, rfl, x, rfl, hx, hx2⟩ := hrel
    by_cases hlt : k < l.length
    · obtain ⟨s, hs, htk, _⟩ := getElem?_of_lt hlt
      obtain ⟨b, o, rfl, hb, hcell⟩ := HC.out k s hs
      have hs2 := HS.out s (List.mem_of_getElem? hs)
      have HT := Lib.hid htk
      have HH := Lib.hid (spots_any s (w.drewN n) hs2)
      clear htk hs
      go_wp2_with (go_at_call 84; refine HH.out.mono ?_; rintro e w' ⟨rfl, rfl⟩)
      have g1 : (0 : Int) ≤ (spA s : Int) := by omega
      have g2 : (0 : Int) ≤ (spB s : Int) := by omega
      go_quiet (fail)
      go_wp2
      go_roundw
      case rel => exact ⟨k + 1, _, by omega, by go_num, rfl, _, or_val x s hx2, by rw [Hid, HT.out, fOf_snoc, ← hx.out], or_lt64 hx2 (spBits_lt s)⟩
      case measure => simp [intOf]; omega
    · have hge : l.length ≤ k := by omega
      go_wp2
      go_ret
      have e : l.take k = l := List.take_of_length_le hge
      have hx' := hx.out
      rw [e] at hx'
      exact ⟨by rw [hx']; rfl, _, rfl⟩

set_option maxHeartbeats 400000 in
theorem may_any (f : Nat) (s : ByteArray) (w : World) (hs : s.size ≤ 9223372036854775807) (hf : f < 18446744073709551616) :
    Calls Try.prog 12 #[.int .u64 f, .string s] w fun e w' => e = .returned (.bool (mayB f s)) ∧ w = w' := by
  have HH := Lib.hid (spots_any s w hs)
  have g1 : (0 : Int) ≤ (spA s : Int) := by omega
  have g2 : (0 : Int) ≤ (spB s : Int) := by omega
  have e1 := Lib.hid (and_bitA f s hf)
  have e2 := Lib.hid (and_bitB f s hf)
  go_enter Try.func12, Try.ntmps12
  go_wp2_with (go_at_call 84; refine HH.out.mono ?_; rintro e w' ⟨rfl, rfl⟩)
  · have h : bits BinOp.and IntKind.u64 ((f : Int) / 2 ^ min (spA s) 64) 1 = 1 := by assumption
    go_ret
    exact ⟨ret_bool (by simp [mayB, ← e1.out, ← e2.out, h]), rfl⟩
  · have h : ¬ bits BinOp.and IntKind.u64 ((f : Int) / 2 ^ min (spA s) 64) 1 = 1 := by assumption
    go_ret
    exact ⟨ret_bool (by simp [mayB, ← e1.out, ← e2.out, h]), rfl⟩
end Go.Proofs.Ytaepdbkfaoiimaa
