/- Several texts of this proof, one behind the other: walks and plain laws that the statement rests on. Conditions: none but those that each lemma names. -/
import Derived.Test.YtaepdbkfaoiimabGreatDoorGa
import Derived.Test.YtaepdbkfaoiimabGreatDoorChecked
import Derived.Laws.BitsAllLaws
import Derived.Test.YtaepdbkfaoiimabGreatDoorGe
import Derived.Test.YtaepdbkfaoiimabGreatDoorGd
import Derived.Laws.BitsLemmas
import Derived.Test.YtaepdbkfaoiimabGreatDoorGc
import Derived.LoopN
import Derived.Lib.SlBytesConst
/- The contracts of package filter: spots, Of, May. Conditions: the texts are no longer than any memory. -/
set_option linter.unusedVariables false
set_option linter.unusedSimpArgs false
namespace Go.Proofs.YtaepdbkfaoiimabGreatDoor
open Go.RowKit

def spStep (p : Int × Int) (c : UInt8) : Int × Int := ((p.1 * 31 + (c.toNat : Int)) % 10007, (p.2 * 17 + (c.toNat : Int) + 5) % 7919)
def spFold (l : List UInt8) : Int × Int := l.foldl spStep (7, 3)
theorem spFold_bd (l : List UInt8) : 0 ≤ (spFold l).1 ∧ (spFold l).1 < 10007 ∧ 0 ≤ (spFold l).2 ∧ (spFold l).2 < 7919 := by
  rcases List.eq_nil_or_concat l with rfl | ⟨l', c, rfl⟩
  · decide
  · simp only [spFold, List.concat_eq_append, List.foldl_append, List.foldl_cons, List.foldl_nil, spStep]; omega
theorem spFold_snoc (l : List UInt8) (c : UInt8) : spFold (l ++ [c]) = spStep (spFold l) c := by simp [spFold]
theorem take_snoc (s : ByteArray) (k : Nat) (h : k < s.size) : s.data.toList.take (k + 1) = s.data.toList.take k ++ [s[k]] := by
  rw [List.take_succ_eq_append_getElem (by simpa using h)]; rfl
theorem spStep_wrap (x y : Int) (c : UInt8) (hx : 0 ≤ x ∧ x < 10007) (hy : 0 ≤ y ∧ y < 7919) :
    ((wrap64 (x * 31 + wrap64 ↑c.toNat)).tmod 10007, (wrap64 (wrap64 (y * 17 + wrap64 ↑c.toNat) + 5)).tmod 7919) = spStep (x, y) c := by
  have hc : c.toNat < 256 := UInt8.toNat_lt c
  have e0 : wrap64 (c.toNat : Int) = c.toNat := w64 _ (by omega) (by omega)
  rw [e0, w64 (x * 31 + c.toNat) (by omega) (by omega), w64 (y * 17 + c.toNat) (by omega) (by omega), w64 (y * 17 + c.toNat + 5) (by omega) (by omega),
    Int.tmod_eq_emod_of_nonneg (by omega), Int.tmod_eq_emod_of_nonneg (by omega)]
  rfl
/-- The two spots of a text. -/
def spA (s : ByteArray) : Nat := ((spFold s.data.toList).1 % 64).toNat
def spB (s : ByteArray) : Nat := ((spFold s.data.toList).2 % 64).toNat
theorem spA_lt (s : ByteArray) : spA s < 64 := by unfold spA; omega
theorem spB_lt (s : ByteArray) : spB s < 64 := by unfold spB; omega
theorem spA_eq (s : ByteArray) : (spFold s.data.toList).1 % 64 = (spA s : Int) := by unfold spA; omega
theorem spB_eq (s : ByteArray) : (spFold s.data.toList).2 % 64 = (spB s : Int) := by unfold spB; omega

set_option maxHeartbeats 400000 in
theorem spots_any (s : ByteArray) (w : World) (hs : s.size ≤ 9223372036854775807) :
    Calls Tryz.prog 166 #[.string s] w fun e w' => e = .returned (.tuple #[.int .i64 (spA s), .int .i64 (spB s)]) ∧ w = w' := by
  rw [← spA_eq, ← spB_eq]
  go_enter Tryz.func166, Tryz.ntmps166
  go_wp2
  go_loop [4, 5, 9] (fun a b i => ∃ k : Nat, k ≤ s.size ∧ i = .int .i64 k ∧ ∃ x y : Int, a = .int .i64 x ∧ b = .int .i64 y ∧ Hid ((x, y) = spFold (s.data.toList.take k))) (fun _ _ i => s.size - (intOf i).toNat)
  case atStart => exact ⟨0, Nat.zero_le _, rfl, 7, 3, rfl, rfl, rfl⟩
  case round =>
    obtain ⟨k, hk, rfl, x, y, rfl, rfl, hd⟩ := hrel
    obtain ⟨h1, h2, h3, h4⟩ : 0 ≤ x ∧ x < 10007 ∧ 0 ≤ y ∧ y < 7919 := by
      have := spFold_bd (s.data.toList.take k); rw [← hd.out] at this; exact this
    by_cases hlt : k < s.size
    · have hts := Lib.hid (take_snoc s k hlt)
      go_wp2
      go_round
      case rel => exact ⟨k + 1, by omega, by go_num, _, _, rfl, rfl, by rw [Hid, hts.out, spFold_snoc, ← hd.out]; exact spStep_wrap x y s[k] ⟨h1, h2⟩ ⟨h3, h4⟩⟩
      case measure => simp [intOf]; omega
    · have hge : s.size ≤ k := by omega
      go_wp2
      go_ret2
      have e : s.data.toList.take k = s.data.toList := List.take_of_length_le (by simp; omega)
      have hd' := hd.out
      rw [e] at hd'
      rw [← hd']
      exact ⟨rfl, rfl⟩

/-- The bits of a text's spots. -/
def spBits (s : ByteArray) : Nat := 2 ^ spA s ||| 2 ^ spB s
def fOf (l : List ByteArray) : Nat := l.foldl (fun f s => f ||| spBits s) 0
theorem two_lt (a : Nat) (h : a < 64) : 2 ^ a < 18446744073709551616 := Nat.pow_lt_pow_of_lt (a := 2) (n := a) (m := 64) (by decide) h
theorem or_lt64 {a b : Nat} (ha : a < 18446744073709551616) (hb : b < 18446744073709551616) : a ||| b < 18446744073709551616 := Nat.or_lt_two_pow (n := 64) ha hb
theorem spBits_lt (s : ByteArray) : spBits s < 18446744073709551616 := or_lt64 (two_lt _ (spA_lt s)) (two_lt _ (spB_lt s))
theorem fOf_snoc (l : List ByteArray) (s : ByteArray) : fOf (l ++ [s]) = fOf l ||| spBits s := by simp [fOf]
theorem foldl_or_lt (l : List ByteArray) : ∀ n, n < 18446744073709551616 → l.foldl (fun f s => f ||| spBits s) n < 18446744073709551616 := by
  induction l with
  | nil => intro n h; exact h
  | cons s l ih => intro n h; exact ih _ (or_lt64 h (spBits_lt s))
theorem fOf_lt (l : List ByteArray) : fOf l < 18446744073709551616 := foldl_or_lt l 0 (by decide)
theorem shl_wrap (a : Nat) (h : a < 64) : IntKind.u64.wrap (2 ^ min (a : Int).toNat IntKind.u64.bits) = ((2 ^ a : Nat) : Int) := by
  have h1 : min (a : Int).toNat IntKind.u64.bits = a := by simp [IntKind.bits]; omega
  have h2 := two_lt a h
  have h3 : ((2 : Int) ^ a) = ((2 ^ a : Nat) : Int) := by simp
  rw [h1, h3]
  generalize 2 ^ a = m at *
  simp [IntKind.wrap, IntKind.bits, IntKind.signed]
  omega
/-- May: has f both bits? -/
def mayB (f : Nat) (s : ByteArray) : Bool := f.testBit (spA s) && f.testBit (spB s)
theorem and_bit (f a : Nat) (hf : f < 18446744073709551616) : (bits BinOp.and IntKind.u64 ((f : Int) / 2 ^ a) 1 == 1) = f.testBit a := by
  have h1 : ((f : Int) / 2 ^ a) = ((f / 2 ^ a : Nat) : Int) := by simp
  have h2 : f / 2 ^ a < 18446744073709551616 := Nat.lt_of_le_of_lt (Nat.div_le_self _ _) hf
  rw [h1, show (1 : Int) = ((1 : Nat) : Int) from rfl, Go.u64_and_nat _ _ h2 (by decide)]
  rw [Nat.and_one_is_mod, Nat.testBit_eq_decide_div_mod_eq]
  generalize f / 2 ^ a = m
  rcases Nat.mod_two_eq_zero_or_one m with h | h <;> simp [h]
theorem and_bitA (f : Nat) (s : ByteArray) (hf : f < 18446744073709551616) : (bits BinOp.and IntKind.u64 ((f : Int) / 2 ^ min (spA s) 64) 1 == 1) = f.testBit (spA s) := by
  rw [Nat.min_eq_left (Nat.le_of_lt (spA_lt s))]; exact and_bit f _ hf
theorem and_bitB (f : Nat) (s : ByteArray) (hf : f < 18446744073709551616) : (bits BinOp.and IntKind.u64 ((f : Int) / 2 ^ min (spB s) 64) 1 == 1) = f.testBit (spB s) := by
  rw [Nat.min_eq_left (Nat.le_of_lt (spB_lt s))]; exact and_bit f _ hf
theorem or_val (x : Nat) (s : ByteArray) (hx : x < 18446744073709551616) :
    Value.int .u64 (bits .or .u64 (x : Int) (bits .or .u64 (IntKind.u64.wrap (2 ^ min (spA s) 64)) (IntKind.u64.wrap (2 ^ min (spB s) 64)))) = .int .u64 ((x ||| spBits s : Nat) : Int) := by
  have h1 := shl_wrap (spA s) (spA_lt s)
  have h2 := shl_wrap (spB s) (spB_lt s)
  simp only [Int.toNat_natCast, IntKind.bits] at h1 h2
  rw [h1, h2, Go.u64_or_nat _ _ (two_lt _ (spA_lt s)) (two_lt _ (spB_lt s)), Go.u64_or_nat _ _ hx (or_lt64 (two_lt _ (spA_lt s)) (two_lt _ (spB_lt s)))]
  rfl

set_option maxHeartbeats 400000 in
theorem of_any (B : Nat) (v : Value) (l : List ByteArray) (w : World) (hl : Strs B w v l) :
    Calls Tryz.prog 164 #[v] w fun e w' => e = .returned (.int .u64 (fOf l : Nat)) ∧ ∃ n, w.drewN n = w' := by
  obtain ⟨A, c, rfl, hc, hc2, hcell⟩ := hl.form
  have hsz := hl.2
  have HC := Lib.hid hcell
  have HS := Lib.hid hsz
  have hlen := hl.len
  clear hl hcell hsz
  go_enter Tryz.func164, Tryz.ntmps164
  go_wp2
  go_loopw [3, 10] (fun f i wr => ∃ k n : Nat, k ≤ l.length ∧ i = .int .i64 k ∧ w.drewN n = wr ∧ ∃ x : Nat, f = .int .u64 x ∧ Hid (x = fOf (l.take k)) ∧ x < 18446744073709551616) (fun _ i _ => l.length - (intOf i).toNat)
  case atStart => exact ⟨0, 0, Nat.zero_le _, rfl, rfl, 0, rfl, rfl, by decide⟩
  case round =>
    obtain ⟨k, n, hk, rfl, rfl, x, rfl, hx, hx2⟩ := hrel
    by_cases hlt : k < l.length
    · obtain ⟨s, hs, htk, _⟩ := getElem?_of_lt hlt
      obtain ⟨b, o, rfl, hb, hcell⟩ := HC.out k s hs
      have hs2 := HS.out s (List.mem_of_getElem? hs)
      have HT := Lib.hid htk
      have HH := Lib.hid (spots_any s (w.drewN n) hs2)
      clear htk hs
      go_wp2_with (go_at_call 166; refine HH.out.mono ?_; rintro e w' ⟨rfl, rfl⟩)
      have g1 : (0 : Int) ≤ (spA s : Int) := by omega
      have g2 : (0 : Int) ≤ (spB s : Int) := by omega
      go_quiet (fail)
      go_wp2
      go_roundw
      case rel => exact ⟨k + 1, _, by omega, by go_num, rfl, _, or_val x s hx2, by rw [Hid, HT.out, fOf_snoc, ← hx.out], or_lt64 hx2 (spBits_lt s)⟩
      case measure => simp [intOf]; omega
    · have hge : l.length ≤ k := by omega
      go_wp2
      go_ret
      have e : l.take k = l := List.take_of_length_le hge
      have hx' := hx.out
      rw [e] at hx'
      exact ⟨by rw [hx']; rfl, _, rfl⟩

set_option maxHeartbeats 400000 in
theorem may_any (f : Nat) (s : ByteArray) (w : World) (hs : s.size ≤ 9223372036854775807) (hf : f < 18446744073709551616) :
    Calls Tryz.prog 138 #[.int .u64 f, .string s] w fun e w' => e = .returned (.bool (mayB f s)) ∧ w = w' := by
  have HH := Lib.hid (spots_any s w hs)
  have g1 : (0 : Int) ≤ (spA s : Int) := by omega
  have g2 : (0 : Int) ≤ (spB s : Int) := by omega
  have e1 := Lib.hid (and_bitA f s hf)
  have e2 := Lib.hid (and_bitB f s hf)
  go_enter Tryz.func138, Tryz.ntmps138
  go_wp2_with (go_at_call 166; refine HH.out.mono ?_; rintro e w' ⟨rfl, rfl⟩)
  · have h : bits BinOp.and IntKind.u64 ((f : Int) / 2 ^ min (spA s) 64) 1 = 1 := by assumption
    go_ret
    exact ⟨ret_bool (by simp [mayB, ← e1.out, ← e2.out, h]), rfl⟩
  · have h : ¬ bits BinOp.and IntKind.u64 ((f : Int) / 2 ^ min (spA s) 64) 1 = 1 := by assumption
    go_ret
    exact ⟨ret_bool (by simp [mayB, ← e1.out, ← e2.out, h]), rfl⟩
end Go.Proofs.YtaepdbkfaoiimabGreatDoor
/- The plain model of a table: its pages, what is wrong with entries. Conditions: none. -/
set_option linter.unusedVariables false
set_option linter.unusedSimpArgs false
namespace Go.Proofs.YtaepdbkfaoiimabGreatDoor
open Go.RowKit

/-- A filter as bytes. -/
def bitsB (f : Nat) : ByteArray := strOfNums (70 :: (List.range 8).map (fun i => ((f / 2 ^ (8 * i) % 256 : Nat) : Int)))
def chunks2 : List Ent → List (List Ent)
  | [] => []
  | [a] => [[a]]
  | a :: b :: l => [a, b] :: chunks2 l
/-- What the pages of a table are written with. -/
def rawPages (l : List Ent) : List ByteArray := bitsB (fOf (l.map Ent.k)) :: (chunks2 l).map (fun p => bytesL p.length p)
def tabPages (l : List Ent) : List Sheet := (rawPages l).map (fun d => ⟨pad d, false⟩)
/-- What is wrong with entries that rise, from the one ahead of them on. -/
def chkT : Option ByteArray → List Ent → Nat
  | _, [] => 0
  | p, e :: l => if faultE e ≠ 0 then faultE e else if (match p with | none => false | some k => leB e.k k) then 3 else chkT (some e.k) l
def tabF (l : List Ent) : Nat := if l.length = 0 ∨ 14 < l.length then 2 else chkT none l
theorem bitsB_size (f : Nat) : (bitsB f).size = 9 := by unfold bitsB; rw [strOfNums_size]; simp
theorem bitsB_at (f i : Nat) (h : i < 8) : bt (pad (bitsB f)) (1 + i) = f / 2 ^ (8 * i) % 256 := by
  have hd : (pad (bitsB f)).data.toList = [70] ++ (((List.range 8).map (fun i => UInt8.ofNat (((f / 2 ^ (8 * i) % 256 : Nat) : Int)).toNat)) ++ List.replicate (64 - (bitsB f).size) 0) := by
    simp only [pad, bitsB, strOfNums_data, List.map_cons, List.map_map]
    rfl
  have := bt_list hd i
  rw [show ([70] : List UInt8).length = 1 from rfl] at this
  rw [this, List.getD_eq_getElem?_getD, List.getElem?_append_left (by simpa using h), List.getElem?_map, List.getElem?_range h]
  show (UInt8.ofNat (((f / 2 ^ (8 * i) % 256 : Nat) : Int)).toNat).toNat = _
  rw [Int.toNat_natCast]
  simp
theorem bitsB_head (f : Nat) : bt (pad (bitsB f)) 0 = 70 := by
  have hd : (pad (bitsB f)).data.toList = [] ++ (UInt8.ofNat 70 :: (((List.range 8).map (fun i => UInt8.ofNat (((f / 2 ^ (8 * i) % 256 : Nat) : Int)).toNat)) ++ List.replicate (64 - (bitsB f).size) 0)) := by
    simp only [pad, bitsB, strOfNums_data, List.map_cons, List.map_map]
    rfl
  have := bt_list hd 0
  simpa using this
/-- The low bits and the next eight. -/
theorem or_step (f k : Nat) : (f % 2 ^ (8 * k)) ||| ((f / 2 ^ (8 * k) % 256) * 2 ^ (8 * k)) = f % 2 ^ (8 * (k + 1)) := by
  have hlt : f % 2 ^ (8 * k) < 2 ^ (8 * k) := Nat.mod_lt _ (Nat.pow_pos (by decide))
  rw [Nat.or_comm, Nat.mul_comm, ← Nat.two_pow_add_eq_or_of_lt hlt]
  have e : 2 ^ (8 * (k + 1)) = 2 ^ (8 * k) * 256 := by rw [Nat.mul_add, Nat.pow_add]
  rw [e, Nat.mod_mul]
  omega
end Go.Proofs.YtaepdbkfaoiimabGreatDoor
/- The lowest bits of an int are its rest. Plain laws; conditions: none. -/
set_option linter.unusedVariables false
set_option linter.unusedSimpArgs false
namespace Go.Proofs.YtaepdbkfaoiimabGreatDoor
open Go.RowKit

theorem and_low (n : Int) (m j : Nat) (hm : m + 1 = 2 ^ j) (hj : j ≤ 8) : bits BinOp.and IntKind.i64 n (m : Int) = n % (2 ^ j : Nat) := by
  have h64 : (2 : Int) ^ IntKind.i64.bits = 18446744073709551616 := by decide
  have h64n : (2 : Nat) ^ IntKind.i64.bits = 18446744073709551616 := by decide
  have h2 : 2 ^ j ≤ 2 ^ 8 := Nat.pow_le_pow_right (by decide) hj
  have h2' : (2 : Nat) ^ 8 = 256 := by decide
  unfold bits
  simp only [BitVec.toNat_and, BitVec.toNat_ofInt]
  have e1 : ((m : Int) % ((2 ^ IntKind.i64.bits : Nat) : Int)).toNat = m := by rw [h64n]; omega
  have e2 : m = 2 ^ j - 1 := by omega
  rw [e1, e2, Nat.and_two_pow_sub_one_eq_mod, IntKind.wrap_i64]
  have e3 : ((n % ((2 ^ IntKind.i64.bits : Nat) : Int)).toNat : Int) = n % 18446744073709551616 := by rw [h64n]; omega
  have e4 : (((n % ((2 ^ IntKind.i64.bits : Nat) : Int)).toNat % 2 ^ j : Nat) : Int) = n % (2 ^ j : Nat) := by
    rw [Int.natCast_emod, e3]
    exact Int.emod_emod_of_dvd _ (by
      have : ((2 ^ j : Nat) : Int) ∣ ((2 ^ 64 : Nat) : Int) := Int.natCast_dvd_natCast.2 (Nat.pow_dvd_pow 2 (by omega))
      exact this)
  rw [e4]
  have hpos : 0 < 2 ^ j := Nat.pow_pos (by decide)
  have := Int.emod_nonneg n (b := ((2 ^ j : Nat) : Int)) (by omega)
  have := Int.emod_lt_of_pos n (b := ((2 ^ j : Nat) : Int)) (by omega)
  omega
theorem and63 (n : Int) : bits BinOp.and IntKind.i64 n 63 = n % 64 := and_low n 63 6 (by decide) (by decide)
theorem and31 (n : Int) : bits BinOp.and IntKind.i64 n 31 = n % 32 := and_low n 31 5 (by decide) (by decide)
theorem and15 (n : Int) : bits BinOp.and IntKind.i64 n 15 = n % 16 := and_low n 15 4 (by decide) (by decide)
theorem and7 (n : Int) : bits BinOp.and IntKind.i64 n 7 = n % 8 := and_low n 7 3 (by decide) (by decide)
theorem and3 (n : Int) : bits BinOp.and IntKind.i64 n 3 = n % 4 := and_low n 3 2 (by decide) (by decide)
theorem and1 (n : Int) : bits BinOp.and IntKind.i64 n 1 = n % 2 := and_low n 1 1 (by decide) (by decide)
end Go.Proofs.YtaepdbkfaoiimabGreatDoor
/- The contracts of package table: bits, unbits, keys, Check, page, All. Conditions: none but those that each names. -/
set_option linter.unusedVariables false
set_option linter.unusedSimpArgs false
namespace Go.Proofs.YtaepdbkfaoiimabGreatDoor
open Go.RowKit
attribute [local go_sem] bt_idx bt_wrap bt_extract

theorem below_drewN {B : Nat} {a w : World} (h : Below B a w) (n : Nat) : Below B a (w.drewN n) := ⟨h.os, h.tape, h.output, h.size, h.block⟩
section
variable {P : Program} {w : World}
/-- A row that is owned, or one that is full and only read. -/
def Apd (w : World) (base : Nat) (e : TypeId) (size : Nat) (v : Value) (n : Nat) (xs : List Value) : Prop :=
  w.ownsRow base e size v n xs ∨ (0 < n ∧ (∃ g, v = .slice (some ⟨g, 0, none⟩) n n ∧ base ≤ g) ∧ Rd 0 e size w v n xs)
theorem Apd.alloc {base e size n : Nat} {v : Value} {xs : List Value} (h : Apd w base e size v n xs) (o : Obj) : Apd (w.alloc o) base e size v n xs := by
  rcases h with h | ⟨h1, h2, h3⟩
  · exact .inl (own_alloc h o)
  · exact .inr ⟨h1, h2, h3.below ((Below.refl _ _).alloc (Nat.le_refl _) o)⟩
theorem Apd.rd {base e size n B : Nat} {v : Value} {xs : List Value} (h : Apd w base e size v n xs) : Rd B e size w v n xs := by
  rcases h with h | ⟨h1, h2, h3⟩
  · exact Rd.of_own h
  · exact h3.mono (Nat.zero_le _)
theorem Apd.ge {base e size n : Nat} {v : Value} {xs : List Value} (h : Apd w base e size v n xs) : ∀ k, v.ownBlock = some k → base ≤ k := by
  rcases h with h | ⟨h1, ⟨g, rfl, hg⟩, h3⟩
  · exact own_ge h
  · intro k hk; cases hk; exact hg
theorem apd_mark (w : World) (T : TypeId) (x : Value) (fz : Nat × Nat) : Apd (w.alloc (.cells #[x] T fz)) w.heap.size T 1 (.slice (some ⟨w.heap.size, 0, none⟩) 1 1) 1 [x] := by
  refine .inr ⟨Nat.one_pos, ⟨_, rfl, Nat.le_refl _⟩, rfl, _, 1, rfl, Nat.le_refl _, by decide, fun _ => ⟨_, 0, rfl, .inr ⟨_, _, heap_alloc_new w _⟩, heap_lt (heap_alloc_new w _), fun j u hu => ?_⟩⟩
  have hh := heap_alloc_new w (.cells #[x] T fz)
  have hc : (w.alloc (.cells #[x] T fz)).cell? ⟨w.heap.size, 0 + j, none⟩ = (#[x] : Array Value)[j]? := by
    unfold World.cell?
    rw [hh]
    simp
  rw [hc]
  simpa using hu
theorem run_append_apd (base : Nat) (t ty e : TypeId) (i : TypeInfo) (z : Value) (size bytes : Nat) (ht : P.underlying t = some (.slice e)) (hi : P.info? e = some i) (hz : i.zero = some z)
    (hsize : i.size = size) (hby : i.bytes = bytes) (hzs : z.cells.size = size) (hsz : 0 < size)
    (v : Value) (n : Nat) (xs : List Value) (hown : Apd w base e size v n xs)
    (B T : Nat) (x : Value) (m : Nat) (news : List Value) (hm : 0 < m) (hr : Rd B T size w x m news) (h1 : ∀ u ∈ news, u.oneCell' = true)
    (h63 : n + m ≤ maxLen) (hbytes : (n + m) * bytes ≤ 140737488355328) (hbase : base ≤ w.heap.size) :
    ∃ v' w', (Builtin.append_ #[t, t] ty #[v, x]).run P w = .ok v' w' ∧ w'.ownsRow base e size v' (n + m) (xs ++ news) ∧ w.grownBy w' v.ownBlock := by
  rcases hown with hown | ⟨h0, ⟨g, rfl, hg⟩, hrd⟩
  · obtain ⟨v', w', e1, e2, e3, e4⟩ := run_append_rd w base t ty e i z size bytes ht hi hz hsize hby hzs hsz v n xs hown B T x m news hr h1 h63 hbytes hbase
    exact ⟨v', w', e1, e2, e3⟩
  · subst hsize
    subst hby
    have hlen : (xs ++ news).length = (n + m) * i.size := by rw [List.length_append, hrd.1, hr.1, Nat.add_mul]
    have hsmall : n + m ≤ 9223372036854775807 := by simp only [maxLen] at h63; omega
    obtain ⟨b, o, eA, _, _, hcc⟩ := rd_at' hrd h0
    cases eA
    obtain ⟨A, c, rfl⟩ := rd_form' hr
    obtain ⟨b2, o2, rfl, _, _, hcc2⟩ := rd_at' hr hm
    have hr := run_append_grow (P := P) w t ty e i z ht hi hz ⟨g, 0, none⟩ n n xs hrd.1 (fun j u hu => by rw [addr_add]; exact hcc j u hu) ⟨b2, o2, none⟩ m c news hr.1 (fun j u hu => by rw [addr_add]; exact hcc2 j u hu) (by omega) (by omega) (growslice_fits (by omega) hbytes)
    have hge := grownCap_ge w (n + m) n e
    have hcm : grownCap w (n + m) n e ≤ maxLen := grownCap_le_maxLen w (n + m) n e h63
    refine ⟨_, _, hr, ⟨hlen, .inr ⟨w.heap.size, _, _, rfl, hbase, heap_alloc_new w.drew _, hge, hcm, ?_, ?_⟩⟩, ⟨rfl, rfl, rfl, by simp, fun k hk _ => by rw [Below.heap_alloc w.drew _ k hk]; rfl⟩⟩
    · have hxl := hlen
      rw [List.length_append] at hxl
      simp only [Array.size_append, List.size_toArray, size_zeroCells, hzs, hxl, ← Nat.add_mul]
      congr 1
      omega
    · simp only [Array.toList_append, List.append_assoc]
      rw [← List.append_assoc, ← hlen]
      exact List.take_left
theorem wpList_append_apd {ops : Array Oper} {rest : List Oper} {o : Oper} {a : Act} {Q : Exit → Act → World → Prop} (hgd : o.guard = none) (s x : Operand) (t : TypeId)
    (ho : o.op = .call { callee := .builtin .append, args := #[s, x], argTypes := #[t, t] })
    (base : Nat) (e : TypeId) (i : TypeInfo) (z : Value) (size bytes : Nat) (ht : P.underlying t = some (.slice e)) (hi : P.info? e = some i) (hz : i.zero = some z)
    (hsize : i.size = size) (hby : i.bytes = bytes) (hzs : z.cells.size = size) (hsz : 0 < size)
    (v : Value) (n : Nat) (xs : List Value) (hs : a.eval s = v) (hown : Apd w base e size v n xs)
    (B T : Nat) (vx : Value) (m : Nat) (news : List Value) (hm : 0 < m) (hx : a.eval x = vx) (hr : Rd B T size w vx m news) (h1 : ∀ u ∈ news, u.oneCell' = true)
    (h63 : n + m ≤ maxLen) (hbytes : (n + m) * bytes ≤ 140737488355328) (hbase : base ≤ w.heap.size)
    (h : ∀ v' w', w'.ownsRow base e size v' (n + m) (xs ++ news) → w.grownBy w' v.ownBlock → wpList P ops Q rest (a.put o.dst v') w') : wpList P ops Q (o :: rest) a w :=
  wpList_plain hgd fun _ hK => by
    obtain ⟨v', w', hrun, h2, h3⟩ := run_append_apd (P := P) base t o.type e i z size bytes ht hi hz hsize hby hzs hsz v n xs hown B T vx m news hm hr h1 h63 hbytes hbase
    unfold Oper.wp execOp
    simp only [ho, resolve, invoke, builtin, Sem.run_bind, Sem.run_pure, Result.andThen_ok, List.map_toArray, List.map_cons, List.map_nil, hs, hx, hrun]
    exact hK _ _ (h v' w' h2 h3)
end
theorem below_apd {n : Nat} {w0 w w1 : World} {e : TypeId} {size k : Nat} {v : Value} {xs : List Value} (hb : Below n w0 w) (hn : n ≤ w0.heap.size) (h : Apd w n e size v k xs) (hg : w.grownBy w1 v.ownBlock) : Below n w0 w1 :=
  hb.grown hg (Nat.le_trans hn hb.size) h.ge
theorem or_u64 (a b : Nat) (k : Nat) (ha : a < 18446744073709551616) (hb : b * 2 ^ (8 * k) < 18446744073709551616) :
    Value.int .u64 (bits .or .u64 (a : Int) (IntKind.u64.wrap ((b : Int) * 2 ^ (8 * k)))) = .int .u64 ((a ||| (b * 2 ^ (8 * k)) : Nat) : Int) := by
  have h3 : (b : Int) * 2 ^ (8 * k) = ((b * 2 ^ (8 * k) : Nat) : Int) := by simp
  have h4 : IntKind.u64.wrap ((b * 2 ^ (8 * k) : Nat) : Int) = ((b * 2 ^ (8 * k) : Nat) : Int) := by
    generalize b * 2 ^ (8 * k) = x at *
    have h2 : ((x : Nat) : Int) < 18446744073709551616 := by omega
    have h1 : (0 : Int) ≤ ((x : Nat) : Int) := by omega
    simp [IntKind.wrap, IntKind.bits, IntKind.signed]
    omega
  rw [h3, h4, Go.u64_or_nat _ _ ha hb]
set_option maxRecDepth 20000 in
set_option maxHeartbeats 4000000 in
theorem bits_any (f : Nat) (hf : f < 18446744073709551616) (w : World) :
    Calls Tryz.prog 163 #[.int .u64 f] w fun e w' => e = .returned (.string (bitsB f)) ∧ Below w.heap.size w w' := by
  have HF : Hid (f < 18446744073709551616) := hf
  clear hf
  have kc := fun (w : World) (C : Array Value) (n c : Nat) => Lib.run_convert_bytes_const (P := Tryz.prog) w 117 5 C n c Tryz.underlying117 Tryz.underlying5
  go_enter Tryz.func163, Tryz.ntmps163
  go_wp2_with fail
  have HROW := Lib.hid (apd_mark w 5 (.int .u8 70) (1, 2))
  go_loopw [3, 7] (fun u i wr => ∃ k : Nat, k ≤ 8 ∧ i = .int .i64 (k : Int) ∧ Hid (Apd wr w.heap.size 5 1 u (1 + k) (Value.int .u8 70 :: (List.range k).map (fun i => Value.int .u8 ((f / 2 ^ (8 * i) % 256 : Nat) : Int)))) ∧ Below w.heap.size w wr) (fun _ i _ => 8 - (intOf i).toNat)
  case atStart => exact ⟨0, by omega, rfl, HROW.out, (Below.refl _ _).alloc (Nat.le_refl _) _⟩
  case round =>
    obtain ⟨k, hk, rfl, hown, hbl⟩ := hrel
    by_cases hlt : k < 8
    · have t8 : decide ((k : Int) < 8) = true := decide_eq_true (by omega)
      have hbs := hbl.size
      have g0 : (0 : Int) ≤ 8 * (k : Int) := by omega
      obtain ⟨i0, hi, hz0, hz1, hz2⟩ := info_parts info_u8
      have e8 : ((f / 2 ^ (8 * k) % 256 : Nat) : Int) = (f : Int) / 2 ^ (8 * k) % 256 := by simp
      have hown' := Lib.hid (hown.out.alloc (.cells #[.int .u8 ((f : Int) / 2 ^ (8 * k) % 256)] 5))
      have hone := Lib.hid (Rd.of_own (B := 0) (own_one (base := 0) (Blk.new wr 5 #[.int .u8 ((f : Int) / 2 ^ (8 * k) % 256)]) (by omega)))
      have HB' := Lib.hid (hbl.alloc hbl.size (.cells #[.int .u8 ((f : Int) / 2 ^ (8 * k) % 256)] 5))
      have E8 := Lib.hid e8
      clear e8
      go_wp2_with (at_builtin; go_loud (refine wpList_append_apd rfl (.tmp 10) (.tmp 16) 117 rfl w.heap.size 5 i0 _ 1 1 Tryz.underlying117 hi hz0 hz1 hz2 rfl (by decide) _ _ _ rfl hown'.out 0 5 _ 1 _ Nat.one_pos rfl hone.out (by simp [Value.oneCell']) (by unfold maxLen; omega) (by omega) (by simp; omega) ?_); intro v4 w4 hown4 hg4)
      have HB4 := Lib.hid (below_apd HB'.out (Nat.le_refl _) hown'.out hg4)
      have HO4 : Hid (Apd w4 w.heap.size 5 1 v4 (1 + (k + 1)) (Value.int .u8 70 :: (List.range (k + 1)).map (fun i => Value.int .u8 ((f / 2 ^ (8 * i) % 256 : Nat) : Int)))) := by
        rw [Hid, List.range_succ, List.map_append, ← Nat.add_assoc]
        simp only [List.map_cons, List.map_nil]
        rw [E8.out]
        exact .inl hown4
      clear hi hz0 hz1 hz2 hg4 hown4
      go_roundw
      case rel => exact ⟨k + 1, by omega, by go_num, HO4.out, HB4.out⟩
      case measure => simp [intOf] <;> omega
    · have hk8 : k = 8 := by omega
      subst hk8
      have t8 : decide (((8 : Nat) : Int) < 8) = false := by decide
      have hrd := hown.out.rd (B := w.heap.size)
      obtain ⟨A5, c5, rfl⟩ := rd_form' hrd
      obtain ⟨b5, o5, rfl, _, _, hc5⟩ := rd_at' hrd (by omega)
      have hcv := run_convert_bytes_arg (P := Tryz.prog) wr 117 5 Tryz.underlying117 Tryz.underlying5 b5 o5 (1 + 8) c5 (70 :: (List.range 8).map (fun i => ((f / 2 ^ (8 * i) % 256 : Nat) : Int))) (by simp) (fun i hi => by
        refine hc5 i _ ?_
        have e : (Value.int .u8 70 :: (List.range 8).map (fun i => Value.int .u8 ((f / 2 ^ (8 * i) % 256 : Nat) : Int))) = (70 :: (List.range 8).map (fun i => ((f / 2 ^ (8 * i) % 256 : Nat) : Int))).map (.int .u8) := by simp
        rw [e, List.getElem?_map, List.getD_eq_getElem?_getD, List.getElem?_eq_getElem (by simp; omega)]
        rfl) 9 Tryz.underlying9
      rw [show strOfNums (70 :: (List.range 8).map (fun i => ((f / 2 ^ (8 * i) % 256 : Nat) : Int))) = bitsB f from rfl] at hcv
      clear hc5 hrd hown
      go_wp2_with fail
      go_ret
      exact ⟨rfl, hbl⟩
set_option maxRecDepth 20000 in
set_option maxHeartbeats 4000000 in
theorem unbits_any (f : Nat) (hf : f < 18446744073709551616) (w : World) :
    Calls Tryz.prog 85 #[.string (pad (bitsB f))] w fun e w' => e = .returned (.tuple #[.int .u64 f, .bool true]) ∧ ∃ n, w.drewN n = w' := by
  have hsz : (pad (bitsB f)).size = 64 := pad_size (by rw [bitsB_size]; omega)
  have HAT : Hid (∀ i, i < 8 → bt (pad (bitsB f)) (1 + i) = f / 2 ^ (8 * i) % 256) := fun i hi => bitsB_at f i hi
  have HHD : Hid (bt (pad (bitsB f)) 0 = 70) := bitsB_head f
  have HF : Hid (f < 18446744073709551616) := hf
  generalize pad (bitsB f) = s at *
  clear hf
  go_enter Tryz.func85, Tryz.ntmps85
  go_wp2_with fail
  go_loop [4, 6] (fun u i => ∃ k : Nat, k ≤ 8 ∧ i = .int .i64 (k : Int) ∧ u = .int .u64 ((f % 2 ^ (8 * k) : Nat) : Int)) (fun _ i => 8 - (intOf i).toNat)
  case atStart => exact ⟨0, by omega, rfl, by rw [Nat.mul_zero, Nat.pow_zero, Nat.mod_one]; rfl⟩
  case round =>
    obtain ⟨k, hk, rfl, rfl⟩ := hrel
    by_cases hlt : k < 8
    · have t8 : decide ((k : Int) < 8) = true := decide_eq_true (by omega)
      have g0 : (0 : Int) ≤ 8 * (k : Int) := by omega
      have i0 : (0 : Int) ≤ 1 + (k : Int) := by omega
      have i1 : 1 + (k : Int) < (s.size : Int) := by omega
      have i3 : 1 + k < s.size := by omega
      have l7 := bt_lt s (1 + k)
      go_wp2_with fail
      have l6 : f % 2 ^ (8 * k) < 18446744073709551616 := Nat.lt_of_le_of_lt (Nat.mod_le _ _) HF.out
      have HSUM : Hid (Value.int .u64 (bits .or .u64 (f % 2 ^ (8 * k) : Int) (IntKind.u64.wrap ((bt s (1 + k) : Int) * 2 ^ (8 * k)))) = .int .u64 ((f % 2 ^ (8 * (k + 1)) : Nat) : Int)) := by
        have hb : f / 2 ^ (8 * k) % 256 * 2 ^ (8 * k) < 18446744073709551616 := by
          have h1 : f / 2 ^ (8 * k) % 256 * 2 ^ (8 * k) ≤ f / 2 ^ (8 * k) * 2 ^ (8 * k) := Nat.mul_le_mul_right _ (Nat.mod_le _ _)
          exact Nat.lt_of_le_of_lt (Nat.le_trans h1 (Nat.div_mul_le_self _ _)) HF.out
        have h1 := or_u64 (f % 2 ^ (8 * k)) (f / 2 ^ (8 * k) % 256) k l6 hb
        rw [or_step] at h1
        rw [Hid, HAT.out k hlt, ← h1]
        simp
      go_roundw
      case rel => exact ⟨k + 1, by omega, by go_num, HSUM.out⟩
      case measure => simp [intOf] <;> omega
    · have hk8 : k = 8 := by omega
      subst hk8
      have t8 : decide (((8 : Nat) : Int) < 8) = false := by decide
      have HL : Hid ((f % 2 ^ (8 * 8) : Nat) = f) := Nat.mod_eq_of_lt HF.out
      have z0 : 0 < s.size := by omega
      have hb0 : ((bt s 0 : Nat) : Int) = 70 := by rw [HHD.out]; rfl
      go_wp2_with fail
      go_quiet (fail)
      go_wp2
      go_ret2
      have e : (f : Int) % 18446744073709551616 = f := by have := HF.out; omega
      rw [e]
      exact ⟨rfl, _, rfl⟩
theorem info_str : (Tryz.prog.info? 9).map (fun i => (i.zero, i.size, i.bytes)) = some (some (.string ByteArray.empty), 1, 16) := by kernel_rfl
theorem rd_lit1s (B : Nat) (w : World) (g : Nat) (hg : w.heap.size = g) (s : ByteArray) : Rd B 9 1 (w.alloc (.cells #[.string s] 9)) (.slice (some ⟨g, 0, none⟩) 1 1) 1 [.string s] := by
  subst hg
  exact Rd.of_own (own_one (base := 0) (Blk.new w 9 #[.string s]) (by omega))
set_option maxRecDepth 20000 in
set_option maxHeartbeats 4000000 in
theorem keys_any (B : Nat) (v : Value) (l : List Ent) (w : World) (h : Ents B w v l) (hn : l.length ≤ 1000000) :
    Calls Tryz.prog 165 #[v] w fun e w' => ∃ u, e = .returned u ∧ Strs B w' u (l.map Ent.k) ∧ Below w.heap.size w w' := by
  obtain ⟨A, c, rfl, hc, hc2, hcell⟩ := h.form
  have HC := Lib.hid hcell
  have HO : Hid (∀ e ∈ l, EntOk e) := h.2
  clear hcell h
  go_enter Tryz.func165, Tryz.ntmps165
  go_wp2_with fail
  go_loopw [3, 8] (fun u i wr => ∃ k : Nat, k ≤ l.length ∧ i = .int .i64 k ∧ Hid (wr.ownsRow w.heap.size 9 1 u k ((l.take k).map (fun e => Value.string e.k))) ∧ Below w.heap.size w wr) (fun _ i _ => l.length - (intOf i).toNat)
  case atStart => exact ⟨0, Nat.zero_le _, rfl, World.ownsRow_nil _ _ _ _, Below.refl _ _⟩
  case round =>
    obtain ⟨k, hk, rfl, hown, hbl⟩ := hrel
    by_cases hlt : k < l.length
    · obtain ⟨x, hx, htk, _⟩ := getElem?_of_lt hlt
      obtain ⟨b, o, rfl, hb, c1, c2, c3⟩ := HC.out k x hx
      have d1 := (hbl.cell (p := ⟨b, o + k * 3, none⟩) hb).trans c1
      have d2 := (hbl.cell (p := ⟨b, o + k * 3 + 1, none⟩) hb).trans c2
      have d3 := (hbl.cell (p := ⟨b, o + k * 3 + 2, none⟩) hb).trans c3
      have HT := Lib.hid htk
      clear htk hx c1 c2 c3
      obtain ⟨i0, hi, hz0, hz1, hz2⟩ := info_parts info_str
      have hbs := hbl.size
      have hown' := Lib.hid (own_alloc (own_alloc hown.out (.cells #[.string x.k, .string x.v, .bool x.g] 56)) (.cells #[.string x.k] 9))
      have HB0 := Lib.hid ((hbl.alloc hbs (.cells #[.string x.k, .string x.v, .bool x.g] 56)).alloc (by simp; omega) (.cells #[.string x.k] 9))
      have HL := Lib.hid (rd_lit1s B (wr.alloc (.cells #[.string x.k, .string x.v, .bool x.g] 56)) (wr.heap.size + 1) (by simp) x.k)
      go_wp2_with (at_builtin; go_loud (refine wpList_append_rd _ rfl (.tmp 12) (.tmp 15) 22 rfl w.heap.size 9 i0 _ 1 16 Tryz.underlying22 hi hz0 hz1 hz2 rfl (by decide) u3 _ _ rfl hown'.out B 9 _ 1 _ rfl HL.out (by simp [Value.oneCell']) (by unfold maxLen; omega) (by omega) (by simp; omega) ?_); intro v1 w1 hown1 hg1 hat1)
      have hb1 := below_own HB0.out (Nat.le_refl _) hown'.out hg1
      have hown2 : Hid (w1.ownsRow w.heap.size 9 1 v1 (k + 1) ((l.take (k + 1)).map (fun e => Value.string e.k))) := by
        rw [Hid, HT.out, List.map_append]; exact hown1
      clear hi hz0 hz1 hz2 hg1 hat1 hown1
      go_roundw
      case rel => exact ⟨k + 1, by omega, by go_num, hown2, hb1⟩
      case measure => simp [intOf] <;> omega
    · have hge : k = l.length := by omega
      subst hge
      go_wp2_with fail
      go_ret
      have hr := Rd.of_own (B := B) hown.out
      rw [List.take_length] at hr
      refine ⟨_, rfl, ⟨?_, fun s hs => ?_⟩, hbl⟩
      · rw [List.length_map, List.map_map]; exact hr
      · obtain ⟨e, he, rfl⟩ := List.mem_map.1 hs
        exact (HO.out e he).1
/-- The key ahead of place k. -/
def prevK (l : List Ent) (k : Nat) : Option ByteArray := if k = 0 then none else (l[k - 1]?).map Ent.k
theorem chkt_step {l : List Ent} {k : Nat} {y : Ent} (hy : l[k]? = some y) (h0 : faultE y = 0) (h1 : (match prevK l k with | none => false | some p => leB y.k p) = false) :
    chkT (prevK l k) (l.drop k) = chkT (prevK l (k + 1)) (l.drop (k + 1)) := by
  have hk : k < l.length := by
    rcases Nat.lt_or_ge k l.length with h | h
    · exact h
    · rw [List.getElem?_eq_none h] at hy; cases hy
  have hyk := hy
  rw [List.getElem?_eq_getElem hk] at hy
  have hy := Option.some.inj hy
  rw [List.drop_eq_getElem_cons hk, hy]
  show (if faultE y ≠ 0 then faultE y else if (match prevK l k with | none => false | some p => leB y.k p) then 3 else chkT (some y.k) (l.drop (k + 1))) = _
  rw [if_neg (by simp [h0]), h1, if_neg (by simp)]
  simp [prevK, hyk]
theorem chkt_fault {l : List Ent} {k : Nat} {y : Ent} (hy : l[k]? = some y) (h0 : faultE y ≠ 0) : chkT (prevK l k) (l.drop k) = faultE y := by
  have hk : k < l.length := by
    rcases Nat.lt_or_ge k l.length with h | h
    · exact h
    · rw [List.getElem?_eq_none h] at hy; cases hy
  rw [List.getElem?_eq_getElem hk] at hy
  have hy := Option.some.inj hy
  rw [List.drop_eq_getElem_cons hk, hy]
  exact if_pos h0
theorem chkt_three {l : List Ent} {k : Nat} {y : Ent} (hy : l[k]? = some y) (h0 : faultE y = 0) (h1 : (match prevK l k with | none => false | some p => leB y.k p) = true) : chkT (prevK l k) (l.drop k) = 3 := by
  have hk : k < l.length := by
    rcases Nat.lt_or_ge k l.length with h | h
    · exact h
    · rw [List.getElem?_eq_none h] at hy; cases hy
  rw [List.getElem?_eq_getElem hk] at hy
  have hy := Option.some.inj hy
  rw [List.drop_eq_getElem_cons hk, hy]
  show (if faultE y ≠ 0 then faultE y else if (match prevK l k with | none => false | some p => leB y.k p) then 3 else chkT (some y.k) (l.drop (k + 1))) = _
  rw [if_neg (by simp [h0]), h1, if_pos rfl]
set_option maxRecDepth 20000 in
set_option maxHeartbeats 4000000 in
theorem tcheck_any (B : Nat) (v : Value) (l : List Ent) (w : World) (h : Ents B w v l) :
    Calls Tryz.prog 87 #[v] w fun e w' => e = .returned (errV (tabF l)) ∧ Below w.heap.size w w' := by
  obtain ⟨A, c, rfl, hc, hc2, hcell⟩ := h.form
  have HC := Lib.hid hcell
  clear hcell h
  by_cases hz : l.length = 0 ∨ 14 < l.length
  · have HF : Hid (tabF l = 2) := if_pos hz
    by_cases h0 : l.length = 0
    · have z0 : (((l.length : Nat) : Int) == 0) = true := by rw [h0]; rfl
      go_enter Tryz.func87, Tryz.ntmps87
      go_wp2_with fail
      go_ret
      exact ⟨by rw [HF.out]; rfl, Below.refl _ _⟩
    · have z0 : (((l.length : Nat) : Int) == 0) = false := beq_eq_false_iff_ne.2 (by omega)
      have z1 : decide ((14 : Int) < ((l.length : Nat) : Int)) = true := decide_eq_true (by omega)
      go_enter Tryz.func87, Tryz.ntmps87
      go_wp2_with fail
      go_ret
      exact ⟨by rw [HF.out]; rfl, Below.refl _ _⟩
  · have HF : Hid (tabF l = chkT none l) := if_neg hz
    have z0 : (((l.length : Nat) : Int) == 0) = false := beq_eq_false_iff_ne.2 (by omega)
    have z1 : decide ((14 : Int) < ((l.length : Nat) : Int)) = false := decide_eq_false (by omega)
    go_enter Tryz.func87, Tryz.ntmps87
    have hl14 : l.length ≤ 14 := by omega
    go_wp2_with fail
    go_loopw [3, 17] (fun u i wr => ∃ k : Nat, k ≤ l.length ∧ i = .int .i64 k ∧ Hid (chkT none l = chkT (prevK l k) (l.drop k)) ∧ Below w.heap.size w wr) (fun _ i _ => l.length - (intOf i).toNat)
    case atStart => exact ⟨0, Nat.zero_le _, rfl, rfl, Below.refl _ _⟩
    case round =>
      obtain ⟨k, hk, rfl, hch, hbl⟩ := hrel
      by_cases hlt : k < l.length
      · obtain ⟨y, hy, hty, _⟩ := getElem?_of_lt hlt
        obtain ⟨b, o, hA, hb, c1, c2, c3⟩ := HC.out k y hy
        have d1 := (hbl.cell (p := ⟨b, o + k * 3, none⟩) hb).trans c1
        have d2 := (hbl.cell (p := ⟨b, o + k * 3 + 1, none⟩) hb).trans c2
        have d3 := (hbl.cell (p := ⟨b, o + k * 3 + 2, none⟩) hb).trans c3
        have HY := Lib.hid hy
        clear c1 c2 c3 hy hty
        have t1 : decide ((k : Int) < ((l.length : Nat) : Int)) = true := decide_eq_true (by omega)
        have g1 : (0 : Int) ≤ (k : Int) := by omega
        have g2 : (k : Int) < (l.length : Int) := by omega
        have HB1 := Lib.hid (hbl.alloc hbl.size (.cells #[.string y.k, .string y.v, .bool y.g] 56))
        have HK := Lib.hid (Blk.new wr 56 #[.string y.k, .string y.v, .bool y.g])
        have HCK := Lib.hid (check_any y (wr.alloc (.cells #[.string y.k, .string y.v, .bool y.g] 56)))
        by_cases hf : faultE y = 0
        · rw [show errV (faultE y) = Value.nilIface from by rw [hf]; rfl] at HCK
          have HF0 := Lib.hid hf
          have HBL := Lib.hid hbl
          clear hf hbl
          subst hA
          go_wp2_with (go_at_call 88; refine HCK.out.mono ?_; rintro e2 w2 ⟨rfl, hb2⟩; have HK2 := Lib.hid (HK.out.below hb2 (by simp)); have HB2 := Lib.hid (HB1.out.trans (hb2.mono HB1.out.size)); have q0 := HK2.out.cell 0; have q1 := HK2.out.cell 1; have q2 := HK2.out.cell 2; simp at q0 q1 q2; clear hb2)
          rcases Nat.eq_zero_or_pos k with rfl | hp
          · have t9 : decide ((0 : Int) < ((0 : Nat) : Int)) = false := by decide
            go_quiet (fail)
            go_wp2_with fail
            go_roundw
            case rel => exact ⟨1, by omega, by go_num, hch.out.trans (chkt_step HY.out HF0.out rfl), below_drewN HB2.out _⟩
            case measure => simp [intOf] <;> omega
          · obtain ⟨j, rfl⟩ : ∃ j, k = j + 1 := ⟨k - 1, by omega⟩
            obtain ⟨pv, hpv⟩ : ∃ pv, l[j]? = some pv := ⟨_, List.getElem?_eq_getElem (by omega)⟩
            obtain ⟨b', o', hA', hb', c1, c2, c3⟩ := HC.out j pv hpv
            have hA' := Option.some.inj hA'
            injection hA' with eb eo
            subst eb; subst eo
            have d4 := (HB2.out.cell (p := ⟨b, o + j * 3, none⟩) hb').trans c1
            have HPV := Lib.hid hpv
            clear c1 c2 c3 hpv
            have t9 : decide ((0 : Int) < ((j + 1 : Nat) : Int)) = true := decide_eq_true (by omega)
            have t8 : (((j + 1 : Nat) : Int)) - 1 = (j : Int) := by omega
            have g3 : (0 : Int) ≤ (j : Int) := by omega
            have g4 : (j : Int) < (l.length : Int) := by omega
            have hpr : Hid ((match prevK l (j + 1) with | none => false | some p => leB y.k p) = (Op.bytesLess y.k.toList pv.k.toList || y.k.toList == pv.k.toList)) := by
              have e : prevK l (j + 1) = some pv.k := by simp [prevK, HPV.out]
              rw [Hid, e]
              rfl
            have HG : Hid ((match prevK l (j + 1) with | none => false | some p => leB y.k p) = true → tabF l = 3) := fun h => by rw [HF.out, hch.out, chkt_three HY.out HF0.out h]
            have HN : Hid ((match prevK l (j + 1) with | none => false | some p => leB y.k p) = false → chkT none l = chkT (prevK l (j + 1 + 1)) (l.drop (j + 1 + 1))) := fun h => by rw [hch.out, chkt_step HY.out HF0.out h]
            clear hch
            go_quiet (fail)
            cases hL : (Op.bytesLess y.k.toList pv.k.toList || y.k.toList == pv.k.toList)
            · have hn := Lib.hid (HN.out (hpr.out.trans hL))
              go_wp2_with fail
              go_roundw
              case rel => exact ⟨j + 1 + 1, by omega, by go_num, hn, below_drewN HB2.out _⟩
              case measure => simp [intOf] <;> omega
            · have hn := Lib.hid (HG.out (hpr.out.trans hL))
              go_wp2_with fail
              go_ret
              exact ⟨by rw [hn.out]; rfl, below_drewN HB2.out _⟩
        · have he : errV (faultE y) = .iface 39 (.int .i64 (faultE y)) := by unfold errV; rw [if_neg hf]
          rw [he] at HCK
          have HE : Hid (tabF l = faultE y) := by rw [Hid, HF.out, hch.out, chkt_fault HY.out hf]
          have HE2 := Lib.hid he
          clear hf hbl he
          subst hA
          go_wp2_with (go_at_call 88; refine HCK.out.mono ?_; rintro e2 w2 ⟨rfl, hb2⟩; have HB2 := Lib.hid (HB1.out.trans (hb2.mono HB1.out.size)); clear hb2)
          go_ret
          exact ⟨by rw [HE.out, HE2.out]; rfl, HB2.out⟩
      · have hkl : k = l.length := by omega
        subst hkl
        have t1 : decide (((l.length : Nat) : Int) < ((l.length : Nat) : Int)) = false := decide_eq_false (by omega)
        have HE : Hid (tabF l = 0) := by rw [Hid, HF.out, hch.out, List.drop_length]; rfl
        go_wp2_with fail
        go_ret
        exact ⟨by rw [HE.out]; rfl, hbl⟩
end Go.Proofs.YtaepdbkfaoiimabGreatDoor
/- The contracts of table.page and table.All. Conditions: none but those that each names. -/
set_option linter.unusedVariables false
set_option linter.unusedSimpArgs false
namespace Go.Proofs.YtaepdbkfaoiimabGreatDoor
open Go.RowKit
attribute [local go_sem ↓] eql_err eql_nilerr neq_err neq_nilerr guard_err guard_nilerr guardn_err guardn_nilerr
theorem ents_nil (B : Nat) (w : World) : Ents B w (.slice none 0 0) [] := ⟨Rd.nil _ _ _ _, fun e he => by simp at he⟩
theorem read_size {c : Chip} (h : CWf c) (b q : Int) : (c.read b q).1.size ≤ 9223372036854775807 := by
  unfold Chip.read
  split
  · decide
  · split
    · decide
    · rename_i hb
      split
      · decide
      · rename_i s hs
        split
        · decide
        · rename_i ht
          have := h.size b.toNat (by omega) s (List.mem_of_getElem? hs) (by simpa using ht)
          show s.d.size ≤ _
          omega
/-- What a page of a table has, as it is read: its entries, its error. -/
def pageR (r : ByteArray × Nat) : List Ent × Nat :=
  if r.2 = 5 then ([], 0) else if r.2 ≠ 0 then ([], r.2) else ((parseR r.1).getD [], perr r.1)
set_option maxRecDepth 20000 in
set_option maxHeartbeats 1000000 in
theorem page_any (B p : Nat) (c : Chip) (b q : Int) (w : World) (h : ChipR B w p c) :
    Calls Tryz.prog 86 #[.pointer (some ⟨p, 0, none⟩), .int .i64 b, .int .i64 q] w fun e w' => ∃ v, e = .returned (.tuple #[v, errV (pageR (c.read b q)).2]) ∧ Ents B w' v (pageR (c.read b q)).1 ∧ Below w.heap.size w w' := by
  have HR := Lib.hid (cread_any B p c b q w h)
  have hsz : (c.read b q).1.size ≤ 9223372036854775807 := read_size h.wf b q
  generalize hr : c.read b q = r at *
  clear hr h
  obtain ⟨s, n⟩ := r
  by_cases h5 : n = 5
  · subst h5
    have HE : Hid (pageR (s, 5) = ([], 0)) := rfl
    rw [show errV ((s, 5) : ByteArray × Nat).2 = Value.iface 39 (.int .i64 5) from rfl] at HR
    have fin : ∀ (tmps : Array Value), tmps[6]? = some (.slice none 0 0) → tmps[7]? = some .nilIface →
        bodyPost Tryz.prog Tryz.f86 (fun e w' => ∃ v, e = .returned (.tuple #[v, errV (pageR (s, 5)).2]) ∧ Ents B w' v (pageR (s, 5)).1 ∧ Below w.heap.size w w') .ret { tmps := tmps, defers := [] } w := by
      intro tmps h6 h7
      exact bodyPost_ret (v := .tuple #[.slice none 0 0, .nilIface]) (by simp [results, Tryz.results86, go_sem, h6, h7]) rfl ⟨_, rfl, ents_nil _ _, Below.refl _ _⟩
    have FIN := Lib.hid fin
    clear fin
    go_enter Tryz.func86, Tryz.ntmps86
    go_wp2_with (go_at_call 51; refine HR.out.mono ?_; rintro e2 w2 ⟨rfl, rfl⟩)
    exact FIN.out _ rfl rfl
  · by_cases h0 : n = 0
    · subst h0
      have HE : Hid (pageR (s, 0) = ((parseR s).getD [], perr s)) := rfl
      rw [show errV ((s, 0) : ByteArray × Nat).2 = Value.nilIface from rfl] at HR
      have HP := Lib.hid (parse_any B s w hsz)
      have fin : ∀ (tmps : Array Value) (v : Value) (w2 : World), Ents B w2 v ((parseR s).getD []) → Below w.heap.size w w2 → tmps[6]? = some v → tmps[7]? = some (errV (perr s)) →
          bodyPost Tryz.prog Tryz.f86 (fun e w' => ∃ v, e = .returned (.tuple #[v, errV (pageR (s, 0)).2]) ∧ Ents B w' v (pageR (s, 0)).1 ∧ Below w.heap.size w w') .ret { tmps := tmps, defers := [] } w2 := by
        intro tmps v w2 hv hb h6 h7
        rw [HE.out]
        exact bodyPost_ret (v := .tuple #[v, errV (perr s)]) (by simp [results, Tryz.results86, go_sem, h6, h7]) rfl ⟨_, rfl, hv, hb⟩
      have FIN := Lib.hid fin
      clear fin
      go_enter Tryz.func86, Tryz.ntmps86
      go_wp2_with (first
        | (go_at_call 51; refine HR.out.mono ?_; rintro e2 w2 ⟨rfl, rfl⟩)
        | (go_at_call 52; refine HP.out.mono ?_; rintro e2 w2 ⟨v2, rfl, hv2, hb2⟩; have HV2 := Lib.hid hv2; have HB2 := Lib.hid hb2; clear hv2 hb2))
      exact FIN.out _ _ _ HV2.out HB2.out rfl rfl
    · have e : errV ((s, n) : ByteArray × Nat).2 = .iface 39 (.int .i64 n) := by unfold errV; rw [if_neg h0]
      have HE : Hid (pageR (s, n) = ([], n)) := by rw [Hid, pageR, if_neg h5, if_pos h0]
      rw [e] at HR
      have g5 : (((n : Nat) : Int) == 5) = false := beq_eq_false_iff_ne.2 (by omega)
      have fin : ∀ (tmps : Array Value), tmps[6]? = some (.slice none 0 0) → tmps[7]? = some (.iface 39 (.int .i64 n)) →
          bodyPost Tryz.prog Tryz.f86 (fun e w' => ∃ v, e = .returned (.tuple #[v, errV (pageR (s, n)).2]) ∧ Ents B w' v (pageR (s, n)).1 ∧ Below w.heap.size w w') .ret { tmps := tmps, defers := [] } w := by
        intro tmps h6 h7
        rw [HE.out]
        exact bodyPost_ret (v := .tuple #[.slice none 0 0, .iface 39 (.int .i64 n)]) (by simp [results, Tryz.results86, go_sem, h6, h7]) rfl ⟨_, by rw [← e], ents_nil _ _, Below.refl _ _⟩
      have FIN := Lib.hid fin
      clear fin e h0 h5
      go_enter Tryz.func86, Tryz.ntmps86
      go_wp2_with (go_at_call 51; refine HR.out.mono ?_; rintro e2 w2 ⟨rfl, rfl⟩)
      exact FIN.out _ rfl rfl
theorem chkT_all {p : Option ByteArray} {l : List Ent} (h : chkT p l = 0) : ∀ e ∈ l, faultE e = 0 := by
  induction l generalizing p with
  | nil => intro e he; simp at he
  | cons a l ih =>
    have h : (if faultE a ≠ 0 then faultE a else if (match p with | none => false | some k => leB a.k k) then 3 else chkT (some a.k) l) = 0 := h
    generalize hm : (match p with | none => false | some k => leB a.k k) = mm at h
    by_cases h1 : faultE a ≠ 0
    · rw [if_pos h1] at h; exact absurd h h1
    · rw [if_neg h1] at h
      cases mm
      · rw [if_neg (by simp)] at h
        intro e he
        rcases List.mem_cons.1 he with rfl | he
        · exact Classical.byContradiction h1
        · exact ih h e he
      · rw [if_pos rfl] at h; cases h
theorem chkT_rises {p : Option ByteArray} {l : List Ent} (h : chkT p l = 0) : Rises l ∧ ∀ k, p = some k → ∀ e ∈ l, ltB k e.k = true := by
  induction l generalizing p with
  | nil => exact ⟨List.Pairwise.nil, fun k _ e he => by simp at he⟩
  | cons a l ih =>
    have h : (if faultE a ≠ 0 then faultE a else if (match p with | none => false | some k => leB a.k k) then 3 else chkT (some a.k) l) = 0 := h
    generalize hm : (match p with | none => false | some k => leB a.k k) = mm at h
    by_cases h1 : faultE a ≠ 0
    · rw [if_pos h1] at h; exact absurd h h1
    · rw [if_neg h1] at h
      cases mm
      · rw [if_neg (by simp)] at h
        obtain ⟨i1, i2⟩ := ih h
        refine ⟨rises_cons.2 ⟨fun y hy => i2 _ rfl y hy, i1⟩, fun k hk e he => ?_⟩
        subst hk
        have hka : ltB k a.k = true := by
          have hm : leB a.k k = false := hm
          rw [leB_eq] at hm
          simpa using hm
        rcases List.mem_cons.1 he with rfl | he
        · exact hka
        · exact ltB_trans hka (i2 _ rfl e he)
      · rw [if_pos rfl] at h; cases h
theorem tabF_parts {l : List Ent} (h : tabF l = 0) : 0 < l.length ∧ l.length ≤ 14 ∧ chkT none l = 0 := by
  unfold tabF at h
  split at h
  · cases h
  · exact ⟨by omega, by omega, h⟩
theorem chunks2_flatten : (l : List Ent) → (chunks2 l).flatten = l
  | [] => rfl
  | [a] => rfl
  | a :: b :: l => by rw [chunks2, List.flatten_cons, chunks2_flatten l]; rfl
theorem chunks2_len : (l : List Ent) → (chunks2 l).length = (l.length + 1) / 2
  | [] => by simp [chunks2]
  | [a] => by simp [chunks2]
  | a :: b :: l => by rw [chunks2, List.length_cons, chunks2_len l]; simp only [List.length_cons]; omega
theorem chunks2_mem : {l : List Ent} → {p : List Ent} → p ∈ chunks2 l → p.length ≤ 2 ∧ ∀ e ∈ p, e ∈ l
  | [], p, h => by cases h
  | [a], p, h => by
    have := List.mem_singleton.1 h
    subst this
    exact ⟨by simp, fun e he => he⟩
  | a :: b :: l, p, h => by
    rw [chunks2] at h
    rcases List.mem_cons.1 h with rfl | h
    · exact ⟨by simp, fun e he => by simp at he; rcases he with rfl | rfl <;> simp⟩
    · have := chunks2_mem h
      exact ⟨this.1, fun e he => List.mem_cons_of_mem _ (List.mem_cons_of_mem _ (this.2 e he))⟩
/-- What stands in a block of a chip is what a table of these entries is written with. -/
structure TabAt (c : Chip) (b : Nat) (l : List Ent) : Prop where
  pages : (c.b b).l = tabPages l
  ok : tabF l = 0
theorem tab_read0 {c : Chip} {b : Nat} {l : List Ent} (hb : b < 24) (hd : c.down = false) (h : TabAt c b l) : c.read b 0 = (pad (bitsB (fOf (l.map Ent.k))), 0) := by
  unfold Chip.read
  rw [hd, if_neg (by simp), if_neg (by omega), Int.toNat_natCast, h.pages]
  rfl
theorem pad_data {d : ByteArray} : (pad d).data.toList = d.data.toList ++ List.replicate (64 - d.size) 0 := rfl
theorem tab_pageR {c : Chip} {b k : Nat} {l : List Ent} (hb : b < 24) (hk : k < 7) (hd : c.down = false) (h : TabAt c b l) : pageR (c.read b ((1 : Int) + (k : Int))) = (((chunks2 l)[k]?).getD [], 0) := by
  have e : c.read b ((1 : Int) + (k : Int)) = match (chunks2 l)[k]? with | none => (ByteArray.empty, 5) | some p => (pad (bytesL p.length p), 0) := by
    unfold Chip.read
    rw [hd, if_neg (by simp), if_neg (by omega), Int.toNat_natCast, h.pages, show ((1 : Int) + (k : Int)).toNat = k + 1 from by omega]
    simp only [tabPages, rawPages, List.map_cons, List.getElem?_cons_succ, List.map_map, List.getElem?_map]
    cases (chunks2 l)[k]? <;> rfl
  rw [e]
  cases hp : (chunks2 l)[k]? with
  | none => rfl
  | some q =>
    have hm := chunks2_mem (List.mem_of_getElem? hp)
    have hall := chkT_all (tabF_parts h.ok).2.2
    have := parse_bytes q (fun x hx => hall x (hm.2 x hx)) (by omega) (s := pad (bytesL q.length q)) (k := 64 - (bytesL q.length q).size) pad_data
    have he : perr (pad (bytesL q.length q)) = 0 := by unfold perr; rw [this]; rfl
    show pageR (pad (bytesL q.length q), 0) = (q, 0)
    rw [pageR, if_neg (by simp), if_neg (by simp), this, he]
    rfl
theorem taball_down (B p b : Nat) (c : Chip) (w : World) (h : ChipR B w p c) (hd : c.down = true) :
    Calls Tryz.prog 50 #[.pointer (some ⟨p, 0, none⟩), .int .i64 b] w fun e w' => e = .returned (.tuple #[.slice none 0 0, errV 9]) ∧ w = w' := by
  have HR := Lib.hid (cread_any B p c b 0 w h)
  have e : c.read b 0 = (ByteArray.empty, 9) := by unfold Chip.read; rw [hd, if_pos rfl]
  rw [e, show errV ((ByteArray.empty, 9) : ByteArray × Nat).2 = Value.iface 39 (.int .i64 9) from rfl] at HR
  clear e h hd
  have fin : ∀ (tmps : Array Value), tmps[4]? = some (.slice none 0 0) → tmps[5]? = some (.iface 39 (.int .i64 9)) →
      bodyPost Tryz.prog Tryz.f50 (fun e w' => e = .returned (.tuple #[.slice none 0 0, errV 9]) ∧ w = w') .ret { tmps := tmps, defers := [] } w := by
    intro tmps h4 h5
    exact bodyPost_ret (v := .tuple #[.slice none 0 0, .iface 39 (.int .i64 9)]) (by simp [results, Tryz.results50, go_sem, h4, h5]) rfl ⟨rfl, rfl⟩
  have FIN := Lib.hid fin
  clear fin
  go_enter Tryz.func50, Tryz.ntmps50
  go_wp2_with (go_at_call 51; refine HR.out.mono ?_; rintro e2 w2 ⟨rfl, rfl⟩)
  exact FIN.out _ rfl rfl
theorem ents_one (l : List Ent) : ∀ u ∈ l.flatMap Ent.cells, u.oneCell' = true := by
  intro u hu
  obtain ⟨e, _, he⟩ := List.mem_flatMap.1 hu
  exact ent_one e u he
theorem take_flat {ps : List (List Ent)} {k : Nat} : (ps.take (k + 1)).flatten = (ps.take k).flatten ++ (ps[k]?).getD [] := by
  rcases Nat.lt_or_ge k ps.length with h | h
  · rw [List.take_succ_eq_append_getElem h, List.flatten_append, List.getElem?_eq_getElem h]; simp
  · rw [List.take_of_length_le (by omega), List.take_of_length_le h, List.getElem?_eq_none h]; simp
theorem flat_le {ps : List (List Ent)} {k : Nat} : (ps.take k).flatten.length ≤ ps.flatten.length := by
  conv => rhs; rw [← List.take_append_drop k ps, List.flatten_append, List.length_append]
  omega
set_option maxRecDepth 20000 in
set_option maxHeartbeats 4000000 in
theorem taball_any (B p b : Nat) (c : Chip) (l : List Ent) (w : World) (h : ChipR B w p c) (hb : b < 24) (hd : c.down = false) (ht : TabAt c b l) :
    Calls Tryz.prog 50 #[.pointer (some ⟨p, 0, none⟩), .int .i64 b] w fun e w' => ∃ v, e = .returned (.tuple #[v, .nilIface]) ∧ Ents B w' v l ∧ Below w.heap.size w w' := by
  have hbb : B ≤ w.heap.size := by obtain ⟨V, u, hv, _⟩ := h; have := hv.base; have := hv.blk.lt; omega
  have HR := Lib.hid (cread_any B p c b 0 w h)
  rw [tab_read0 hb hd ht, show errV ((pad (bitsB (fOf (l.map Ent.k))), 0) : ByteArray × Nat).2 = Value.nilIface from rfl] at HR
  have HU := Lib.hid (fun w => unbits_any (fOf (l.map Ent.k)) (fOf_lt _) w)
  generalize pad (bitsB (fOf (l.map Ent.k))) = s0 at *
  generalize fOf (l.map Ent.k) = f0 at *
  have hpart := tabF_parts ht.ok
  have hfl := chunks2_flatten l
  have hcl := chunks2_len l
  have HPG : Hid (∀ k : Nat, k < 7 → ∀ w', Below w.heap.size w w' → Calls Tryz.prog 86 #[.pointer (some ⟨p, 0, none⟩), .int .i64 b, .int .i64 ((1 : Int) + (k : Int))] w' fun e w2 => ∃ v, e = .returned (.tuple #[v, .nilIface]) ∧ Ents w.heap.size w2 v (((chunks2 l)[k]?).getD []) ∧ Below w'.heap.size w' w2) := by
    intro k hk w' hb'
    refine (page_any B p c b ((1 : Int) + (k : Int)) w' (h.below hb')).mono ?_
    rintro e w2 ⟨v, rfl, hv, hb2⟩
    rw [tab_pageR hb hk hd ht] at hv ⊢
    exact ⟨v, rfl, ⟨hv.1.mono hbb, hv.2⟩, hb2⟩
  have HCK := Lib.hid (fun w' v (hv : Ents B w' v l) => tcheck_any B v l w' hv)
  rw [ht.ok, show errV 0 = Value.nilIface from rfl] at HCK
  have HFL := Lib.hid hfl
  generalize chunks2 l = ps at *
  clear ht hd h
  have fin : ∀ (tmps : Array Value) (v : Value) (w2 : World), Ents B w2 v l → Below w.heap.size w w2 → tmps[4]? = some v → tmps[5]? = some .nilIface →
      bodyPost Tryz.prog Tryz.f50 (fun e w' => ∃ v, e = .returned (.tuple #[v, .nilIface]) ∧ Ents B w' v l ∧ Below w.heap.size w w') .ret { tmps := tmps, defers := [] } w2 := by
    intro tmps v w2 hv hb h4 h5
    exact bodyPost_ret (v := .tuple #[v, .nilIface]) (by simp [results, Tryz.results50, go_sem, h4, h5]) rfl ⟨_, rfl, hv, hb⟩
  have FIN := Lib.hid fin
  clear fin hfl
  go_enter Tryz.func50, Tryz.ntmps50
  go_wp2_with (first
    | (go_at_call 51; refine HR.out.mono ?_; rintro e2 w2 ⟨rfl, rfl⟩)
    | (go_at_call 85; refine (HU.out _).mono ?_; rintro e2 w2 ⟨rfl, n2, rfl⟩))
  go_loopw [10, 11] (fun u i wr => ∃ k : Nat, k ≤ 7 ∧ i = .int .i64 ((1 : Int) + (k : Int)) ∧ Hid (wr.ownsRow w.heap.size 56 3 u ((ps.take k).flatten).length ((ps.take k).flatten.flatMap Ent.cells)) ∧ Hid (∀ e ∈ (ps.take k).flatten, EntOk e) ∧ Below w.heap.size w wr) (fun _ i _ => 8 - (intOf i).toNat)
  case atStart => exact ⟨0, by omega, rfl, World.ownsRow_nil _ _ _ _, fun e he => by simp at he, below_drewN (Below.refl _ _) _⟩
  case round =>
    obtain ⟨k, hk, rfl, hown, hok, hbl⟩ := hrel
    have hfk := flat_le (ps := ps) (k := k)
    rw [HFL.out] at hfk
    by_cases hlt : k < 7
    · have t1 : decide ((1 : Int) + (k : Int) < 8) = true := decide_eq_true (by omega)
      obtain ⟨i0, hi, hz0, hz1, hz2⟩ := info_parts info_entry
      have HB := Lib.hid hbl
      have HP1 := Lib.hid (HPG.out k hlt wr hbl)
      have HT := Lib.hid (take_flat (ps := ps) (k := k))
      generalize (ps[k]?).getD [] = q at *
      have hq := flat_le (ps := ps) (k := k + 1)
      rw [HFL.out, HT.out, List.length_append] at hq
      clear hbl
      go_wp2_with (first
        | (go_at_call 86; refine HP1.out.mono ?_; rintro e2 w2 ⟨v2, rfl, hv2, hb2⟩; have HV2 := Lib.hid hv2; have HB2 := Lib.hid (HB.out.trans (hb2.mono HB.out.size)); have HO2 := Lib.hid (own_below hown.out hb2); clear hv2 hb2; have hs2 := HB2.out.size)
        | (at_builtin; go_loud (refine wpList_append_rd _ rfl (.tmp 45) (.tmp 46) 31 rfl w.heap.size 56 i0 _ 3 40 Tryz.underlying31 hi hz0 hz1 hz2 rfl (by decide) u10 _ _ rfl HO2.out w.heap.size 56 v2 _ _ rfl HV2.out.1 (ents_one _) (by unfold maxLen; omega) (by omega) (by omega) ?_); intro v4 w4 hown4 hg4 hat4))
      have HO4 : Hid (w4.ownsRow w.heap.size 56 3 v4 ((ps.take (k + 1)).flatten).length ((ps.take (k + 1)).flatten.flatMap Ent.cells)) := by
        rw [Hid, HT.out, List.length_append, List.flatMap_append]
        exact hown4
      have HE4 : Hid (∀ e ∈ (ps.take (k + 1)).flatten, EntOk e) := by
        intro e he
        rw [HT.out] at he
        rcases List.mem_append.1 he with he | he
        · exact hok.out e he
        · exact HV2.out.2 e he
      have HB4 := Lib.hid (below_own HB2.out (Nat.le_refl _) HO2.out hg4)
      clear hi hz0 hz1 hz2 hg4 hat4 hown4
      go_roundw
      case rel => exact ⟨k + 1, by omega, by go_num, HO4, HE4, HB4.out⟩
      case measure => simp [intOf] <;> omega
    · have hk7 : k = 7 := by omega
      subst hk7
      have t1 : decide ((1 : Int) + ((7 : Nat) : Int) < 8) = false := by decide
      have hall : Hid ((ps.take 7).flatten = l) := by rw [Hid, List.take_of_length_le (by omega), HFL.out]
      have HV : Hid (Ents B wr u10 l) := by
        refine ⟨?_, fun e he => hok.out e (by rw [hall.out]; exact he)⟩
        have := Rd.of_own (B := B) hown.out
        rw [hall.out] at this
        exact this
      have HCK2 := Lib.hid (HCK.out wr u10 HV.out)
      go_wp2_with (go_at_call 87; refine HCK2.out.mono ?_; rintro e2 w2 ⟨rfl, hb2⟩; have HB2 := Lib.hid (hbl.trans (hb2.mono hbl.size)); have HV2 := Lib.hid (HV.out.below hb2); clear hb2)
      exact FIN.out _ _ _ HV2.out HB2.out rfl rfl
end Go.Proofs.YtaepdbkfaoiimabGreatDoor
