/- The contracts of package table: bits, unbits, keys, Check, page, All. Conditions: none but those that each names. -/
import Derived.Test.YtaepdbkfaoiimaaTab0
import Derived.Test.YtaepdbkfaoiimaaMan
import Derived.Test.YtaepdbkfaoiimaaBits
import Derived.LoopN
import Derived.Lib.SlBytesConst
set_option linter.unusedVariables false
set_option linter.unusedSimpArgs false
namespace Go.Proofs.Ytaepdbkfaoiimaa
open Go.RowKit
attribute [local go_sem] bt_idx bt_wrap bt_extract

theorem below_drewN {B : Nat} {a w : World} (h : Below B a w) (n : Nat) : Below B a (w.drewN n) := ⟨h.os, h.tape, h.output, h.size, h.block⟩
section
variable {P : Program} {w : World}
/-- A row that is owned, or one that is full and only read. -/
def Apd (w : World) (base : Nat) (e : TypeId) (size : Nat) (v : Value) (n : Nat) (xs : List Value) : Prop :=
  w.ownsRow base e size v n xs ∨ (0 < n ∧ (∃ g, v = .slice (some ⟨g, 0, none⟩) n n ∧ base ≤ g) ∧ Rd 0 e size w v n xs)
theorem Apd.alloc {base e size n : Nat} {v : Value} {xs : List Value} (h : Apd w base e size v n xs) (o : Obj) : Apd (w.alloc o) base e size v n xs := by
  rcases h with h | ⟨h1, h2, h3⟩
  · exact .inl (own_alloc h o)
  · exact .inr ⟨h1, h2, h3.below ((Below.refl _ _).alloc (Nat.le_refl _) o)⟩
theorem Apd.rd {base e size n B : Nat} {v : Value} {xs : List Value} (h : Apd w base e size v n xs) : Rd B e size w v n xs := by
  rcases h with h | ⟨h1, h2, h3⟩
  · exact Rd.of_own h
  · exact h3.mono (Nat.zero_le _)
theorem Apd.ge {base e size n : Nat} {v : Value} {xs : List Value} (h : Apd w base e size v n xs) : ∀ k, v.ownBlock = some k → base ≤ k := by
  rcases h with h | ⟨h1, ⟨g, rfl, hg⟩, h3⟩
  · exact own_ge h
  · intro k hk; cases hk; exact hg
theorem apd_mark (w : World) (T : TypeId) (x : Value) (fz : Nat × Nat) : Apd (w.alloc (.cells #[x] T fz)) w.heap.size T 1 (.slice (some ⟨w.heap.size, 0, none⟩) 1 1) 1 [x] := by
  refine .inr ⟨Nat.one_pos, ⟨_, rfl, Nat.le_refl _⟩, rfl, _, 1, rfl, Nat.le_refl _, by decide, fun _ => ⟨_, 0, rfl, .inr ⟨_, _, heap_alloc_new w _⟩, heap_lt (heap_alloc_new w _), fun j u hu => ?_⟩⟩
  have hh := heap_alloc_new w (.cells #[x] T fz)
  have hc : (w.alloc (.cells #[x] T fz)).cell? ⟨w.heap.size, 0 + j, none⟩ = (#[x] : Array Value)[j]? := by
    unfold World.cell?
    rw [hh]
    simp
  rw [hc]
  simpa using hu
theorem run_append_apd (base : Nat) (t ty e : TypeId) (i : TypeInfo) (z : Value) (size bytes : Nat) (ht : P.underlying t = some (.slice e)) (hi : P.info? e = some i) (hz : i.zero = some z)
    (hsize : i.size = size) (hby : i.bytes = bytes) (hzs : z.cells.size = size) (hsz : 0 < size)
    (v : Value) (n : Nat) (xs : List Value) (hown : Apd w base e size v n xs)
    (B T : Nat) (x : Value) (m : Nat) (news : List Value) (hm : 0 < m) (hr : Rd B T size w x m news) (h1 : ∀ u ∈ news, u.oneCell' = true)
    (h63 : n + m ≤ maxLen) (hbytes : (n + m) * bytes ≤ 140737488355328) (hbase : base ≤ w.heap.size) :
    ∃ v' w', (Builtin.append_ #[t, t] ty #[v, x]).run P w = .ok v' w' ∧ w'.ownsRow base e size v' (n + m) (xs ++ news) ∧ w.grownBy w' v.ownBlock := by
  rcases hown with hown | ⟨h0, ⟨g, rfl, hg⟩, hrd⟩
  · obtain ⟨v', w', e1, e2, e3, e4⟩ := run_append_rd w base t ty e i z size bytes ht hi hz hsize hby hzs hsz v n xs hown B T x m news hr h1 h63 hbytes hbase
    exact ⟨v', w', e1, e2, e3⟩
  · subst hsize
    subst hby
    have hlen : (xs ++ news).length = (n + m) * i.size := by rw [List.length_append, hrd.1, hr.1, Nat.add_mul]
    have hsmall : n + m ≤ 9223372036854775807 := by simp only [maxLen] at h63; omega
    obtain ⟨b, o, eA, _, _, hcc⟩ := rd_at' hrd h0
    cases eA
    obtain ⟨A, c, rfl⟩ := rd_form' hr
    obtain ⟨b2, o2, rfl, _, _, hcc2⟩ := rd_at' hr hm
    have hr := run_append_grow (P := P) w t ty e i z ht hi hz ⟨g, 0, none⟩ n n xs hrd.1 (fun j u hu => by rw [addr_add]; exact hcc j u hu) ⟨b2, o2, none⟩ m c news hr.1 (fun j u hu => by rw [addr_add]; exact hcc2 j u hu) (by omega) (by omega) (growslice_fits (by omega) hbytes)
    have hge := grownCap_ge w (n + m) n e
    have hcm : grownCap w (n + m) n e ≤ maxLen := grownCap_le_maxLen w (n + m) n e h63
    refine ⟨_, _, hr, ⟨hlen, .inr ⟨w.heap.size, _, _, rfl, hbase, heap_alloc_new w.drew _, hge, hcm, ?_, ?_⟩⟩, ⟨rfl, rfl, rfl, by simp, fun k hk _ => by rw [Below.heap_alloc w.drew _ k hk]; rfl⟩⟩
    · have hxl := hlen
      rw [List.length_append] at hxl
      simp only [Array.size_append, List.size_toArray, size_zeroCells, hzs, hxl, ← Nat.add_mul]
      congr 1
      omega
    · simp only [Array.toList_append, List.append_assoc]
      rw [← List.append_assoc, ← hlen]
      exact List.take_left
theorem wpList_append_apd {ops : Array Oper} {rest : List Oper} {o : Oper} {a : Act} {Q : Exit → Act → World → Prop} (hgd : o.guard = none) (s x : Operand) (t : TypeId)
    (ho : o.op = .call { callee := .builtin .append, args := #[s, x], argTypes := #[t, t] })
    (base : Nat) (e : TypeId) (i : TypeInfo) (z : Value) (size bytes : Nat) (ht : P.underlying t = some (.slice e)) (hi : P.info? e = some i) (hz : i.zero = some z)
    (hsize : i.size = size) (hby : i.bytes = bytes) (hzs : z.cells.size = size) (hsz : 0 < size)
    (v : Value) (n : Nat) (xs : List Value) (hs : a.eval s = v) (hown : Apd w base e size v n xs)
    (B T : Nat) (vx : Value) (m : Nat) (news : List Value) (hm : 0 < m) (hx : a.eval x = vx) (hr : Rd B T size w vx m news) (h1 : ∀ u ∈ news, u.oneCell' = true)
    (h63 : n + m ≤ maxLen) (hbytes : (n + m) * bytes ≤ 140737488355328) (hbase : base ≤ w.heap.size)
    (h : ∀ v' w', w'.ownsRow base e size v' (n + m) (xs ++ news) → w.grownBy w' v.ownBlock → wpList P ops Q rest (a.put o.dst v') w') : wpList P ops Q (o :: rest) a w :=
  wpList_plain hgd fun _ hK => by
    obtain ⟨v', w', hrun, h2, h3⟩ := run_append_apd (P := P) base t o.type e i z size bytes ht hi hz hsize hby hzs hsz v n xs hown B T vx m news hm hr h1 h63 hbytes hbase
    unfold Oper.wp execOp
    simp only [ho, resolve, invoke, builtin, Sem.run_bind, Sem.run_pure, Result.andThen_ok, List.map_toArray, List.map_cons, List.map_nil, hs, hx, hrun]
    exact hK _ _ (h v' w' h2 h3)
end
theorem below_apd {n : Nat} {w0 w w1 : World} {e : TypeId} {size k : Nat} {v : Value} {xs : List Value} (hb : Below n w0 w) (hn : n ≤ w0.heap.size) (h : Apd w n e size v k xs) (hg : w.grownBy w1 v.ownBlock) : Below n w0 w1 :=
  hb.grown hg (Nat.le_trans hn hb.size) h.ge
theorem or_u64 (a b : Nat) (k : Nat) (ha : a < 18446744073709551616) (hb : b * 2 ^ (8 * k) < 18446744073709551616) :
    Value.int .u64 (bits .or .u64 (a : Int) (IntKind.u64.wrap ((b : Int) * 2 ^ (8 * k)))) = .int .u64 ((a ||| (b * 2 ^ (8 * k)) : Nat) : Int) := by
  have h3 : (b : Int) * 2 ^ (8 * k) = ((b * 2 ^ (8 * k) : Nat) : Int) := by simp
  have h4 : IntKind.u64.wrap ((b * 2 ^ (8 * k) : Nat) : Int) = ((b * 2 ^ (8 * k) : Nat) : Int) := by
    generalize b * 2 ^ (8 * k) = x at *
    have h2 : ((x : Nat) : Int) < 18446744073709551616 := by omega
    have h1 : (0 : Int) ≤ ((x : Nat) : Int) := by omega
    simp [IntKind.wrap, IntKind.bits, IntKind.signed]
    omega
  rw [h3, h4, Go.u64_or_nat _ _ ha hb]
set_option maxRecDepth 20000 in
set_option maxHeartbeats 4000000 in
theorem bits_any (f : Nat) (hf : f < 18446744073709551616) (w : World) :
    Calls Try.prog 139 #[.int .u64 f] w fun e w' => e = .returned (.string (bitsB f)) ∧ Below w.heap.size w w' := by
  have HF : Hid (f < 18446744073709551616) := hf
  clear hf
  have kc := fun (w : World) (C : Array Value) (n c : Nat) => Lib.run_convert_bytes_const (P := Try.prog) w 139 5 C n c Try.underlying139 Try.underlying5
  go_enter Try.func139, Try.ntmps139
  go_wp2_with fail
  have HROW := Lib.hid (apd_mark w 5 (.int .u8 70) (1, 2))
  go_loopw [3, 7] (fun u i wr => ∃ k : Nat, k ≤ 8 ∧ i = .int .i64 (k : Int) ∧ Hid (Apd wr w.heap.size 5 1 u (1 + k) (Value.int .u8 70 :: (List.range k).map (fun i => Value.int .u8 ((f / 2 ^ (8 * i) % 256 : Nat) : Int)))) ∧ Below w.heap.size w wr) (fun _ i _ => 8 - (intOf i).toNat)
  case atStart => exact ⟨0, by omega, rfl, HROW.out, (Below.refl _ _).alloc (Nat.le_refl _) _⟩
  case round =>
    obtain ⟨k, hk, rfl, hown, hbl⟩ := hrel
    by_cases hlt : k < 8
    · have t8 : decide ((k : Int) < 8) = true := decide_eq_true (by omega)
      have hbs := hbl.size
      have g0 : (0 : Int) ≤ 8 * (k : Int) := by omega
      obtain ⟨i0, hi, hz0, hz1, hz2⟩ := info_parts info_u8
      have e8 : ((f / 2 ^ (8 * k) % 256 : Nat) : Int) = (f : Int) / 2 ^ (8 * k) % 256 := by simp
      have hown' := Lib.hid (hown.out.alloc (.cells #[.int .u8 ((f : Int) / 2 ^ (8 * k) % 256)] 5))
      have hone := Lib.hid (Rd.of_own (B := 0) (own_one (base := 0) (Blk.new wr 5 #[.int .u8 ((f : Int) / 2 ^ (8 * k) % 256)]) (by omega)))
      have HB' := Lib.hid (hbl.alloc hbl.size (.cells #[.int .u8 ((f : Int) / 2 ^ (8 * k) % 256)] 5))
      have E8 := Lib.hid e8
      clear e8
      go_wp2_with (at_builtin; go_loud (refine wpList_append_apd rfl (.tmp 10) (.tmp 16) 139 rfl w.heap.size 5 i0 _ 1 1 Try.underlying139 hi hz0 hz1 hz2 rfl (by decide) _ _ _ rfl hown'.out 0 5 _ 1 _ Nat.one_pos rfl hone.out (by simp [Value.oneCell']) (by unfold maxLen; omega) (by omega) (by simp; omega) ?_); intro v4 w4 hown4 hg4)
      have HB4 := Lib.hid (below_apd HB'.out (Nat.le_refl _) hown'.out hg4)
      have HO4 : Hid (Apd w4 w.heap.size 5 1 v4 (1 + (k + 1)) (Value.int .u8 70 :: (List.range (k + 1)).map (fun i => Value.int .u8 ((f / 2 ^ (8 * i) % 256 : Nat) : Int)))) := by
        rw [Hid, List.range_succ, List.map_append, ← Nat.add_assoc]
        simp only [List.map_cons, List.map_nil]
        rw [E8.out]
        exact .inl hown4
      clear hi hz0 hz1 hz2 hg4 hown4
      go_roundw
      case rel => exact ⟨k + 1, by omega, by go_num, HO4.out, HB4.out⟩
      case measure => simp [intOf] <;> omega
    · have hk8 : k = 8 := by omega
      subst hk8
      have t8 : decide (((8 : Nat) : Int) < 8) = false := by decide
      have hrd := hown.out.rd (B := w.heap.size)
      obtain ⟨A5, c5, rfl⟩ := rd_form' hrd
      obtain ⟨b5, o5, rfl, _, _, hc5⟩ := rd_at' hrd (by omega)
      have hcv := run_convert_bytes_arg (P := Try.prog) wr 139 5 Try.underlying139 Try.underlying5 b5 o5 (1 + 8) c5 (70 :: (List.range 8).map (fun i => ((f / 2 ^ (8 * i) % 256 : Nat) : Int))) (by simp) (fun i hi => by
        refine hc5 i _ ?_
        have e : (Value.int .u8 70 :: (List.range 8).map (fun i => Value.int .u8 ((f / 2 ^ (8 * i) % 256 : Nat) : Int))) = (70 :: (List.range 8).map (fun i => ((f / 2 ^ (8 * i) % 256 : Nat) : Int))).map (.int .u8) := by simp
        rw [e, List.getElem?_map, List.getD_eq_getElem?_getD, List.getElem?_eq_getElem (by simp; omega)]
        rfl) 9 Try.underlying9
      rw [show strOfNums (70 :: (List.range 8).map (fun i => ((f / 2 ^ (8 * i) % 256 : Nat) : Int))) = bitsB f from rfl] at hcv
      clear hc5 hrd hown
      go_wp2_with fail
      go_ret
      exact ⟨rfl, hbl⟩
set_option maxRecDepth 20000 in
set_option maxHeartbeats 4000000 in
theorem unbits_any (f : Nat) (hf : f < 18446744073709551616) (w : World) :
    Calls Try.prog 135 #[.string (pad (bitsB f))] w fun e w' => e = .returned (.tuple #[.int .u64 f, .bool true]) ∧ ∃ n, w.drewN n = w' := by
  have hsz : (pad (bitsB f)).size = 64 := pad_size (by rw [bitsB_size]; omega)
  have HAT : Hid (∀ i, i < 8 → bt (pad (bitsB f)) (1 + i) = f / 2 ^ (8 * i) % 256) := fun i hi => bitsB_at f i hi
  have HHD : Hid (bt (pad (bitsB f)) 0 = 70) := bitsB_head f
  have HF : Hid (f < 18446744073709551616) := hf
  generalize pad (bitsB f) = s at *
  clear hf
  go_enter Try.func135, Try.ntmps135
  go_wp2_with fail
  go_loop [4, 6] (fun u i => ∃ k : Nat, k ≤ 8 ∧ i = .int .i64 (k : Int) ∧ u = .int .u64 ((f % 2 ^ (8 * k) : Nat) : Int)) (fun _ i => 8 - (intOf i).toNat)
  case atStart => exact ⟨0, by omega, rfl, by rw [Nat.mul_zero, Nat.pow_zero, Nat.mod_one]; rfl⟩
  case round =>
    obtain ⟨k, hk, rfl, rfl⟩ := hrel
    by_cases hlt : k < 8
    · have t8 : decide ((k : Int) < 8) = true := decide_eq_true (by omega)
      have g0 : (0 : Int) ≤ 8 * (k : Int) := by omega
      have i0 : (0 : Int) ≤ 1 + (k : Int) := by omega
      have i1 : 1 + (k : Int) < (s.size : Int) := by omega
      have i3 : 1 + k < s.size := by omega
      have l7 := bt_lt s (1 + k)
      go_wp2_with fail
      have l6 : f % 2 ^ (8 * k) < 18446744073709551616 := Nat.lt_of_le_of_lt (Nat.mod_le _ _) HF.out
      have HSUM : Hid (Value.int .u64 (bits .or .u64 (f % 2 ^ (8 * k) : Int) (IntKind.u64.wrap ((bt s (1 + k) : Int) * 2 ^ (8 * k)))) = .int .u64 ((f % 2 ^ (8 * (k + 1)) : Nat) : Int)) := by
        have hb : f / 2 ^ (8 * k) % 256 * 2 ^ (8 * k) < 18446744073709551616 := by
          have h1 : f / 2 ^ (8 * k) % 256 * 2 ^ (8 * k) ≤ f / 2 ^ (8 * k) * 2 ^ (8 * k) := Nat.mul_le_mul_right _ (Nat.mod_le _ _)
          exact Nat.lt_of_le_of_lt (Nat.le_trans h1 (Nat.div_mul_le_self _ _)) HF.out
        have h1 := or_u64 (f % 2 ^ (8 * k)) (f / 2 ^ (8 * k) % 256) k l6 hb
        rw [or_step] at h1
        rw [Hid, HAT.out k hlt, ← h1]
        simp
      go_roundw
      case rel => exact ⟨k + 1, by omega, by go_num, HSUM.out⟩
      case measure => simp [intOf] <;> omega
    · have hk8 : k = 8 := by omega
      subst hk8
      have t8 : decide (((8 : Nat) : Int) < 8) = false := by decide
      have HL : Hid ((f % 2 ^ (8 * 8) : Nat) = f) := Nat.mod_eq_of_lt HF.out
      have z0 : 0 < s.size := by omega
      have hb0 : ((bt s 0 : Nat) : Int) = 70 := by rw [HHD.out]; rfl
      go_wp2_with fail
      go_quiet (fail)
      go_wp2
      go_ret2
      have e : (f : Int) % 18446744073709551616 = f := by have := HF.out; omega
      rw [e]
      exact ⟨rfl, _, rfl⟩
theorem info_str : (Try.prog.info? 9).map (fun i => (i.zero, i.size, i.bytes)) = some (some (.string ByteArray.empty), 1, 16) := by kernel_rfl
theorem rd_lit1s (B : Nat) (w : World) (g : Nat) (hg : w.heap.size = g) (s : ByteArray) : Rd B 9 1 (w.alloc (.cells #[.string s] 9)) (.slice (some ⟨g, 0, none⟩) 1 1) 1 [.string s] := by
  subst hg
  exact Rd.of_own (own_one (base := 0) (Blk.new w 9 #[.string s]) (by omega))
set_option maxRecDepth 20000 in
set_option maxHeartbeats 4000000 in
theorem keys_any (B : Nat) (v : Value) (l : List Ent) (w : World) (h : Ents B w v l) (hn : l.length ≤ 1000000) :
    Calls Try.prog 140 #[v] w fun e w' => ∃ u, e = .returned u ∧ Strs B w' u (l.map Ent.k) ∧ Below w.heap.size w w' := by
  obtain ⟨A, c, rfl, hc, hc2, hcell⟩ := h.form
  have HC := Lib.hid hcell
  have HO : Hid (∀ e ∈ l, EntOk e) := h.2
  clear hcell h
  go_enter Try.func140, Try.ntmps140
  go_wp2_with fail
  go_loopw [3, 8] (fun u i wr => ∃ k : Nat, k ≤ l.length ∧ i = .int .i64 k ∧ Hid (wr.ownsRow w.heap.size 9 1 u k ((l.take k).map (fun e => Value.string e.k))) ∧ Below w.heap.size w wr) (fun _ i _ => l.length - (intOf i).toNat)
  case atStart => exact ⟨0, Nat.zero_le _, rfl, World.ownsRow_nil _ _ _ _, Below.refl _ _⟩
  case round =>
    obtain ⟨k, hk, rfl, hown, hbl⟩ := hrel
    by_cases hlt : k < l.length
    · obtain ⟨x, hx, htk, _⟩ := getElem?_of_lt hlt
      obtain ⟨b, o, rfl, hb, c1, c2, c3⟩ := HC.out k x hx
      have d1 := (hbl.cell (p := ⟨b, o + k * 3, none⟩) hb).trans c1
      have d2 := (hbl.cell (p := ⟨b, o + k * 3 + 1, none⟩) hb).trans c2
      have d3 := (hbl.cell (p := ⟨b, o + k * 3 + 2, none⟩) hb).trans c3
      have HT := Lib.hid htk
      clear htk hx c1 c2 c3
      obtain ⟨i0, hi, hz0, hz1, hz2⟩ := info_parts info_str
      have hbs := hbl.size
      have hown' := Lib.hid (own_alloc (own_alloc hown.out (.cells #[.string x.k, .string x.v, .bool x.g] 35)) (.cells #[.string x.k] 9))
      have HB0 := Lib.hid ((hbl.alloc hbs (.cells #[.string x.k, .string x.v, .bool x.g] 35)).alloc (by simp; omega) (.cells #[.string x.k] 9))
      have HL := Lib.hid (rd_lit1s B (wr.alloc (.cells #[.string x.k, .string x.v, .bool x.g] 35)) (wr.heap.size + 1) (by simp) x.k)
      go_wp2_with (at_builtin; go_loud (refine wpList_append_rd _ rfl (.tmp 12) (.tmp 15) 22 rfl w.heap.size 9 i0 _ 1 16 Try.underlying22 hi hz0 hz1 hz2 rfl (by decide) u3 _ _ rfl hown'.out B 9 _ 1 _ rfl HL.out (by simp [Value.oneCell']) (by unfold maxLen; omega) (by omega) (by simp; omega) ?_); intro v1 w1 hown1 hg1 hat1)
      have hb1 := below_own HB0.out (Nat.le_refl _) hown'.out hg1
      have hown2 : Hid (w1.ownsRow w.heap.size 9 1 v1 (k + 1) ((l.take (k + 1)).map (fun e => Value.string e.k))) := by
        rw [Hid, HT.out, List.map_append]; exact hown1
      clear hi hz0 hz1 hz2 hg1 hat1 hown1
      go_roundw
      case rel => exact ⟨k + 1, by omega, by go_num, hown2, hb1⟩
      case measure => simp [intOf] <;> omega
    · have hge : k = l.length := by omega
      subst hge
      go_wp2_with fail
      go_ret
      have hr := Rd.of_own (B := B) hown.out
      rw [List.take_length] at hr
      refine ⟨_, rfl, ⟨?_, fun s hs => ?_⟩, hbl⟩
      · rw [List.length_map, List.map_map]; exact hr
      · obtain ⟨e, he, rfl⟩ := List.mem_map.1 hs
        exact (HO.out e he).1
/-- The key ahead of place k. -/
def prevK (l : List Ent) (k : Nat) : Option ByteArray := if k = 0 then none else (l[k - 1]?).map Ent.k
theorem chkt_step {l : List Ent} {k : Nat} {y : Ent} (hy : l[k]? = some y) (h0 : faultE y = 0) (h1 : (match prevK l k with | none => false | some p => leB y.k p) = false) :
    chkT (prevK l k) (l.drop k) = chkT (prevK l (k + 1)) (l.drop (k + 1)) := by
  have hk : k < l.length := by
    rcases Nat.lt_or_ge k l.length with h | h
    · exact h
    · rw [List.getElem?_eq_none h] at hy; cases hy
  have hyk := hy
  rw [List.getElem?_eq_getElem hk] at hy
  have hy := Option.some.inj hy
  rw [List.drop_eq_getElem_cons hk, hy]
  show (if faultE y ≠ 0 then faultE y else if (match prevK l k with | none => false | some p => leB y.k p) then 3 else chkT (some y.k) (l.drop (k + 1))) = _
  rw [if_neg (by simp [h0]), h1, if_neg (by simp)]
  simp [prevK, hyk]
theorem chkt_fault {l : List Ent} {k : Nat} {y : Ent} (hy : l[k]? = some y) (h0 : faultE y ≠ 0) : chkT (prevK l k) (l.drop k) = faultE y := by
  have hk : k < l.length := by
    rcases Nat.lt_or_ge k l.length with h | h
    · exact h
    · rw [List.getElem?_eq_none h] at hy; cases hy
  rw [List.getElem?_eq_getElem hk] at hy
  have hy := Option.some.inj hy
  rw [List.drop_eq_getElem_cons hk, hy]
  exact if_pos h0
theorem chkt_three {l : List Ent} {k : Nat} {y : Ent} (hy : l[k]? = some y) (h0 : faultE y = 0) (h1 : (match prevK l k with | none => false | some p => leB y.k p) = true) : chkT (prevK l k) (l.drop k) = 3 := by
  have hk : k < l.length := by
    rcases Nat.lt_or_ge k l.length with h | h
    · exact h
    · rw [List.getElem?_eq_none h] at hy; cases hy
  rw [List.getElem?_eq_getElem hk] at hy
  have hy := Option.some.inj hy
  rw [List.drop_eq_getElem_cons hk, hy]
  show (if faultE y ≠ 0 then faultE y else if (match prevK l k with | none => false | some p => leB y.k p) then 3 else chkT (some y.k) (l.drop (k + 1))) = _
  rw [if_neg (by simp [h0]), h1, if_pos rfl]
set_option maxRecDepth 20000 in
set_option maxHeartbeats 4000000 in
theorem tcheck_any (B : Nat) (v : Value) (l : List Ent) (w : World) (h : Ents B w v l) :
    Calls Try.prog 137 #[v] w fun e w' => e = .returned (errV (tabF l)) ∧ Below w.heap.size w w' := by
  obtain ⟨A, c, rfl, hc, hc2, hcell⟩ := h.form
  have HC := Lib.hid hcell
  clear hcell h
  by_cases hz : l.length = 0 ∨ 14 < l.length
  · have HF : Hid (tabF l = 2) := if_pos hz
    by_cases h0 : l.length = 0
    · have z0 : (((l.length : Nat) : Int) == 0) = true := by rw [h0]; rfl
      go_enter Try.func137, Try.ntmps137
      go_wp2_with fail
      go_ret
      exact ⟨by rw [HF.out]; rfl, Below.refl _ _⟩
    · have z0 : (((l.length : Nat) : Int) == 0) = false := beq_eq_false_iff_ne.2 (by omega)
      have z1 : decide ((14 : Int) < ((l.length : Nat) : Int)) = true := decide_eq_true (by omega)
      go_enter Try.func137, Try.ntmps137
      go_wp2_with fail
      go_ret
      exact ⟨by rw [HF.out]; rfl, Below.refl _ _⟩
  · have HF : Hid (tabF l = chkT none l) := if_neg hz
    have z0 : (((l.length : Nat) : Int) == 0) = false := beq_eq_false_iff_ne.2 (by omega)
    have z1 : decide ((14 : Int) < ((l.length : Nat) : Int)) = false := decide_eq_false (by omega)
    go_enter Try.func137, Try.ntmps137
    have hl14 : l.length ≤ 14 := by omega
    go_wp2_with fail
    go_loopw [3, 17] (fun u i wr => ∃ k : Nat, k ≤ l.length ∧ i = .int .i64 k ∧ Hid (chkT none l = chkT (prevK l k) (l.drop k)) ∧ Below w.heap.size w wr) (fun _ i _ => l.length - (intOf i).toNat)
    case atStart => exact ⟨0, Nat.zero_le _, rfl, rfl, Below.refl _ _⟩
    case round =>
      obtain ⟨k, hk, rfl, hch, hbl⟩ := hrel
      by_cases hlt : k < l.length
      · obtain ⟨y, hy, hty, _⟩ := getElem?_of_lt hlt
        obtain ⟨b, o, hA, hb, c1, c2, c3⟩ := HC.out k y hy
        have d1 := (hbl.cell (p := ⟨b, o + k * 3, none⟩) hb).trans c1
        have d2 := (hbl.cell (p := ⟨b, o + k * 3 + 1, none⟩) hb).trans c2
        have d3 := (hbl.cell (p := ⟨b, o + k * 3 + 2, none⟩) hb).trans c3
        have HY := Lib.hid hy
        clear c1 c2 c3 hy hty
        have t1 : decide ((k : Int) < ((l.length : Nat) : Int)) = true := decide_eq_true (by omega)
        have g1 : (0 : Int) ≤ (k : Int) := by omega
        have g2 : (k : Int) < (l.length : Int) := by omega
        have HB1 := Lib.hid (hbl.alloc hbl.size (.cells #[.string y.k, .string y.v, .bool y.g] 35))
        have HK := Lib.hid (Blk.new wr 35 #[.string y.k, .string y.v, .bool y.g])
        have HCK := Lib.hid (check_any y (wr.alloc (.cells #[.string y.k, .string y.v, .bool y.g] 35)))
        by_cases hf : faultE y = 0
        · rw [show errV (faultE y) = Value.nilIface from by rw [hf]; rfl] at HCK
          have HF0 := Lib.hid hf
          have HBL := Lib.hid hbl
          clear hf hbl
          subst hA
          go_wp2_with (go_at_call 35; refine HCK.out.mono ?_; rintro e2 w2 ⟨rfl, hb2⟩; have HK2 := Lib.hid (HK.out.below hb2 (by simp)); have HB2 := Lib.hid (HB1.out.trans (hb2.mono HB1.out.size)); have q0 := HK2.out.cell 0; have q1 := HK2.out.cell 1; have q2 := HK2.out.cell 2; simp at q0 q1 q2; clear hb2)
          rcases Nat.eq_zero_or_pos k with rfl | hp
          · have t9 : decide ((0 : Int) < ((0 : Nat) : Int)) = false := by decide
            go_quiet (fail)
            go_wp2_with fail
            go_roundw
            case rel => exact ⟨1, by omega, by go_num, hch.out.trans (chkt_step HY.out HF0.out rfl), below_drewN HB2.out _⟩
            case measure => simp [intOf] <;> omega
          · obtain ⟨j, rfl⟩ : ∃ j, k = j + 1 := ⟨k - 1, by omega⟩
            obtain ⟨pv, hpv⟩ : ∃ pv, l[j]? = some pv := ⟨_, List.getElem?_eq_getElem (by omega)⟩
            obtain ⟨b', o', hA', hb', c1, c2, c3⟩ := HC.out j pv hpv
            have hA' := Option.some.inj hA'
            injection hA' with eb eo
            subst eb; subst eo
            have d4 := (HB2.out.cell (p := ⟨b, o + j * 3, none⟩) hb').trans c1
            have HPV := Lib.hid hpv
            clear c1 c2 c3 hpv
            have t9 : decide ((0 : Int) < ((j + 1 : Nat) : Int)) = true := decide_eq_true (by omega)
            have t8 : (((j + 1 : Nat) : Int)) - 1 = (j : Int) := by omega
            have g3 : (0 : Int) ≤ (j : Int) := by omega
            have g4 : (j : Int) < (l.length : Int) := by omega
            have hpr : Hid ((match prevK l (j + 1) with | none => false | some p => leB y.k p) = (Op.bytesLess y.k.toList pv.k.toList || y.k.toList == pv.k.toList)) := by
              have e : prevK l (j + 1) = some pv.k := by simp [prevK, HPV.out]
              rw [Hid, e]
              rfl
            have HG : Hid ((match prevK l (j + 1) with | none => false | some p => leB y.k p) = true → tabF l = 3) := fun h => by rw [HF.out, hch.out, chkt_three HY.out HF0.out h]
            have HN : Hid ((match prevK l (j + 1) with | none => false | some p => leB y.k p) = false → chkT none l = chkT (prevK l (j + 1 + 1)) (l.drop (j + 1 + 1))) := fun h => by rw [hch.out, chkt_step HY.out HF0.out h]
            clear hch
            go_quiet (fail)
            cases hL : (Op.bytesLess y.k.toList pv.k.toList || y.k.toList == pv.k.toList)
            · have hn := Lib.hid (HN.out (hpr.out.trans hL))
              go_wp2_with fail
              go_roundw
              case rel => exact ⟨j + 1 + 1, by omega, by go_num, hn, below_drewN HB2.out _⟩
              case measure => simp [intOf] <;> omega
            · have hn := Lib.hid (HG.out (hpr.out.trans hL))
              go_wp2_with fail
              go_ret
              exact ⟨by rw [hn.out]; rfl, below_drewN HB2.out _⟩
        · have he : errV (faultE y) = .iface 137 (.int .i64 (faultE y)) := by unfold errV; rw [if_neg hf]
          rw [he] at HCK
          have HE : Hid (tabF l = faultE y) := by rw [Hid, HF.out, hch.out, chkt_fault HY.out hf]
          have HE2 := Lib.hid he
          clear hf hbl he
          subst hA
          go_wp2_with (go_at_call 35; refine HCK.out.mono ?_; rintro e2 w2 ⟨rfl, hb2⟩; have HB2 := Lib.hid (HB1.out.trans (hb2.mono HB1.out.size)); clear hb2)
          go_ret
          exact ⟨by rw [HE.out, HE2.out]; rfl, HB2.out⟩
      · have hkl : k = l.length := by omega
        subst hkl
        have t1 : decide (((l.length : Nat) : Int) < ((l.length : Nat) : Int)) = false := decide_eq_false (by omega)
        have HE : Hid (tabF l = 0) := by rw [Hid, HF.out, hch.out, List.drop_length]; rfl
        go_wp2_with fail
        go_ret
        exact ⟨by rw [HE.out]; rfl, hbl⟩
end Go.Proofs.Ytaepdbkfaoiimaa
