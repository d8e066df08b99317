/- TopEntry returns true at every input, and leaves it as it was. Conditions: none. -/
import Derived.Test.YtaepdbkfaoiimabPage
import Derived.Test.YtaepdbkfaoiimabOpen
import Derived.Test.YtaepdbkfaoiimabBits
set_option linter.unusedVariables false
set_option linter.unusedSimpArgs false
namespace Go.Proofs.Ytaepdbkfaoiimab
open Go.ChangeShapes Go.WideShapes Go.ChangeAt Go.RowKit Go.WideMaps Go.WideElems
open Go.ChangeMaps (open_string shut_string)

theorem bytesF_zero {l : List Ent} (h : bytesF l = 0) : ∀ e ∈ l, faultE e = 0 := by
  unfold bytesF at h
  split at h
  · rename_i hf; exact ff_zero.1 hf
  · rename_i hf; exact absurd h hf
theorem lit_i64 {n : Int} (h : (Lit.int .i64 n).wf = true) : -9223372036854775808 ≤ n ∧ n ≤ 9223372036854775807 := by
  simp [Lit.wf, IntKind.min, IntKind.max, IntKind.signed, IntKind.bits] at h
  omega
set_option maxRecDepth 20000 in
set_option maxHeartbeats 8000000 in
theorem topEntry_walk (vl : Value) (l : List Ent) (n : Int) (w : World) (hl : Ents w.heap.size w vl l) (h0 : -9223372036854775808 ≤ n) (h1 : n ≤ 9223372036854775807) :
    Calls Try.prog 5 #[vl, .int .i64 n] w fun e w' => e = .returned (.bool true) ∧ Below w.heap.size w w' := by
  obtain ⟨A, c, rfl, hc, hc2, hcell⟩ := hl.form
  have HL : Hid (Ents w.heap.size w (.slice A l.length c) l) := hl
  have hnil : Ents w.heap.size w (.slice none 0 0) [] := ⟨Rd.nil _ _ _ _, by simp⟩
  have HB0 := Lib.hid (bytes_any w.heap.size _ [] w hnil (by decide))
  have e1 : bytesF [] = 0 := by decide
  have e2 : bytesS [] = ⟨#[0]⟩ := by decide +kernel
  rw [e1, e2, show errV 0 = Value.nilIface from rfl] at HB0
  clear hl hcell hnil e1 e2
  go_enter Try.func5, Try.ntmps5
  go_wp2_with fail
  refine HB0.out.mono ?_
  rintro e w1 ⟨rfl, hb1⟩
  have HB1 := Lib.hid hb1
  have HLI := Lib.hid (lightE_any w.heap.size _ l 8 _ (HL.out.below hb1))
  clear hb1 HB0
  go_wp2_with fail
  refine HLI.out.mono ?_
  rintro e w2 ⟨rfl, rfl⟩
  cases hlight : lightE 8 l
  · go_wp2_with fail
    go_ret
    exact ⟨rfl, HB1.out⟩
  have hln := (lightE_out hlight).1
  have HBY := Lib.hid (bytes_any w.heap.size _ l w1 (HL.out.below HB1.out) (by omega))
  clear hlight
  by_cases hf : bytesF l = 0
  · have hS : bytesS l = bytesL l.length l := if_pos hf
    rw [hf, hS, show errV 0 = Value.nilIface from rfl] at HBY
    have HF := Lib.hid (bytesF_zero hf)
    have hsz := bytesL_size l.length l HF.out
    clear hf hS
    go_wp2_with fail
    refine HBY.out.mono ?_
    rintro e w3 ⟨rfl, hb3⟩
    have HB3 := Lib.hid (HB1.out.trans (hb3.mono HB1.out.size))
    clear hb3 HBY
    go_wp2_with fail
    have a63 := and63 n
    have q0 : 0 ≤ n % 64 := by omega
    have q1 : n % 64 < 64 := by omega
    go_loop [5, 7] (fun s i => ∃ k : Nat, k ≤ 64 ∧ (k : Int) ≤ n % 64 ∧ i = .int .i64 (k : Int) ∧ s = .string (bytesL l.length l ++ zer k)) (fun _ i => (n % 64 - intOf i).toNat)
    case atStart => exact ⟨0, by omega, by omega, rfl, by rw [zer_zero]⟩
    case round =>
      obtain ⟨k, hk, hkn, rfl, rfl⟩ := hrel
      have hsk : (bytesL l.length l ++ zer k).size = (bytesL l.length l).size + k := by rw [ByteArray.size_append, zer_size]
      by_cases hlt : (k : Int) < n % 64
      · have HZ := Lib.hid (zer_succ (bytesL l.length l) k)
        have t34 : decide ((k : Int) < n % 64) = true := decide_eq_true hlt
        go_wp2_with fail
        go_round
        case rel => exact ⟨k + 1, by omega, by omega, by go_num, by rw [← HZ.out]⟩
        case measure => simp [intOf] <;> omega
      · have t34 : decide ((k : Int) < n % 64) = false := decide_eq_false hlt
        have hp : parseR (bytesL l.length l ++ zer k) = some l := parse_bytes l HF.out (by omega) (k := k) (by rw [data_append_]; rfl)
        have hpa := parse_any w.heap.size (bytesL l.length l ++ zer k) w3 (by omega)
        have hpe : perr (bytesL l.length l ++ zer k) = 0 := by rw [perr, if_neg (by rw [hp]; simp)]
        rw [hpe, hp, show errV 0 = Value.nilIface from rfl] at hpa
        have HPA := Lib.hid hpa
        clear hp hpa hpe
        go_wp2_with fail
        refine HPA.out.mono ?_
        rintro e w4 ⟨v4, rfl, he4, hb4⟩
        have HB4 := Lib.hid (HB3.out.trans (hb4.mono HB3.out.size))
        have HSE := Lib.hid (same_any w.heap.size v4 _ l l w4 he4 (HL.out.below HB4.out))
        clear he4 hb4 HPA
        go_wp2_with fail
        refine HSE.out.mono ?_
        rintro e w5 ⟨rfl, n5, rfl⟩
        go_wp2_with fail
        go_ret
        exact ⟨rfl, below_drewN' HB4.out n5⟩
  · have hS : bytesS l = ByteArray.empty := if_neg hf
    have he : errV (bytesF l) = .iface 107 (.int .i64 (bytesF l)) := if_neg hf
    rw [hS, he] at HBY
    clear hf hS he
    go_wp2_with fail
    refine HBY.out.mono ?_
    rintro e w3 ⟨rfl, hb3⟩
    have HB3 := Lib.hid (HB1.out.trans (hb3.mono HB1.out.size))
    have t30 : (ByteArray.empty.toList == []) = true := by rw [beq_iff_eq, toList_nil]; rfl
    clear hb3 HBY
    go_wp2_with fail
    go_ret
    exact ⟨rfl, HB3.out⟩

-- CLOSING

set_option maxRecDepth 100000 in
theorem topEntry_holds : Rows.TopEntrySaid :=
  OpenClaim.holds_of_wide 5 Try.f5 rfl rfl rfl rfl rfl rfl rfl ⟨rfl, rfl, rfl, rfl, rfl⟩ rfl rfl rfl rfl rfl (by kernel_rfl) Try.func5 (by kernel_rfl)
    (of_decide_eq_true (by kernel_rfl)) (by unfold Func.isWrapper; first | (rw [if_pos (by decide +kernel)]; kernel_rfl) | (rw [if_neg (by decide +kernel)]; exact ⟨rfl, rfl⟩))
    (fun os started H enc _ => close_lifted Rows.topEntrySpec 5 Try.f5 os started H enc (by kernel_rfl) Try.func5 (by kernel_rfl) rfl
      (fun ds hd => by
        rw [Try.params5] at hd
        match ds, hd with
        | [d1, d2], _ => rfl)
      (by kernel_rfl)
      (ChangeSpec.witness6 (enc := enc) (C := Try.checked) false ⟨#[], #[.slice none 0 0, .int .i64 0], []⟩ 8 (by kernel_rfl) (by kernel_rfl) (by kernel_rfl) (by kernel_rfl))
      (fun W base args ds p hval hA => by
        rw [Try.params5] at hA hval
        obtain ⟨v0, v1, d0, d1, p0, p1, hargs, rfl, rfl, h0, h1⟩ := trodAll_two hA
        obtain rfl : args = #[v0, v1] := by cases args; simp_all
        obtain ⟨l0, hl0⟩ := ents_of (hval 0 _ v0 rfl rfl) h0
        obtain ⟨n1, rfl, rfl, rfl, wn1⟩ := open_int Try.underlying3 (hval 1 _ v1 rfl rfl) h1
        exact topEntry_walk v0 l0 n1 W hl0 (by have := (lit_i64 wn1).1; omega) (by have := (lit_i64 wn1).2; omega)))
#print axioms topEntry_holds
end Go.Proofs.Ytaepdbkfaoiimab
