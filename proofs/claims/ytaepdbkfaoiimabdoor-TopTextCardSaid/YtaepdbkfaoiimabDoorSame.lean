/- The contracts of the plain helpers of the statements: SameEntries, LightEntries. Conditions: none but the sizes of any memory. -/
import Derived.Test.YtaepdbkfaoiimabDoorOrd
import Derived.Test.YtaepdbkfaoiimabDoorChecked
import Derived.Laws.StructEq
set_option linter.unusedVariables false
set_option linter.unusedSimpArgs false
namespace Go.Proofs.YtaepdbkfaoiimabDoor
open Go.RowKit

/-- '==' of two entries. -/
theorem eq_ent (x y : Ent) (w : World) : (Op.equalIn 10000 28 (.agg #[.string x.k, .string x.v, .bool x.g]) (.agg #[.string y.k, .string y.v, .bool y.g])).run Tryd.prog w = .ok (decide (x = y)) w := by
  have u1 := Tryd.underlying9
  have a1 := Tryd.isAgg9
  have z1 := Tryd.sizeOf9
  have u2 := Tryd.underlying4
  have a2 := Tryd.isAgg4
  have z2 := Tryd.sizeOf4
  have hS : Tryd.prog.underlying 28 = some (.struct (Tryd.prog.fieldsOf 28)) := by kernel_rfl
  have hp : Tryd.prog.stoodInHeld 28 = false := by kernel_rfl
  rw [show (10000 : Nat) = 9999 + 1 from rfl, run_equalIn_agg w 9999 _ _ _ hS hp]
  simp only [Program.fieldsOf, Tryd.underlying28]
  go_simp
  simp only [toList_inj]
  obtain ⟨k, v, g⟩ := x
  obtain ⟨k', v', g'⟩ := y
  by_cases h1 : k = k' <;> by_cases h2 : v = v' <;> by_cases h3 : g = g' <;> simp [h1, h2, h3]
theorem guard_ent (op : BinOp) (a b : Operand) (x y : Ent) (w : World) : (eqGuard op 28 a b (.agg #[.string x.k, .string x.v, .bool x.g]) (.agg #[.string y.k, .string y.v, .bool y.g])).run Tryd.prog w = .ok () w :=
  run_eqGuard_agg w op _ a b _ _ (by kernel_rfl)
theorem eql_ent (x y : Ent) (w : World) : (binOp .eql 28 (.agg #[.string x.k, .string x.v, .bool x.g]) (.agg #[.string y.k, .string y.v, .bool y.g])).run Tryd.prog w = .ok (.bool (decide (x = y))) w := by
  rw [run_eql_struct, eq_ent]; rfl
theorem neq_ent (x y : Ent) (w : World) : (binOp .neq 28 (.agg #[.string x.k, .string x.v, .bool x.g]) (.agg #[.string y.k, .string y.v, .bool y.g])).run Tryd.prog w = .ok (.bool (!decide (x = y))) w := by
  rw [run_neq_struct, eq_ent]; rfl
attribute [local go_sem ↓] neq_ent eql_ent

set_option maxHeartbeats 1000000 in
theorem same_any (B : Nat) (a b : Value) (la lb : List Ent) (w : World) (ha : Ents B w a la) (hb : Ents B w b lb) :
    Calls Tryd.prog 7 #[a, b] w fun e w' => e = .returned (.bool (decide (la = lb))) ∧ ∃ n, w.drewN n = w' := by
  obtain ⟨A, c, rfl, hc, hc2, hcell⟩ := ha.form
  obtain ⟨A', c', rfl, hc', hc2', hcell'⟩ := hb.form
  have HA := Lib.hid hcell
  have HB := Lib.hid hcell'
  clear hcell hcell' ha hb
  by_cases hl : la.length = lb.length
  · have t1 : ((la.length : Int) != (lb.length : Int)) = false := by rw [hl]; simp
    have HL := Lib.hid hl
    clear hl
    go_enter Tryd.func7, Tryd.ntmps7
    go_wp2_with fail
    go_loopw [5] (fun i wr => ∃ k n : Nat, k ≤ la.length ∧ i = .int .i64 k ∧ w.drewN n = wr ∧ Hid (la.take k = lb.take k)) (fun i _ => la.length - (intOf i).toNat)
    case atStart => exact ⟨0, 0, Nat.zero_le _, rfl, rfl, rfl⟩
    case round =>
      obtain ⟨k, n, hk, rfl, rfl, htk⟩ := hrel
      by_cases hlt : k < la.length
      · have hlt' : k < lb.length := by have := HL.out; omega
        obtain ⟨x, hx, hx2, _⟩ := getElem?_of_lt hlt
        obtain ⟨y, hy, hy2, _⟩ := getElem?_of_lt hlt'
        obtain ⟨b, o, rfl, hb, c1, c2, c3⟩ := HA.out k x hx
        obtain ⟨b', o', rfl, hb', d1, d2, d3⟩ := HB.out k y hy
        have X2 := Lib.hid hx2
        have Y2 := Lib.hid hy2
        have X1 := Lib.hid hx
        have Y1 := Lib.hid hy
        clear hx hx2 hy hy2
        have g1 : (0 : Int) ≤ (k : Int) := by omega
        have g2 : (k : Int) < (la.length : Int) := by omega
        have g3 : (k : Int) < (lb.length : Int) := by omega
        by_cases hxy : x = y
        · have hd : decide (x = y) = true := decide_eq_true hxy
          have HX := Lib.hid hxy
          clear hxy
          go_wp2_with fail
          go_quiet (fail)
          go_wp2_with fail
          go_roundw
          case rel => exact ⟨k + 1, _, by omega, by go_num, rfl, by rw [Hid, X2.out, Y2.out, htk.out, HX.out]⟩
          case measure => simp [intOf] <;> omega
        · have hd : decide (x = y) = false := decide_eq_false hxy
          have HX := Lib.hid hxy
          clear hxy
          go_wp2_with fail
          go_quiet (fail)
          go_wp2_with fail
          go_ret
          refine ⟨ret_bool ?_, n + nq, by simp [World.drewN_drewN]⟩
          symm
          apply decide_eq_false
          intro e
          have h1 := X1.out
          have h2 := Y1.out
          rw [e, h2] at h1
          exact HX.out (Option.some.inj h1).symm
      · have hge : la.length ≤ k := by omega
        go_wp2_with fail
        go_ret
        refine ⟨ret_bool ?_, _, rfl⟩
        have h1 := htk.out
        have h2 := HL.out
        rw [List.take_of_length_le hge, List.take_of_length_le (by omega)] at h1
        rw [h1]; simp
  · have t1 : ((la.length : Int) != (lb.length : Int)) = true := by rw [bne_iff_ne]; omega
    have HL := Lib.hid hl
    clear hl
    go_enter Tryd.func7, Tryd.ntmps7
    go_wp2_with fail
    go_ret
    refine ⟨ret_bool ?_, 0, rfl⟩
    symm
    apply decide_eq_false
    intro e
    exact HL.out (by rw [e])

/-- LightEntries. -/
def lightE (n : Int) (l : List Ent) : Bool := decide ((l.length : Int) ≤ n) && l.all (fun e => decide (e.k.size ≤ 20) && decide (e.v.size ≤ 30))
set_option maxHeartbeats 1000000 in
theorem lightE_any (B : Nat) (v : Value) (l : List Ent) (m : Int) (w : World) (hl : Ents B w v l) :
    Calls Tryd.prog 5 #[v, .int .i64 m] w fun e w' => e = .returned (.bool (lightE m l)) ∧ w = w' := by
  obtain ⟨A, c, rfl, hc, hc2, hcell⟩ := hl.form
  have HC := Lib.hid hcell
  clear hl hcell
  by_cases h60 : (l.length : Int) ≤ m
  · go_enter Tryd.func5, Tryd.ntmps5
    go_wp2_with fail
    go_loop [5] (fun i => ∃ k : Nat, k ≤ l.length ∧ i = .int .i64 k ∧ Hid ((l.take k).all (fun e => decide (e.k.size ≤ 20) && decide (e.v.size ≤ 30)) = true)) (fun i => l.length - (intOf i).toNat)
    case atStart => exact ⟨0, Nat.zero_le _, rfl, rfl⟩
    case round =>
      obtain ⟨k, hk, rfl, hx⟩ := hrel
      by_cases hlt : k < l.length
      · obtain ⟨s, hs, htk, hdr⟩ := getElem?_of_lt hlt
        obtain ⟨b, o, rfl, hb, c1, c2, c3⟩ := HC.out k s hs
        have HS := Lib.hid hs
        have HT := Lib.hid htk
        clear htk hs hdr
        by_cases h20 : s.k.size ≤ 20
        · by_cases h30 : s.v.size ≤ 30
          · go_wp2_with fail
            go_round
            case rel => exact ⟨k + 1, by omega, by go_num, by rw [Hid, HT.out, List.all_append, hx.out]; simp [h20, h30]⟩
            case measure => simp [intOf] <;> omega
          · go_wp2_with fail
            go_ret
            refine ⟨ret_bool ?_, rfl⟩
            have : l.all (fun e => decide (e.k.size ≤ 20) && decide (e.v.size ≤ 30)) = false := by
              rw [List.all_eq_false]
              exact ⟨s, List.mem_of_getElem? HS.out, by simp; omega⟩
            rw [lightE, this, Bool.and_false]
        · go_wp2_with fail
          go_ret
          refine ⟨ret_bool ?_, rfl⟩
          have : l.all (fun e => decide (e.k.size ≤ 20) && decide (e.v.size ≤ 30)) = false := by
            rw [List.all_eq_false]
            exact ⟨s, List.mem_of_getElem? HS.out, by simp; omega⟩
          rw [lightE, this, Bool.and_false]
      · have hge : l.length ≤ k := by omega
        go_wp2_with fail
        go_ret
        have e : l.take k = l := List.take_of_length_le hge
        have hx' := hx.out
        rw [e] at hx'
        exact ⟨ret_bool (by rw [lightE, hx']; simp [h60]), rfl⟩
  · go_enter Tryd.func5, Tryd.ntmps5
    go_wp2_with fail
    go_ret
    exact ⟨ret_bool (by rw [lightE, decide_eq_false (by omega), Bool.false_and]), rfl⟩
theorem lightE_out {m : Int} {l : List Ent} (h : lightE m l = true) : (l.length : Int) ≤ m ∧ ∀ e ∈ l, e.k.size ≤ 20 ∧ e.v.size ≤ 30 := by
  simp only [lightE, Bool.and_eq_true, decide_eq_true_eq, List.all_eq_true] at h
  exact h

end Go.Proofs.YtaepdbkfaoiimabDoor
