/- Names: returns true, whatever the memory. Conditions: none. -/
import Derived.Test.YtaepdbkfaoiimaaDoorEntry
import Derived.Test.YtaepdbkfaoiimaaDoorCloseD
import Derived.Test.YtaepdbkfaoiimaaDoorShelf
import Derived.Test.YtaepdbkfaoiimaaDoorTie
import Derived.Test.YtaepdbkfaoiimaaDoorCards
set_option linter.unusedVariables false
set_option linter.unusedSimpArgs false
namespace Go.Proofs.YtaepdbkfaoiimaaDoor
open Go.ChangeShapes Go.WideShapes Go.ChangeAt Go.RowKit Go.WideElems
set_option maxHeartbeats 1000000 in
theorem samenum_any (B : Nat) (a b : Value) (la lb : List Int) (w : World) (ha : Ints B w a la) (hb : Ints B w b lb) :
    Calls Tryd.prog 6 #[a, b] w fun e w' => e = .returned (.bool (decide (la = lb))) ∧ ∃ n, w.drewN n = w' := by
  obtain ⟨A, c, rfl, hc, hc2, hcell⟩ := ha.form
  obtain ⟨A', c', rfl, hc', hc2', hcell'⟩ := hb.form
  have HA := Lib.hid hcell
  have HB := Lib.hid hcell'
  clear hcell hcell' ha hb
  by_cases hl : la.length = lb.length
  · have t1 : ((la.length : Int) != (lb.length : Int)) = false := by rw [hl]; simp
    have HL := Lib.hid hl
    clear hl
    go_enter Tryd.func6, Tryd.ntmps6
    go_wp2_with fail
    go_loopw [5] (fun i wr => ∃ k n : Nat, k ≤ la.length ∧ i = .int .i64 k ∧ w.drewN n = wr ∧ Hid (la.take k = lb.take k)) (fun i _ => la.length - (intOf i).toNat)
    case atStart => exact ⟨0, 0, Nat.zero_le _, rfl, rfl, rfl⟩
    case round =>
      obtain ⟨k, n, hk, rfl, rfl, htk⟩ := hrel
      by_cases hlt : k < la.length
      · have hlt' : k < lb.length := by have := HL.out; omega
        obtain ⟨x, hx, hx2, _⟩ := getElem?_of_lt hlt
        obtain ⟨y, hy, hy2, _⟩ := getElem?_of_lt hlt'
        obtain ⟨b, o, rfl, hb, c1⟩ := HA.out k x hx
        obtain ⟨b', o', rfl, hb', d1⟩ := HB.out k y hy
        have X2 := Lib.hid hx2
        have Y2 := Lib.hid hy2
        have X1 := Lib.hid hx
        have Y1 := Lib.hid hy
        clear hx hx2 hy hy2
        have g1 : (0 : Int) ≤ (k : Int) := by omega
        have g2 : (k : Int) < (la.length : Int) := by omega
        have g3 : (k : Int) < (lb.length : Int) := by omega
        by_cases hxy : x = y
        · have hd : (x != y) = false := by rw [hxy]; simp
          have HX := Lib.hid hxy
          clear hxy
          go_wp2_with fail
          go_quiet (fail)
          go_wp2_with fail
          go_roundw
          case rel => exact ⟨k + 1, _, by omega, by go_num, rfl, by rw [Hid, X2.out, Y2.out, htk.out, HX.out]⟩
          case measure => simp [intOf] <;> omega
        · have hd : (x != y) = true := by rw [bne_iff_ne]; exact hxy
          have HX := Lib.hid hxy
          clear hxy
          go_wp2_with fail
          go_quiet (fail)
          go_wp2_with fail
          go_ret
          refine ⟨ret_bool ?_, n + nq, by simp [World.drewN_drewN]⟩
          symm
          apply decide_eq_false
          intro e
          have h1 := X1.out
          have h2 := Y1.out
          rw [e, h2] at h1
          exact HX.out (Option.some.inj h1).symm
      · have hge : la.length ≤ k := by omega
        go_wp2_with fail
        go_ret
        refine ⟨ret_bool ?_, _, rfl⟩
        have h1 := htk.out
        have h2 := HL.out
        rw [List.take_of_length_le hge, List.take_of_length_le (by omega)] at h1
        rw [h1]; simp
  · have t1 : ((la.length : Int) != (lb.length : Int)) = true := by rw [bne_iff_ne]; omega
    have HL := Lib.hid hl
    clear hl
    go_enter Tryd.func6, Tryd.ntmps6
    go_wp2_with fail
    go_ret
    refine ⟨ret_bool ?_, 0, rfl⟩
    symm
    apply decide_eq_false
    intro e
    exact HL.out (by rw [e])


def saidNine : ByteArray := ⟨#[116, 105, 100, 101, 103, 97, 116, 101, 58, 32, 101, 114, 114, 111, 114, 32, 57]⟩
theorem errno_nine (w : World) : Calls Tryd.prog 7 #[.int .i64 9] w fun e w' => e = .returned (.string saidNine) ∧ w' = w := by
  have hi := Tryd.strconv_Itoa_small 9 (by decide) w
  rw [show (⟨(Lib.decDigits 9).toArray⟩ : ByteArray) = ⟨#[57]⟩ by decide +kernel] at hi
  have HI := Lib.hid hi
  clear hi
  go_enter Tryd.func7, Tryd.ntmps7
  go_wp2_with fail
  refine HI.out.mono ?_
  rintro e w1 ⟨rfl, rfl⟩
  go_wp2_with fail
  go_ret
  exact ⟨rfl, rfl⟩

def numsL : List Int := [24, 8, 64, 2, 8, 16, 4, 40, 2, 4, 3, 100000, 80, 60, 0, 1, 2, 3, 4, 5]
theorem ints_lit (B : Nat) (w : World) (xs : List Int) (hs : xs.length ≤ 1000) : Ints B (w.alloc (.cells (xs.map (.int .i64)).toArray 3)) (.slice (some ⟨w.heap.size, 0, none⟩) xs.length xs.length) xs := by
  have hb := Blk.new w 3 (xs.map (.int .i64)).toArray
  refine ⟨by simp, _, _, rfl, Nat.le_refl _, by omega, fun _ => ⟨_, _, rfl, .inr ⟨_, _, hb⟩, hb.lt, fun j u hu => ?_⟩⟩
  rw [Nat.zero_add, hb.cell]
  simpa using hu
set_option maxRecDepth 20000 in
set_option maxHeartbeats 4000000 in
theorem names_walk (w : World) : Calls Tryd.prog 3 #[] w fun e w' => e = .returned (.bool true) ∧ Below w.heap.size w w' := by
  have HSA : Hid (∀ (n : Int), 1 ≤ n → ∀ W, Calls Tryd.prog 5 #[.iface 23 (.int .i64 n), .int .i64 n] W fun d w' => d = .returned (.bool true) ∧ W = w') := fun n hn W => by
    obtain ⟨m, rfl⟩ := Int.eq_ofNat_of_zero_le (show 0 ≤ n by omega)
    have h := same_err m m W
    rw [show errV m = .iface 23 (.int .i64 (m : Int)) from if_neg (by omega)] at h
    simpa using h
  have HNI := Lib.hid errno_nine
  have s1 : (w.alloc (.cells #[.int .i64 24, .int .i64 8, .int .i64 64, .int .i64 2, .int .i64 8, .int .i64 16, .int .i64 4, .int .i64 40, .int .i64 2, .int .i64 4, .int .i64 3, .int .i64 100000, .int .i64 80, .int .i64 60, .int .i64 0, .int .i64 1, .int .i64 2, .int .i64 3, .int .i64 4, .int .i64 5] 3)).heap.size = w.heap.size + 1 := by simp
  have s2 : ((w.alloc (.cells #[.int .i64 24, .int .i64 8, .int .i64 64, .int .i64 2, .int .i64 8, .int .i64 16, .int .i64 4, .int .i64 40, .int .i64 2, .int .i64 4, .int .i64 3, .int .i64 100000, .int .i64 80, .int .i64 60, .int .i64 0, .int .i64 1, .int .i64 2, .int .i64 3, .int .i64 4, .int .i64 5] 3)).alloc (.cells #[.int .i64 24, .int .i64 8, .int .i64 64, .int .i64 2, .int .i64 8, .int .i64 16, .int .i64 4, .int .i64 40, .int .i64 2, .int .i64 4, .int .i64 3, .int .i64 100000, .int .i64 80, .int .i64 60, .int .i64 0, .int .i64 1, .int .i64 2, .int .i64 3, .int .i64 4, .int .i64 5] 3)).heap.size = w.heap.size + 1 + 1 := by simp
  have b1 : Below w.heap.size w (w.alloc (.cells #[.int .i64 24, .int .i64 8, .int .i64 64, .int .i64 2, .int .i64 8, .int .i64 16, .int .i64 4, .int .i64 40, .int .i64 2, .int .i64 4, .int .i64 3, .int .i64 100000, .int .i64 80, .int .i64 60, .int .i64 0, .int .i64 1, .int .i64 2, .int .i64 3, .int .i64 4, .int .i64 5] 3)) := (Below.refl _ _).alloc (Nat.le_refl _) _
  have b2 : Below (w.alloc (.cells #[.int .i64 24, .int .i64 8, .int .i64 64, .int .i64 2, .int .i64 8, .int .i64 16, .int .i64 4, .int .i64 40, .int .i64 2, .int .i64 4, .int .i64 3, .int .i64 100000, .int .i64 80, .int .i64 60, .int .i64 0, .int .i64 1, .int .i64 2, .int .i64 3, .int .i64 4, .int .i64 5] 3)).heap.size (w.alloc (.cells #[.int .i64 24, .int .i64 8, .int .i64 64, .int .i64 2, .int .i64 8, .int .i64 16, .int .i64 4, .int .i64 40, .int .i64 2, .int .i64 4, .int .i64 3, .int .i64 100000, .int .i64 80, .int .i64 60, .int .i64 0, .int .i64 1, .int .i64 2, .int .i64 3, .int .i64 4, .int .i64 5] 3)) ((w.alloc (.cells #[.int .i64 24, .int .i64 8, .int .i64 64, .int .i64 2, .int .i64 8, .int .i64 16, .int .i64 4, .int .i64 40, .int .i64 2, .int .i64 4, .int .i64 3, .int .i64 100000, .int .i64 80, .int .i64 60, .int .i64 0, .int .i64 1, .int .i64 2, .int .i64 3, .int .i64 4, .int .i64 5] 3)).alloc (.cells #[.int .i64 24, .int .i64 8, .int .i64 64, .int .i64 2, .int .i64 8, .int .i64 16, .int .i64 4, .int .i64 40, .int .i64 2, .int .i64 4, .int .i64 3, .int .i64 100000, .int .i64 80, .int .i64 60, .int .i64 0, .int .i64 1, .int .i64 2, .int .i64 3, .int .i64 4, .int .i64 5] 3)) := (Below.refl _ _).alloc (Nat.le_refl _) _
  have b3 : Below ((w.alloc (.cells #[.int .i64 24, .int .i64 8, .int .i64 64, .int .i64 2, .int .i64 8, .int .i64 16, .int .i64 4, .int .i64 40, .int .i64 2, .int .i64 4, .int .i64 3, .int .i64 100000, .int .i64 80, .int .i64 60, .int .i64 0, .int .i64 1, .int .i64 2, .int .i64 3, .int .i64 4, .int .i64 5] 3)).alloc (.cells #[.int .i64 24, .int .i64 8, .int .i64 64, .int .i64 2, .int .i64 8, .int .i64 16, .int .i64 4, .int .i64 40, .int .i64 2, .int .i64 4, .int .i64 3, .int .i64 100000, .int .i64 80, .int .i64 60, .int .i64 0, .int .i64 1, .int .i64 2, .int .i64 3, .int .i64 4, .int .i64 5] 3)).heap.size ((w.alloc (.cells #[.int .i64 24, .int .i64 8, .int .i64 64, .int .i64 2, .int .i64 8, .int .i64 16, .int .i64 4, .int .i64 40, .int .i64 2, .int .i64 4, .int .i64 3, .int .i64 100000, .int .i64 80, .int .i64 60, .int .i64 0, .int .i64 1, .int .i64 2, .int .i64 3, .int .i64 4, .int .i64 5] 3)).alloc (.cells #[.int .i64 24, .int .i64 8, .int .i64 64, .int .i64 2, .int .i64 8, .int .i64 16, .int .i64 4, .int .i64 40, .int .i64 2, .int .i64 4, .int .i64 3, .int .i64 100000, .int .i64 80, .int .i64 60, .int .i64 0, .int .i64 1, .int .i64 2, .int .i64 3, .int .i64 4, .int .i64 5] 3)) (((w.alloc (.cells #[.int .i64 24, .int .i64 8, .int .i64 64, .int .i64 2, .int .i64 8, .int .i64 16, .int .i64 4, .int .i64 40, .int .i64 2, .int .i64 4, .int .i64 3, .int .i64 100000, .int .i64 80, .int .i64 60, .int .i64 0, .int .i64 1, .int .i64 2, .int .i64 3, .int .i64 4, .int .i64 5] 3)).alloc (.cells #[.int .i64 24, .int .i64 8, .int .i64 64, .int .i64 2, .int .i64 8, .int .i64 16, .int .i64 4, .int .i64 40, .int .i64 2, .int .i64 4, .int .i64 3, .int .i64 100000, .int .i64 80, .int .i64 60, .int .i64 0, .int .i64 1, .int .i64 2, .int .i64 3, .int .i64 4, .int .i64 5] 3)).alloc (.cells #[.iface 23 (.int .i64 1), .iface 23 (.int .i64 2), .iface 23 (.int .i64 3), .iface 23 (.int .i64 4), .iface 23 (.int .i64 5), .iface 23 (.int .i64 6), .iface 23 (.int .i64 7), .iface 23 (.int .i64 8), .iface 23 (.int .i64 9)] 27)) := (Below.refl _ _).alloc (Nat.le_refl _) _
  have i1 : Ints w.heap.size (w.alloc (.cells #[.int .i64 24, .int .i64 8, .int .i64 64, .int .i64 2, .int .i64 8, .int .i64 16, .int .i64 4, .int .i64 40, .int .i64 2, .int .i64 4, .int .i64 3, .int .i64 100000, .int .i64 80, .int .i64 60, .int .i64 0, .int .i64 1, .int .i64 2, .int .i64 3, .int .i64 4, .int .i64 5] 3)) (.slice (some ⟨w.heap.size, 0, none⟩) 20 20) numsL := ints_lit w.heap.size w numsL (by decide)
  have i2 : Ints w.heap.size ((w.alloc (.cells #[.int .i64 24, .int .i64 8, .int .i64 64, .int .i64 2, .int .i64 8, .int .i64 16, .int .i64 4, .int .i64 40, .int .i64 2, .int .i64 4, .int .i64 3, .int .i64 100000, .int .i64 80, .int .i64 60, .int .i64 0, .int .i64 1, .int .i64 2, .int .i64 3, .int .i64 4, .int .i64 5] 3)).alloc (.cells #[.int .i64 24, .int .i64 8, .int .i64 64, .int .i64 2, .int .i64 8, .int .i64 16, .int .i64 4, .int .i64 40, .int .i64 2, .int .i64 4, .int .i64 3, .int .i64 100000, .int .i64 80, .int .i64 60, .int .i64 0, .int .i64 1, .int .i64 2, .int .i64 3, .int .i64 4, .int .i64 5] 3)) (.slice (some ⟨(w.alloc (.cells #[.int .i64 24, .int .i64 8, .int .i64 64, .int .i64 2, .int .i64 8, .int .i64 16, .int .i64 4, .int .i64 40, .int .i64 2, .int .i64 4, .int .i64 3, .int .i64 100000, .int .i64 80, .int .i64 60, .int .i64 0, .int .i64 1, .int .i64 2, .int .i64 3, .int .i64 4, .int .i64 5] 3)).heap.size, 0, none⟩) 20 20) numsL := ints_lit w.heap.size (w.alloc (.cells #[.int .i64 24, .int .i64 8, .int .i64 64, .int .i64 2, .int .i64 8, .int .i64 16, .int .i64 4, .int .i64 40, .int .i64 2, .int .i64 4, .int .i64 3, .int .i64 100000, .int .i64 80, .int .i64 60, .int .i64 0, .int .i64 1, .int .i64 2, .int .i64 3, .int .i64 4, .int .i64 5] 3)) numsL (by decide)
  have he : Blk (((w.alloc (.cells #[.int .i64 24, .int .i64 8, .int .i64 64, .int .i64 2, .int .i64 8, .int .i64 16, .int .i64 4, .int .i64 40, .int .i64 2, .int .i64 4, .int .i64 3, .int .i64 100000, .int .i64 80, .int .i64 60, .int .i64 0, .int .i64 1, .int .i64 2, .int .i64 3, .int .i64 4, .int .i64 5] 3)).alloc (.cells #[.int .i64 24, .int .i64 8, .int .i64 64, .int .i64 2, .int .i64 8, .int .i64 16, .int .i64 4, .int .i64 40, .int .i64 2, .int .i64 4, .int .i64 3, .int .i64 100000, .int .i64 80, .int .i64 60, .int .i64 0, .int .i64 1, .int .i64 2, .int .i64 3, .int .i64 4, .int .i64 5] 3)).alloc (.cells #[.iface 23 (.int .i64 1), .iface 23 (.int .i64 2), .iface 23 (.int .i64 3), .iface 23 (.int .i64 4), .iface 23 (.int .i64 5), .iface 23 (.int .i64 6), .iface 23 (.int .i64 7), .iface 23 (.int .i64 8), .iface 23 (.int .i64 9)] 27)) ((w.alloc (.cells #[.int .i64 24, .int .i64 8, .int .i64 64, .int .i64 2, .int .i64 8, .int .i64 16, .int .i64 4, .int .i64 40, .int .i64 2, .int .i64 4, .int .i64 3, .int .i64 100000, .int .i64 80, .int .i64 60, .int .i64 0, .int .i64 1, .int .i64 2, .int .i64 3, .int .i64 4, .int .i64 5] 3)).alloc (.cells #[.int .i64 24, .int .i64 8, .int .i64 64, .int .i64 2, .int .i64 8, .int .i64 16, .int .i64 4, .int .i64 40, .int .i64 2, .int .i64 4, .int .i64 3, .int .i64 100000, .int .i64 80, .int .i64 60, .int .i64 0, .int .i64 1, .int .i64 2, .int .i64 3, .int .i64 4, .int .i64 5] 3)).heap.size 27 #[.iface 23 (.int .i64 1), .iface 23 (.int .i64 2), .iface 23 (.int .i64 3), .iface 23 (.int .i64 4), .iface 23 (.int .i64 5), .iface 23 (.int .i64 6), .iface 23 (.int .i64 7), .iface 23 (.int .i64 8), .iface 23 (.int .i64 9)] := Blk.new _ _ _
  rw [s1] at i2
  rw [s2] at he
  have b23 := b2.trans (b3.mono b2.size)
  have HI1 := Lib.hid (i1.below b23)
  have HI2 := Lib.hid (i2.below b3)
  have HE := Lib.hid he
  have HB := Lib.hid (b1.trans (b23.mono b1.size))
  clear s1 s2 b1 b2 b3 i1 i2 he b23
  go_enter Tryd.func3, Tryd.ntmps3
  go_wp2_with fail
  generalize hW3 : (((w.alloc (.cells #[.int .i64 24, .int .i64 8, .int .i64 64, .int .i64 2, .int .i64 8, .int .i64 16, .int .i64 4, .int .i64 40, .int .i64 2, .int .i64 4, .int .i64 3, .int .i64 100000, .int .i64 80, .int .i64 60, .int .i64 0, .int .i64 1, .int .i64 2, .int .i64 3, .int .i64 4, .int .i64 5] 3)).alloc (.cells #[.int .i64 24, .int .i64 8, .int .i64 64, .int .i64 2, .int .i64 8, .int .i64 16, .int .i64 4, .int .i64 40, .int .i64 2, .int .i64 4, .int .i64 3, .int .i64 100000, .int .i64 80, .int .i64 60, .int .i64 0, .int .i64 1, .int .i64 2, .int .i64 3, .int .i64 4, .int .i64 5] 3)).alloc (.cells #[.iface 23 (.int .i64 1), .iface 23 (.int .i64 2), .iface 23 (.int .i64 3), .iface 23 (.int .i64 4), .iface 23 (.int .i64 5), .iface 23 (.int .i64 6), .iface 23 (.int .i64 7), .iface 23 (.int .i64 8), .iface 23 (.int .i64 9)] 27)) = w3 at *
  clear hW3
  have hsn := samenum_any w.heap.size _ _ _ _ w3 HI1.out HI2.out
  have HSN := Lib.hid hsn
  clear hsn
  have x0 := HE.out.cell 0
  simp at x0
  have x1 := HE.out.cell 1
  simp at x1
  have x2 := HE.out.cell 2
  simp at x2
  have x3 := HE.out.cell 3
  simp at x3
  have x4 := HE.out.cell 4
  simp at x4
  have x5 := HE.out.cell 5
  simp at x5
  have x6 := HE.out.cell 6
  simp at x6
  have x7 := HE.out.cell 7
  simp at x7
  have x8 := HE.out.cell 8
  simp at x8
  go_loopw [4] (fun i wr => ∃ k : Nat, k ≤ 9 ∧ i = .int .i64 (k : Int) ∧ wr = w3) (fun i _ => (9 - intOf i).toNat)
  case atStart => exact ⟨0, by omega, rfl, rfl⟩
  case round =>
    obtain ⟨k, hk, rfl, rfl⟩ := hrel
    by_cases hlt : k < 9
    · have h9 : k = 0 ∨ k = 1 ∨ k = 2 ∨ k = 3 ∨ k = 4 ∨ k = 5 ∨ k = 6 ∨ k = 7 ∨ k = 8 := by omega
      rcases h9 with rfl | rfl | rfl | rfl | rfl | rfl | rfl | rfl | rfl
      · go_wp2_with fail
        refine (HSA.out 1 (by decide) _).mono ?_
        rintro e w4 ⟨rfl, rfl⟩
        go_wp2_with fail
        go_roundw
        case rel => exact ⟨1, by omega, by go_num, by trivial⟩
        case measure => simp [intOf]
      · go_wp2_with fail
        refine (HSA.out 2 (by decide) _).mono ?_
        rintro e w4 ⟨rfl, rfl⟩
        go_wp2_with fail
        go_roundw
        case rel => exact ⟨2, by omega, by go_num, by trivial⟩
        case measure => simp [intOf]
      · go_wp2_with fail
        refine (HSA.out 3 (by decide) _).mono ?_
        rintro e w4 ⟨rfl, rfl⟩
        go_wp2_with fail
        go_roundw
        case rel => exact ⟨3, by omega, by go_num, by trivial⟩
        case measure => simp [intOf]
      · go_wp2_with fail
        refine (HSA.out 4 (by decide) _).mono ?_
        rintro e w4 ⟨rfl, rfl⟩
        go_wp2_with fail
        go_roundw
        case rel => exact ⟨4, by omega, by go_num, by trivial⟩
        case measure => simp [intOf]
      · go_wp2_with fail
        refine (HSA.out 5 (by decide) _).mono ?_
        rintro e w4 ⟨rfl, rfl⟩
        go_wp2_with fail
        go_roundw
        case rel => exact ⟨5, by omega, by go_num, by trivial⟩
        case measure => simp [intOf]
      · go_wp2_with fail
        refine (HSA.out 6 (by decide) _).mono ?_
        rintro e w4 ⟨rfl, rfl⟩
        go_wp2_with fail
        go_roundw
        case rel => exact ⟨6, by omega, by go_num, by trivial⟩
        case measure => simp [intOf]
      · go_wp2_with fail
        refine (HSA.out 7 (by decide) _).mono ?_
        rintro e w4 ⟨rfl, rfl⟩
        go_wp2_with fail
        go_roundw
        case rel => exact ⟨7, by omega, by go_num, by trivial⟩
        case measure => simp [intOf]
      · go_wp2_with fail
        refine (HSA.out 8 (by decide) _).mono ?_
        rintro e w4 ⟨rfl, rfl⟩
        go_wp2_with fail
        go_roundw
        case rel => exact ⟨8, by omega, by go_num, by trivial⟩
        case measure => simp [intOf]
      · go_wp2_with fail
        refine (HSA.out 9 (by decide) _).mono ?_
        rintro e w4 ⟨rfl, rfl⟩
        go_wp2_with fail
        go_roundw
        case rel => exact ⟨9, by omega, by go_num, by trivial⟩
        case measure => simp [intOf]
    · obtain rfl : k = 9 := by omega
      go_wp2_with (first
        | (go_at_call 6; refine HSN.out.mono ?_; rintro e w4 ⟨rfl, nd, rfl⟩)
        | (go_at_call 7; refine (HNI.out _).mono ?_; rintro e w5 ⟨rfl, rfl⟩))
      go_ret
      exact ⟨by simp [saidNine], below_drewN' HB.out nd⟩

-- CLOSING

set_option maxRecDepth 100000 in
theorem names_row : Rows.NamesSaid :=
  OpenClaim.holds_of_wide 3 Tryd.f3 rfl rfl rfl rfl rfl rfl rfl ⟨rfl, rfl, rfl, rfl, rfl⟩ rfl rfl rfl rfl rfl (by kernel_rfl) Tryd.func3 (by kernel_rfl)
    (of_decide_eq_true (by kernel_rfl)) (by unfold Func.isWrapper; first | (rw [if_pos (by decide +kernel)]; kernel_rfl) | (rw [if_neg (by decide +kernel)]; exact ⟨rfl, rfl⟩))
    (fun os started H enc _ => close_laidH Rows.namesSpec 3 Tryd.f3 (fun w => laidMetH Tryd.prog Rows.namesRow.laid w) os started H enc (by kernel_rfl) Tryd.func3 (by kernel_rfl) rfl
      (fun ds hd => by
        rw [Tryd.params3] at hd
        match ds, hd with
        | [], _ => rfl)
      (by kernel_rfl)
      (ChangeSpec.witness_shaped (enc := enc) (C := Tryd.checked) (os := os) (X := fun w _ => laidMetH Tryd.prog Rows.namesRow.laid w) false (World.laidAll Tryd.prog os Rows.namesRow.laid) #[] 8 (World.laidAll_os _ _ _)
        (World.shaped_of_ZipB (by kernel_rfl) (by kernel_rfl)) (by kernel_rfl) (by kernel_rfl) (by kernel_rfl)
        (by rw [MakeChecks.laidMetH_plain _ _ _ (by kernel_rfl)]; exact laidMet_laidAll _ (by kernel_rfl) (by kernel_rfl)))
      (fun W base args ds p hsh hval hA => by
        rw [Tryd.params3] at hA hval
        obtain rfl : args = #[] := by
          cases args with
          | mk l => cases l with
            | nil => rfl
            | cons a b => simp [DataW.TrodAll] at hA
        exact names_walk W))
theorem names_holds : Rows.NamesCardSaid :=
  Claim7.holds_tied_plain_at .later [] [.data, .data, .data] true (true, "1f781f5758dd9fc3b453468a6e962d8bb713860d4ac394348cc1f245ba5dea51") true names_row (fun _ h => by cases h) (by kernel_rfl) (fun _ h => by cases h) names_row_tie rfl ⟨rfl, rfl⟩ (by kernel_rfl) rfl
    (fun f fn hf hfn => by
      obtain rfl : f = 3 := Option.some.inj ((show Tryd.prog.funcNamed "tidegate/tidegatelaw.Names" = some 3 by kernel_rfl).symm.trans hf) |>.symm
      obtain rfl : fn = Tryd.f3 := (Option.some.inj (Tryd.func3.symm.trans hfn)).symm
      exact ⟨by kernel_rfl, fun j t ht => by rw [Tryd.params3] at ht; simp at ht⟩)
    (by kernel_rfl)
#print axioms names_holds
end Go.Proofs.YtaepdbkfaoiimaaDoor
