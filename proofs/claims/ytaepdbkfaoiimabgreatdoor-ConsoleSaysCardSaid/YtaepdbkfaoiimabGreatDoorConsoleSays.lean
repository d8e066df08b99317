/- ConsoleSays: returns true, at any lines. Conditions: none. -/
import Derived.Test.YtaepdbkfaoiimabGreatDoorGq
import Derived.Test.YtaepdbkfaoiimabGreatDoorGr
import Derived.Test.YtaepdbkfaoiimabGreatDoorCloseD
import Derived.Test.YtaepdbkfaoiimabGreatDoorOpen
import Derived.Test.YtaepdbkfaoiimabGreatDoorTie
import Derived.Test.YtaepdbkfaoiimabGreatDoorCards
set_option linter.unusedVariables false
set_option linter.unusedSimpArgs false
set_option linter.unnecessarySimpa false
namespace Go.Proofs.YtaepdbkfaoiimabGreatDoor
open Go.ChangeShapes Go.WideShapes Go.ChangeAt Go.RowKit Go.WideElems Go.WideMaps
open Go.ChangeMaps (open_string shut_string)
set_option maxRecDepth 20000 in
theorem form_good : Good 0 0 formC formS := by
  obtain ⟨c1, c2, c3, c4, b, e1, e2, d2, e3, e4, hg⟩ := format_good
  obtain ⟨rfl, rfl⟩ := form_of ⟨c1, c2, c3, e1, e2, e3, e4⟩
  exact hg
set_option maxRecDepth 20000 in
theorem form_rows : formS.rows = [] := rows_none
/-! ### the lines of the closed fact -/
def lnsL : List ByteArray := [⟨#[119, 114, 105, 116, 101, 32, 97, 61, 120, 32, 98, 61, 121]⟩, ⟨#[119, 114, 105, 116, 101, 32, 98]⟩, ⟨#[114, 111, 119, 115]⟩, ⟨#[103, 101, 116, 32, 97]⟩, ⟨#[103, 101, 116, 32, 98]⟩, ⟨#[102, 108, 117, 115, 104]⟩, ⟨#[112, 97, 103, 101, 32, 97, 32, 53]⟩, ⟨#[112, 97, 103, 101, 32, 46, 32, 53]⟩, ⟨#[98, 108, 111, 99, 107, 115]⟩, ⟨#[102, 108, 121]⟩]
def wantL : List ByteArray := [⟨#[111, 107]⟩, ⟨#[111, 107]⟩, ⟨#[97, 61, 120]⟩, ⟨#[61, 120]⟩, ⟨#[101, 114, 114, 111, 114, 32, 53]⟩, ⟨#[111, 107]⟩, ⟨#[45]⟩, ⟨#[97, 61, 120]⟩, ⟨#[50, 48, 32, 50, 32, 49, 32, 49, 32, 48, 32, 48, 32, 119, 101, 97, 114, 32, 48, 32, 49]⟩, ⟨#[101, 114, 114, 111, 114, 32, 52]⟩]
set_option maxRecDepth 100000 in
theorem hello_run : runM lnsL = wantL := by decide +kernel
/-- Two words, of which the first weakens or arms. -/
def waB (x : ByteArray) : Bool := match splB x with
  | [w0, _] => w0.data.toList == kWeaken || w0.data.toList == kArm
  | _ => false
theorem noWA_of {x : ByteArray} (h : waB x = false) : NoWA x := by
  intro w0 w1 e
  unfold waB at h
  rw [e] at h
  simp only [Bool.or_eq_false_iff, beq_eq_false_iff_ne] at h
  rw [b_toList]
  exact h
theorem hello_wa : lnsL.all (fun x => !waB x) = true := by decide +kernel
/-! ### lines that the law takes -/
def fineB (x : ByteArray) : Bool := decide (x.size ≤ 100) && !(decide (3 < x.size) && ((x.extract 0 4).toList == [97, 114, 109, 32])) && !(decide (6 < x.size) && ((x.extract 0 7).toList == [119, 101, 97, 107, 101, 110, 32])) && !(x.toList == [98, 108, 111, 99, 107, 115])
theorem fine_wa {x : ByteArray} (h : fineB x = true) : NoWA x := by
  intro w0 w1 e
  obtain ⟨z, hz⟩ := splB_two e
  unfold fineB at h
  simp only [Bool.and_eq_true, Bool.not_eq_true', decide_eq_true_eq, Bool.and_eq_false_imp, beq_eq_false_iff_ne] at h
  obtain ⟨⟨⟨_, h1⟩, h2⟩, _⟩ := h
  have hs : x.data.toList.length = x.size := Array.length_toList
  constructor
  · intro hk
    rw [b_toList] at hk
    rw [hk] at hz
    have hl : 6 < x.size := by rw [← hs, hz]; simp [kWeaken]
    refine h2 hl ?_
    rw [b_toList, b_ext, hz]
    rfl
  · intro hk
    rw [b_toList] at hk
    rw [hk] at hz
    have hl : 3 < x.size := by rw [← hs, hz]; simp [kArm]
    refine h1 hl ?_
    rw [b_toList, b_ext, hz]
    rfl
theorem cmd1_nb {x : ByteArray} (h : x.toList ≠ kBlocks) : cmd1 x ≠ .blocks := by
  unfold cmd1
  repeat' split
  all_goals first | (intro e; cases e; done) | (rename_i h1; exact absurd h1 h) | simp
theorem cmd2_nb (w0 w1 : ByteArray) (r : List ByteArray) : cmd2 w0 w1 r ≠ .blocks := by
  match r with
  | [] =>
    unfold cmd2
    repeat' split
    all_goals simp
  | [w2] =>
    unfold cmd2
    repeat' split
    all_goals simp
  | _ :: _ :: _ => simp [cmd2]
theorem fine_nb {x : ByteArray} (h : fineB x = true) : cmdOf x ≠ .blocks := by
  have hb : x.toList ≠ kBlocks := by
    unfold fineB at h
    simp only [Bool.and_eq_true, Bool.not_eq_true', beq_eq_false_iff_ne] at h
    exact h.2
  unfold cmdOf
  split
  · simp
  · match hs : splB x with
    | [] => simp [cmdW]
    | [w0] => exact cmd1_nb hb
    | w0 :: w1 :: r =>
      show (if w0.toList = kWrite then Cmd.write (x.extract 6 x.size) else cmd2 w0 w1 r) ≠ .blocks
      by_cases hw : w0.toList = kWrite
      · rw [if_pos hw]; simp
      · rw [if_neg hw]; exact cmd2_nb _ _ _
set_option maxRecDepth 20000 in
theorem run_ref {l : List ByteArray} (h : ∀ x ∈ l, fineB x = true) (hn : l.length ≤ 80) : runM l = outsR [] l := by
  unfold runM
  rw [con_outs (k := 0) (cs := (formC, formS)) form_good (by omega) (fun x hx => fine_nb (h x hx))]
  show outsR formS.rows l = _
  rw [form_rows]
set_option maxRecDepth 20000 in
theorem ref_rows {l : List ByteArray} (hn : l.length ≤ 80) : (∀ e ∈ stR [] l, faultE e = 0) ∧ (stR [] l).length ≤ 40 := by
  obtain ⟨hg, hr⟩ := con_sts l (k := 0) (cs := (formC, formS)) form_good (by omega)
  rw [show (formC, formS).2.rows = [] from form_rows] at hr
  rw [← hr]
  exact ⟨con_rowsf hg.inv, hg.inv.body.rows⟩
/-! ### memory -/
theorem LibW.up {B B' : Nat} {w : World} (h : LibW B w) (hB : B ≤ B') : LibW B' w := ⟨Nat.le_trans h.big hB, h.maxl, h.syn, h.rng, h.tab⟩
theorem strs_lit (B : Nat) (w : World) (xs : List ByteArray) (hs : ∀ x ∈ xs, x.size ≤ 1000) (hn : xs.length ≤ 1000) : Strs B (w.alloc (.cells (xs.map Value.string).toArray 9)) (.slice (some ⟨w.heap.size, 0, none⟩) xs.length xs.length) xs := by
  have hb := Blk.new w 9 (xs.map Value.string).toArray
  refine ⟨⟨by simp, _, _, rfl, Nat.le_refl _, by omega, fun _ => ⟨_, _, rfl, .inr ⟨_, _, hb⟩, hb.lt, fun j u hu => ?_⟩⟩, fun x hx => by have := hs x hx; omega⟩
  rw [hb.cell, Nat.zero_add]
  simpa using hu
theorem rd_take {B T n m c : Nat} {w : World} {A : Option Addr} {xs : List Value} (h : Rd B T 1 w (.slice A n c) n xs) (hm : m ≤ n) : Rd B T 1 w (.slice A m c) m (xs.take m) := by
  obtain ⟨h1, A', c', e, h2, h3, h4⟩ := h
  injection e with e1 e2 e3
  subst e1; subst e3
  refine ⟨by rw [List.length_take]; omega, _, _, rfl, by omega, h3, fun h0 => ?_⟩
  obtain ⟨b, o, e, hk, hb, hc⟩ := h4 (by omega)
  refine ⟨b, o, e, hk, hb, fun j u hu => hc j u ?_⟩
  rw [List.getElem?_take] at hu
  split at hu
  · exact hu
  · cases hu
theorem Strs.up {B B' : Nat} {w : World} {v : Value} {l : List ByteArray} (h : Strs B w v l) (hB : B ≤ B') : Strs B' w v l := ⟨h.1.mono hB, h.2⟩
/-- What is of texts, or came in, stays. -/
structure KS (B : Nat) (W w : World) : Prop where
  size : W.heap.size ≤ w.heap.size
  keep : ∀ k, k < W.heap.size → (k < B ∨ ∃ cs fz, W.heap[k]? = some (.cells cs 9 fz)) → w.heap[k]? = W.heap[k]?
theorem KS.refl (B : Nat) (W : World) : KS B W W := ⟨Nat.le_refl _, fun _ _ _ => rfl⟩
theorem KS.say {B : Nat} {W w w' : World} (h : KS B W w) (hf : Fr B AnyB w w') : KS B W w' :=
  ⟨Nat.le_trans h.size hf.size, fun k hk hc => by
    have h1 := h.keep k hk hc
    refine (hf.block k (Nat.lt_of_lt_of_le hk h.size) ?_).trans h1
    rcases hc with hc | ⟨cs, fz, hc⟩
    · exact .inl hc
    · exact .inr (.inr ⟨cs, _, fz, h1.trans hc, by decide⟩)⟩
theorem KS.alloc {B : Nat} {W w : World} (h : KS B W w) (o : Obj) : KS B W (w.alloc o) := h.say ((Fr.refl B AnyB w).alloc o)
theorem KS.grown {B : Nat} {W w w' : World} {row : Option Nat} (h : KS B W w) (hg : w.grownBy w' row) (hr : ∀ k, row = some k → W.heap.size ≤ k) : KS B W w' :=
  ⟨Nat.le_trans h.size hg.size, fun k hk hc => (hg.block k (Nat.lt_of_lt_of_le hk h.size) fun e => by have := hr k e.symm; omega).trans (h.keep k hk hc)⟩
theorem Strs.ks {B : Nat} {W w : World} {v : Value} {l : List ByteArray} (h : Strs B W v l) (hk : KS B W w) : Strs B w v l := ⟨h.1.keep fun b hb hlt => hk.keep b hlt hb, h.2⟩
theorem rses_grown {B y : Nat} {w w' : World} {row : Option Nat} {r : List Ent} (h : RSes B w y r) (hg : w.grownBy w' row) (hr : ∀ g, row = some g → g < w.heap.size → B ≤ g ∧ ∃ cs fz, w.heap[g]? = some (.cells cs 9 fz)) : RSes B w' y r := by
  obtain ⟨⟨m, h1, ⟨⟨v, h2, h3⟩, h4⟩⟩, h5⟩ := h
  exact ⟨⟨m, blkS_grown h1 (by decide) hg hr, ⟨⟨v, blkS_grown h2 (by decide) hg hr, ⟨rd_grown h3.1 (by decide) hg hr, h3.2⟩⟩, h4⟩⟩, h5⟩
set_option maxRecDepth 20000 in
set_option maxHeartbeats 8000000 in
theorem hello_any (w : World) (hl : LibW w.heap.size w) :
    Calls Tryz.prog 4 #[] w fun e w' => e = .returned (.bool true) ∧ Below w.heap.size w w' := by
  have hb0 : Below w.heap.size w (w.alloc (.cells #[.string ⟨#[119, 114, 105, 116, 101, 32, 97, 61, 120, 32, 98, 61, 121]⟩, .string ⟨#[119, 114, 105, 116, 101, 32, 98]⟩, .string ⟨#[114, 111, 119, 115]⟩, .string ⟨#[103, 101, 116, 32, 97]⟩, .string ⟨#[103, 101, 116, 32, 98]⟩, .string ⟨#[102, 108, 117, 115, 104]⟩, .string ⟨#[112, 97, 103, 101, 32, 97, 32, 53]⟩, .string ⟨#[112, 97, 103, 101, 32, 46, 32, 53]⟩, .string ⟨#[98, 108, 111, 99, 107, 115]⟩, .string ⟨#[102, 108, 121]⟩] 9)) := (Below.refl _ _).alloc (Nat.le_refl _) _
  have hst : Strs (w.alloc (.cells #[.string ⟨#[119, 114, 105, 116, 101, 32, 97, 61, 120, 32, 98, 61, 121]⟩, .string ⟨#[119, 114, 105, 116, 101, 32, 98]⟩, .string ⟨#[114, 111, 119, 115]⟩, .string ⟨#[103, 101, 116, 32, 97]⟩, .string ⟨#[103, 101, 116, 32, 98]⟩, .string ⟨#[102, 108, 117, 115, 104]⟩, .string ⟨#[112, 97, 103, 101, 32, 97, 32, 53]⟩, .string ⟨#[112, 97, 103, 101, 32, 46, 32, 53]⟩, .string ⟨#[98, 108, 111, 99, 107, 115]⟩, .string ⟨#[102, 108, 121]⟩] 9)).heap.size (w.alloc (.cells #[.string ⟨#[119, 114, 105, 116, 101, 32, 97, 61, 120, 32, 98, 61, 121]⟩, .string ⟨#[119, 114, 105, 116, 101, 32, 98]⟩, .string ⟨#[114, 111, 119, 115]⟩, .string ⟨#[103, 101, 116, 32, 97]⟩, .string ⟨#[103, 101, 116, 32, 98]⟩, .string ⟨#[102, 108, 117, 115, 104]⟩, .string ⟨#[112, 97, 103, 101, 32, 97, 32, 53]⟩, .string ⟨#[112, 97, 103, 101, 32, 46, 32, 53]⟩, .string ⟨#[98, 108, 111, 99, 107, 115]⟩, .string ⟨#[102, 108, 121]⟩] 9)) (.slice (some ⟨w.heap.size, 0, none⟩) 10 10) lnsL := strs_lit _ w lnsL (by decide +kernel) (by decide)
  have hrun := run_any _ lnsL _ ((hl.below hb0).up hb0.size) hst (by decide) (fun x hx => noWA_of (by have := List.all_eq_true.1 hello_wa x hx; simpa using this))
  rw [hello_run] at hrun
  have HR := Lib.hid hrun
  have HB0 := Lib.hid hb0
  have H2 : Hid (∀ W, Calls Tryz.prog 6 #[.nilIface, .int .i64 0] W fun d w' => d = .returned (.bool true) ∧ W = w') := fun W => same_err 0 0 W
  clear hrun hb0 hst hl
  go_enter Tryz.func4, Tryz.ntmps4
  go_wp2_with fail
  refine HR.out.mono ?_
  rintro e w1 ⟨u, rfl, hu, hb1⟩
  have hl2 : Strs (w.alloc (.cells #[.string ⟨#[119, 114, 105, 116, 101, 32, 97, 61, 120, 32, 98, 61, 121]⟩, .string ⟨#[119, 114, 105, 116, 101, 32, 98]⟩, .string ⟨#[114, 111, 119, 115]⟩, .string ⟨#[103, 101, 116, 32, 97]⟩, .string ⟨#[103, 101, 116, 32, 98]⟩, .string ⟨#[102, 108, 117, 115, 104]⟩, .string ⟨#[112, 97, 103, 101, 32, 97, 32, 53]⟩, .string ⟨#[112, 97, 103, 101, 32, 46, 32, 53]⟩, .string ⟨#[98, 108, 111, 99, 107, 115]⟩, .string ⟨#[102, 108, 121]⟩] 9)).heap.size (w1.alloc (.cells #[.string ⟨#[111, 107]⟩, .string ⟨#[111, 107]⟩, .string ⟨#[97, 61, 120]⟩, .string ⟨#[61, 120]⟩, .string ⟨#[101, 114, 114, 111, 114, 32, 53]⟩, .string ⟨#[111, 107]⟩, .string ⟨#[45]⟩, .string ⟨#[97, 61, 120]⟩, .string ⟨#[50, 48, 32, 50, 32, 49, 32, 49, 32, 48, 32, 48, 32, 119, 101, 97, 114, 32, 48, 32, 49]⟩, .string ⟨#[101, 114, 114, 111, 114, 32, 52]⟩] 9)) (.slice (some ⟨w1.heap.size, 0, none⟩) 10 10) wantL := strs_lit _ w1 wantL (by decide +kernel) (by decide)
  have hba : Below w1.heap.size w1 (w1.alloc (.cells #[.string ⟨#[111, 107]⟩, .string ⟨#[111, 107]⟩, .string ⟨#[97, 61, 120]⟩, .string ⟨#[61, 120]⟩, .string ⟨#[101, 114, 114, 111, 114, 32, 53]⟩, .string ⟨#[111, 107]⟩, .string ⟨#[45]⟩, .string ⟨#[97, 61, 120]⟩, .string ⟨#[50, 48, 32, 50, 32, 49, 32, 49, 32, 48, 32, 48, 32, 119, 101, 97, 114, 32, 48, 32, 49]⟩, .string ⟨#[101, 114, 114, 111, 114, 32, 52]⟩] 9)) := (Below.refl _ _).alloc (Nat.le_refl _) _
  have HS := Lib.hid (sameT_any _ u _ wantL wantL _ (hu.below hba) hl2)
  have HB1 : Hid (Below w.heap.size w (w1.alloc (.cells #[.string ⟨#[111, 107]⟩, .string ⟨#[111, 107]⟩, .string ⟨#[97, 61, 120]⟩, .string ⟨#[61, 120]⟩, .string ⟨#[101, 114, 114, 111, 114, 32, 53]⟩, .string ⟨#[111, 107]⟩, .string ⟨#[45]⟩, .string ⟨#[97, 61, 120]⟩, .string ⟨#[50, 48, 32, 50, 32, 49, 32, 49, 32, 48, 32, 48, 32, 119, 101, 97, 114, 32, 48, 32, 49]⟩, .string ⟨#[101, 114, 114, 111, 114, 32, 52]⟩] 9))) := (HB0.out.trans (hb1.mono HB0.out.size)).trans (hba.mono (HB0.out.trans (hb1.mono HB0.out.size)).size)
  clear hu hb1 hl2 hba HR
  go_wp2_with fail
  refine (H2.out _).mono ?_
  rintro e w2 ⟨rfl, rfl⟩
  go_wp2_with fail
  refine HS.out.mono ?_
  rintro e w3 ⟨rfl, n, rfl⟩
  go_wp2_with fail
  go_ret
  exact ⟨ret_bool (by simp), below_drewN' HB1.out n⟩
set_option maxRecDepth 100000 in
set_option maxHeartbeats 16000000 in
theorem consoleSays_walk (v : Value) (l : List ByteArray) (w0 : World) (hv : Strs w0.heap.size w0 v l) (hl : LibW w0.heap.size w0) :
    Calls Tryz.prog 3 #[v] w0 fun e w' => e = .returned (.bool true) ∧ Below w0.heap.size w0 w' := by
  obtain ⟨A, cp, rfl, _, _, _⟩ := hv.form
  have HHE := Lib.hid (hello_any w0 hl)
  have HV0 := Lib.hid hv
  have HL0 := Lib.hid hl
  clear hv hl
  go_enter Tryz.func3, Tryz.ntmps3
  go_wp2_with fail
  refine HHE.out.mono ?_
  rintro e w ⟨rfl, hb⟩
  have HB := Lib.hid hb
  have HV := Lib.hid (HV0.out.below hb)
  have HL := Lib.hid ((HL0.out.below hb).up hb.size)
  clear hb HHE HV0 HL0
  by_cases h90 : 90 < l.length
  · have t1 : decide ((90 : Int) < (l.length : Int)) = true := decide_eq_true (by omega)
    clear h90
    go_wp2_with fail
    go_ret
    exact ⟨rfl, HB.out⟩
  have t1 : decide ((90 : Int) < (l.length : Int)) = false := decide_eq_false (by omega)
  go_wp2_with fail
  go_loop [4] (fun i => ∃ k : Nat, k ≤ l.length ∧ i = .int .i64 k ∧ Hid (∀ x ∈ l.take k, fineB x = true)) (fun i => l.length - (intOf i).toNat)
  case atStart => exact ⟨0, Nat.zero_le _, rfl, fun x hx => by simp at hx⟩
  case round =>
    obtain ⟨k, hk, rfl, hfine⟩ := hrel
    by_cases hlt : k < l.length
    · obtain ⟨y, hy, htk, _⟩ := getElem?_of_lt hlt
      obtain ⟨_, _, b, o, rfl, hbw, hcell⟩ := HV.out.at_ (by omega)
      have d1 := hcell k y hy
      have g1 : (0 : Int) ≤ (k : Int) := by omega
      have g2 : (k : Int) < (l.length : Int) := by omega
      have HTK := Lib.hid htk
      clear hcell hy htk
      by_cases a1 : 100 < y.size
      · have x1 : decide ((100 : Int) < (y.size : Int)) = true := decide_eq_true (by omega)
        clear a1
        go_wp2_with fail
        go_ret
        exact ⟨rfl, HB.out⟩
      have x1 : decide ((100 : Int) < (y.size : Int)) = false := decide_eq_false (by omega)
      have hB1 : (∃ _ : 3 < y.size, decide ((3 : Int) < (y.size : Int)) = true ∧ ((y.extract 0 4).toList == [97, 114, 109, 32]) = true) ∨ ((decide ((3 : Int) < (y.size : Int)) = false ∨ (3 < y.size ∧ decide ((3 : Int) < (y.size : Int)) = true ∧ ((y.extract 0 4).toList == [97, 114, 109, 32]) = false)) ∧ (decide (3 < y.size) && ((y.extract 0 4).toList == [97, 114, 109, 32])) = false) := by
        by_cases h3 : 3 < y.size
        · have e1 : decide ((3 : Int) < (y.size : Int)) = true := decide_eq_true (by omega)
          cases e2 : ((y.extract 0 4).toList == [97, 114, 109, 32])
          · exact .inr ⟨.inr ⟨h3, e1, rfl⟩, by simp⟩
          · exact .inl ⟨h3, e1, rfl⟩
        · exact .inr ⟨.inl (decide_eq_false (by omega)), by rw [decide_eq_false h3, Bool.false_and]⟩
      have hC1 : (∃ _ : 6 < y.size, decide ((6 : Int) < (y.size : Int)) = true ∧ ((y.extract 0 7).toList == [119, 101, 97, 107, 101, 110, 32]) = true) ∨ ((decide ((6 : Int) < (y.size : Int)) = false ∨ (6 < y.size ∧ decide ((6 : Int) < (y.size : Int)) = true ∧ ((y.extract 0 7).toList == [119, 101, 97, 107, 101, 110, 32]) = false)) ∧ (decide (6 < y.size) && ((y.extract 0 7).toList == [119, 101, 97, 107, 101, 110, 32])) = false) := by
        by_cases h3 : 6 < y.size
        · have e1 : decide ((6 : Int) < (y.size : Int)) = true := decide_eq_true (by omega)
          cases e2 : ((y.extract 0 7).toList == [119, 101, 97, 107, 101, 110, 32])
          · exact .inr ⟨.inr ⟨h3, e1, rfl⟩, by simp⟩
          · exact .inl ⟨h3, e1, rfl⟩
        · exact .inr ⟨.inl (decide_eq_false (by omega)), by rw [decide_eq_false h3, Bool.false_and]⟩
      rcases hB1 with ⟨h3, x2, x3⟩ | ⟨hB1, HB2⟩
      · have h3' : (4 : Int) ≤ (y.size : Int) := by omega
        clear hC1 a1
        go_wp2_with fail
        go_ret
        exact ⟨rfl, HB.out⟩
      have HB2 := Lib.hid HB2
      rcases hC1 with ⟨h6, x4, x5⟩ | ⟨hC1, HC2⟩
      · have h6' : (7 : Int) ≤ (y.size : Int) := by omega
        rcases hB1 with x2 | ⟨h3, x2, x3⟩
        · clear a1
          go_wp2_with fail
          go_ret
          exact ⟨rfl, HB.out⟩
        · have h3' : (4 : Int) ≤ (y.size : Int) := by omega
          clear a1
          go_wp2_with fail
          go_ret
          exact ⟨rfl, HB.out⟩
      have HC2 := Lib.hid HC2
      cases x9 : (y.toList == [98, 108, 111, 99, 107, 115])
      · have HNF : Hid (∀ x ∈ l.take (k + 1), fineB x = true) := by
          intro x hx
          rw [HTK.out] at hx
          rcases List.mem_append.1 hx with hx | hx
          · exact hfine.out x hx
          · simp at hx
            subst hx
            unfold fineB
            rw [HB2.out, HC2.out, x9, decide_eq_true (show x.size ≤ 100 by omega)]
            rfl
        have h4 : ∀ n : Nat, n < y.size → ((n + 1 : Nat) : Int) ≤ (y.size : Int) := fun n hn => by omega
        rcases hB1 with x2 | ⟨h3, x2, x3⟩
        · rcases hC1 with x4 | ⟨h6, x4, x5⟩
          · clear a1 h4
            go_wp2_with fail
            go_round
            case rel => exact ⟨k + 1, by omega, by go_num, HNF⟩
            case measure => simp [intOf] <;> omega
          · have h6' : (7 : Int) ≤ (y.size : Int) := by omega
            clear a1 h4
            go_wp2_with fail
            go_round
            case rel => exact ⟨k + 1, by omega, by go_num, HNF⟩
            case measure => simp [intOf] <;> omega
        · have h3' : (4 : Int) ≤ (y.size : Int) := by omega
          rcases hC1 with x4 | ⟨h6, x4, x5⟩
          · clear a1 h4
            go_wp2_with fail
            go_round
            case rel => exact ⟨k + 1, by omega, by go_num, HNF⟩
            case measure => simp [intOf] <;> omega
          · have h6' : (7 : Int) ≤ (y.size : Int) := by omega
            clear a1 h4
            go_wp2_with fail
            go_round
            case rel => exact ⟨k + 1, by omega, by go_num, HNF⟩
            case measure => simp [intOf] <;> omega
      · rcases hB1 with x2 | ⟨h3, x2, x3⟩
        · rcases hC1 with x4 | ⟨h6, x4, x5⟩
          · clear a1
            go_wp2_with fail
            go_ret
            exact ⟨rfl, HB.out⟩
          · have h6' : (7 : Int) ≤ (y.size : Int) := by omega
            clear a1
            go_wp2_with fail
            go_ret
            exact ⟨rfl, HB.out⟩
        · have h3' : (4 : Int) ≤ (y.size : Int) := by omega
          rcases hC1 with x4 | ⟨h6, x4, x5⟩
          · clear a1
            go_wp2_with fail
            go_ret
            exact ⟨rfl, HB.out⟩
          · have h6' : (7 : Int) ≤ (y.size : Int) := by omega
            clear a1
            go_wp2_with fail
            go_ret
            exact ⟨rfl, HB.out⟩
    · have hge : k = l.length := by omega
      subst hge
      rw [List.take_length] at hfine
      have HFI := hfine
      clear hfine
      obtain ⟨i0, hinf, hz0, hz1, hz2⟩ := info_parts info_strS
      have HI := Lib.hid hinf
      have Z0 := Lib.hid hz0
      have Z1 := Lib.hid hz1
      have Z2 := Lib.hid hz2
      clear hinf hz0 hz1 hz2
      have hlen : l.length ≤ 90 := by omega
      have hb0 : w0.heap.size ≤ w.heap.size := HB.out.size
      go_wp2_with (first
        | (at_builtin; go_loud (refine wpList_append_rd _ rfl (.const (.slice none 0 0)) (.tmp 59) 22 rfl w.heap.size 9 i0 _ 1 16 Tryz.underlying22 HI.out Z0.out Z1.out Z2.out rfl (by decide) (.slice none 0 0) 0 [] rfl (World.ownsRow_nil _ _ _ _) w0.heap.size 9 _ l.length (l.map .string) rfl HV.out.1 (by simp [Value.oneCell']) (by unfold maxLen; omega) (by omega) (Nat.le_refl _) ?_); intro v1 w1 hown1 hg1 hat1; have hb1 : Below w.heap.size w w1 := (Below.refl _ _).grown hg1 (Nat.le_refl _) (by simp [Value.ownBlock]); have hownM := Lib.hid (own_alloc hown1 (.cells #[.string ⟨#[109, 97, 114, 107]⟩] 9)); have hbM := Lib.hid (hb1.alloc hb1.size (.cells #[.string ⟨#[109, 97, 114, 107]⟩] 9)); have hbs1 := hb1.size)
        | (at_builtin; go_loud (refine wpList_append_rd _ rfl (.tmp 60) (.tmp 61) 22 rfl w.heap.size 9 i0 _ 1 16 Tryz.underlying22 HI.out Z0.out Z1.out Z2.out rfl (by decide) v1 _ _ rfl hownM.out w0.heap.size 9 _ 1 _ rfl (rd_lit1S _ _ _ rfl _) (by simp [Value.oneCell']) (by unfold maxLen; omega) (by omega) (by simp; omega) ?_); intro v2 w2 hown2 hg2 hat2; have hr2 := Rd.of_own (B := w.heap.size) hown2; obtain ⟨A2, c2, rfl⟩ := rd_form' hr2; obtain ⟨hcp2, hcm2⟩ : 0 + l.length + 1 ≤ c2 ∧ c2 ≤ 9223372036854775807 := by (obtain ⟨_, A3, c3, e3, h4, h5, _⟩ := hr2; injection e3 with _ _ e3; subst e3; exact ⟨h4, h5⟩)))
      have hb2 := below_own hbM.out (Nat.le_refl _) hownM.out hg2
      have hst2 : Strs w2.heap.size w2 (.slice A2 l.length c2) l := by
        refine ⟨?_, HV.out.2⟩
        have h1 := rd_take (m := l.length) hr2 (by omega)
        have e : (([] ++ l.map Value.string) ++ [Value.string ⟨#[109, 97, 114, 107]⟩]).take l.length = l.map Value.string := by
          rw [List.nil_append, List.take_left' (by simp)]
        rw [e] at h1
        exact h1.mono hb2.size
      have HST2 := Lib.hid hst2
      have HV2 := Lib.hid ((HV.out.below hb2).up (Nat.le_trans hb0 hb2.size))
      have HL2 := Lib.hid ((HL.out.below hb2).up hb2.size)
      have HB2 : Hid (Below w0.heap.size w0 w2) := HB.out.trans (hb2.mono hb0)
      have hb02 : w0.heap.size ≤ w2.heap.size := HB2.out.size
      have H20 : Hid (∀ W, Calls Tryz.prog 6 #[.nilIface, .int .i64 0] W fun d w' => d = .returned (.bool true) ∧ W = w') := fun W => same_err 0 0 W
      have H22 : Hid (∀ W, Calls Tryz.prog 6 #[.iface 39 (.int .i64 2), .int .i64 2] W fun d w' => d = .returned (.bool true) ∧ W = w') := fun W => same_err 2 2 W
      clear hst2 hr2 hown2 hg2 hat2 hb2 hownM hbM hown1 hg1 hat1 hb1 HV HL HB hbs1 hb0
      by_cases h80 : 80 < l.length
      · have t2 : decide ((80 : Int) < (l.length : Int)) = true := decide_eq_true (by omega)
        have HRM := Lib.hid (run_many _ l w2 HST2.out h80)
        clear h80
        refine HRM.out.mono ?_
        rintro e w3 ⟨rfl, rfl⟩
        rw [show errV 2 = .iface 39 (.int .i64 2) from rfl]
        go_wp2_with fail
        refine (H22.out _).mono ?_
        rintro e w3 ⟨rfl, rfl⟩
        go_wp2_with fail
        go_ret
        exact ⟨rfl, HB2.out⟩
      have t2 : decide ((80 : Int) < (l.length : Int)) = false := decide_eq_false (by omega)
      have h80' : l.length ≤ 80 := by omega
      have HRN := Lib.hid (run_any _ l w2 HL2.out HST2.out h80' (fun x hx => fine_wa (HFI.out x hx)))
      have HRR := Lib.hid (run_ref HFI.out h80')
      have HRW : Hid (∀ n, n ≤ l.length → (∀ e ∈ stR [] (l.take n), faultE e = 0) ∧ (stR [] (l.take n)).length ≤ 1000) := fun n hn => by
        obtain ⟨h1, h2⟩ := ref_rows (l := l.take n) (by rw [List.length_take]; omega)
        exact ⟨h1, by omega⟩
      clear h80
      refine HRN.out.mono ?_
      rintro e w3 ⟨u, rfl, hu, hb3⟩
      rw [HRR.out] at hu
      have HU3 := Lib.hid hu
      have HB3 := Lib.hid hb3
      have HS3 := Lib.hid (HST2.out.below hb3)
      have HV3 := Lib.hid (HV2.out.below hb3)
      have hb23 : w2.heap.size ≤ w3.heap.size := hb3.size
      have hbW : Below w3.heap.size w3 ((w3.alloc (.cells #[.slice none 0 0] 33)).alloc (.cells #[.pointer (some ⟨w3.heap.size, 0, none⟩)] 35)) := ((Below.refl _ _).alloc (Nat.le_refl _) _).alloc (by simp) _
      have hrs : RSes w2.heap.size ((w3.alloc (.cells #[.slice none 0 0] 33)).alloc (.cells #[.pointer (some ⟨w3.heap.size, 0, none⟩)] 35)) (w3.heap.size + 1) [] := by
        have h1 : RS w2.heap.size (w3.alloc (.cells #[.slice none 0 0] 33)) w3.heap.size [] := RS.new (⟨Rd.nil _ _ _ _, by simp⟩ : Ents w2.heap.size w3 (.slice none 0 0) []) hb23
        refine ⟨⟨w3.heap.size, ?_, h1.below ((Below.refl _ _).alloc (Nat.le_refl _) _)⟩, by omega⟩
        have := Blk.new (w3.alloc (.cells #[.slice none 0 0] 33)) 35 #[.pointer (some ⟨w3.heap.size, 0, none⟩)]
        have e : (w3.alloc (.cells #[.slice none 0 0] 33)).heap.size = w3.heap.size + 1 := by simp
        rw [e] at this
        exact this
      have HRS := Lib.hid hrs
      have HUW := Lib.hid (hu.below hbW)
      have HSW := Lib.hid (HS3.out.below hbW)
      have HVW := Lib.hid (HV3.out.below hbW)
      have HBW : Hid (Below w2.heap.size w2 ((w3.alloc (.cells #[.slice none 0 0] 33)).alloc (.cells #[.pointer (some ⟨w3.heap.size, 0, none⟩)] 35))) := hb3.trans (hbW.mono hb23)
      have hsW : ((w3.alloc (.cells #[.slice none 0 0] 33)).alloc (.cells #[.pointer (some ⟨w3.heap.size, 0, none⟩)] 35)).heap.size = w3.heap.size + 1 + 1 := by simp
      clear hu hb3 hbW hrs HRN HU3 HS3 HV3 HL2 HST2 HV2
      go_wp2_with fail
      generalize ((w3.alloc (.cells #[.slice none 0 0] 33)).alloc (.cells #[.pointer (some ⟨w3.heap.size, 0, none⟩)] 35)) = W at *
      have hBW : w2.heap.size ≤ W.heap.size := by omega
      generalize w3.heap.size + 1 = y at *
      clear hsW hb23
      go_loopw [10, 11] (fun u i wr => ∃ n : Nat, n ≤ l.length ∧ i = .int .i64 n ∧ Hid (wr.ownsRow W.heap.size 9 1 u n ((outsR [] (l.take n)).map .string)) ∧ Hid (RSes w2.heap.size wr y (stR [] (l.take n))) ∧ Hid (KS w2.heap.size W wr) ∧ Below w2.heap.size W wr) (fun _ i _ => l.length - (intOf i).toNat)
      case atStart => exact ⟨0, Nat.zero_le _, rfl, World.ownsRow_nil _ _ _ _, HRS.out, KS.refl _ _, Below.refl _ _⟩
      case round =>
        clear HRS
        obtain ⟨n, hn, rfl, hown, hrse, hks, hbl⟩ := hrel
        have hbs := hbl.size
        have hksz := hks.out.size
        by_cases hlt : n < l.length
        · obtain ⟨z, hz, htk, _⟩ := getElem?_of_lt hlt
          obtain ⟨_, _, b, o, rfl, hbw, hcell⟩ := (HVW.out.ks hks.out).at_ (by omega)
          have d1 := hcell n z hz
          have g1 : (0 : Int) ≤ (n : Int) := by omega
          have g2 : (n : Int) < (l.length : Int) := by omega
          have HSN : Hid (stR [] (l.take (n + 1)) = (refM (stR [] (l.take n)) (cmdOf z)).1) := by rw [Hid, htk, stR_snoc]
          have HON : Hid ((outsR [] (l.take (n + 1))).map Value.string = (outsR [] (l.take n)).map Value.string ++ [.string (refM (stR [] (l.take n)) (cmdOf z)).2]) := by rw [Hid, htk, outsR_snoc, List.map_append]; rfl
          have hrw := HRW.out n hn
          have HSAY := Lib.hid (rsay_any w2.heap.size y (stR [] (l.take n)) z wr (by omega) hrw.1 hrw.2 hrse.out)
          have HBL := Lib.hid hbl
          have HO1 := hown
          have HKS := hks
          clear hcell hz htk hbl hown hrse hrw hks
          generalize (refM (stR [] (l.take n)) (cmdOf z)).2 = T at *
          go_wp2_with fail
          refine HSAY.out.mono ?_
          rintro e w5 ⟨rfl, hr5, hf5⟩
          have hb5 : Below w2.heap.size W w5 := HBL.out.trans (hf5.below (Nat.le_trans hBW HKS.out.size))
          have hk5 := HKS.out.say hf5
          have hownA := Lib.hid (own_alloc (own_fr HO1.out hf5 (by decide)) (.cells #[.string T] 9))
          have hbA := Lib.hid (hb5.alloc (Nat.le_trans hBW hk5.size) (.cells #[.string T] 9))
          have HKA := Lib.hid (hk5.alloc (.cells #[.string T] 9))
          have HRA := Lib.hid (hr5.below ((Below.refl w5.heap.size w5).alloc (Nat.le_refl _) (.cells #[.string T] 9)))
          have hbs5 := hk5.size
          clear hr5 hf5 hb5 hk5 HSAY HO1 HKS
          go_wp2_with (at_builtin; go_loud (refine wpList_append_rd _ rfl (.tmp 97) (.tmp 99) 22 rfl W.heap.size 9 i0 _ 1 16 Tryz.underlying22 HI.out Z0.out Z1.out Z2.out rfl (by decide) u10 _ _ rfl hownA.out w2.heap.size 9 _ 1 _ rfl (rd_lit1S _ _ _ rfl _) (by simp [Value.oneCell']) (by unfold maxLen; omega) (by omega) (by simp; omega) ?_); intro v1 w7 hown1 hg1 hat1)
          have hge := own_ge hownA.out
          have hb7 := hbA.out.grown hg1 (Nat.le_trans hBW HKA.out.size) (fun k hk => Nat.le_trans hBW (hge k hk))
          have hk7 : Hid (KS w2.heap.size W w7) := HKA.out.grown hg1 hge
          have hs7 : Hid (RSes w2.heap.size w7 y (stR [] (l.take (n + 1)))) := by
            rw [Hid, HSN.out]
            exact rses_grown HRA.out hg1 (fun g e hl => by
              obtain ⟨h1, h2⟩ := own_kind hownA.out g e hl
              exact ⟨Nat.le_trans hBW h1, h2⟩)
          have hown2 : Hid (w7.ownsRow W.heap.size 9 1 v1 (n + 1) ((outsR [] (l.take (n + 1))).map .string)) := by
            rw [Hid, HON.out]; exact hown1
          clear hg1 hat1 hown1 hge
          go_roundw
          case rel => exact ⟨n + 1, by omega, by go_num, hown2, hs7, hk7, hb7⟩
          case measure => simp [intOf] <;> omega
        · have hge : n = l.length := by omega
          subst hge
          rw [List.take_length] at hown
          have hlo : (outsR [] l).length = l.length := by
            have := HRR.out
            rw [← this]
            exact outs_len l _
          have HWT : Hid (Strs w2.heap.size wr u10 (outsR [] l)) := by
            refine ⟨?_, HUW.out.2⟩
            have := Rd.of_own (B := w2.heap.size) hown.out
            rw [hlo]
            exact this
          have HUR := Lib.hid (HUW.out.ks hks.out)
          have HSR := Lib.hid (HSW.out.ks hks.out)
          have HVR := Lib.hid (HVW.out.ks hks.out)
          have HBE : Hid (Below w0.heap.size w0 wr) := (HB2.out.trans (HBW.out.mono hb02)).trans (hbl.mono hb02)
          clear hown hrse hks hbl hlo HUW HSW HVW HRR
          generalize outsR [] l = ol at *
          go_wp2_with fail
          refine (H20.out _).mono ?_
          rintro e w5 ⟨rfl, rfl⟩
          go_wp2_with fail
          refine (sameT_any w2.heap.size u u10 ol ol _ HUR.out HWT.out).mono ?_
          rintro e w5 ⟨rfl, n5, rfl⟩
          rw [show decide (ol = ol) = true by simp]
          have hs5 := HSR.out.drewN n5
          have hv5 := HVR.out.drewN n5
          have HS5 := Lib.hid (sameT_any w2.heap.size _ _ l l _ hs5 hv5)
          clear hs5 hv5
          go_wp2_with fail
          refine HS5.out.mono ?_
          rintro e w6 ⟨rfl, n6, rfl⟩
          go_wp2_with fail
          go_ret
          exact ⟨ret_bool (by simp), below_drewN' HBE.out _⟩
/-! ### what the row says of the library's variables -/
theorem var_lt {P : Program} {w : World} {name : String} {g : Nat} {cs : Array Value} (hg : P.globalNamed name = some g) (h : w.var? P name = some cs) : g < w.heap.size := by
  unfold World.var? at h
  rw [hg] at h
  simp only [Option.bind_some] at h
  split at h
  · rename_i e; exact heap_lt e
  · cases h
theorem laid_facts {W : World} (hsh : W.ShapedOpen Tryz.prog) (h : laidMetH Tryz.prog Rows.consoleSaysRow.laid W) : LibW W.heap.size W := by
  rw [MakeChecks.laidMetH_plain _ _ _ (by kernel_rfl)] at h
  obtain ⟨ps, ⟨_, _, _, _, _, q1, _, _, _, _, ⟨_, _, _, _, _, q2, _, _, hv2, _, ⟨g3, t3, cs3, fuel3, p3, q3, hg3, ht3, hv3, hd3, ⟨_, _, _, _, _, q4, _, _, _, _, ⟨g5, t5, cs5, fuel5, p5, q5, hg5, ht5, hv5, hd5, ⟨g6, t6, cs6, fuel6, p6, q6, hg6, ht6, hv6, hd6, _, _⟩, _⟩, _⟩, _⟩, _⟩, _⟩, _⟩ := h
  have n5 : Tryz.prog.globalNamed "strconv.ErrRange" = some 1 := by kernel_rfl
  have n6 : Tryz.prog.globalNamed "strconv.ErrSyntax" = some 0 := by kernel_rfl
  obtain rfl := Option.some.inj (tab_num.symm.trans hg3)
  obtain rfl := Option.some.inj ((show (Tryz.prog.globals[3]?).map (·.type) = some 222 by kernel_rfl).symm.trans ht3)
  obtain rfl := Option.some.inj (n5.symm.trans hg5)
  obtain rfl := Option.some.inj ((show (Tryz.prog.globals[1]?).map (·.type) = some 25 by kernel_rfl).symm.trans ht5)
  obtain rfl := Option.some.inj (n6.symm.trans hg6)
  obtain rfl := Option.some.inj ((show (Tryz.prog.globals[0]?).map (·.type) = some 25 by kernel_rfl).symm.trans ht6)
  obtain ⟨_, u5, v5, e5, _, _⟩ := iface_of_trod Tryz.underlying25 hd5
  obtain ⟨_, u6, v6, e6, _, _⟩ := iface_of_trod Tryz.underlying25 hd6
  have c5 := World.var?_cell n5 hv5 0
  have c6 := World.var?_cell n6 hv6 0
  rw [← Array.getElem?_toList, e5] at c5
  rw [← Array.getElem?_toList, e6] at c6
  have e3 := Lib.cells_of_tab (k := .u64) (zs := Lib.pow10Tab) Tryz.underlying222 Tryz.underlying134 (by kernel_rfl) (by kernel_rfl) hd3
  refine ⟨var_lt (show Tryz.prog.globalNamed "math/bits.deBruijn64tab" = some 7 by kernel_rfl) hv2, Tryz.laysM146.s1_3 W hsh, ⟨_, by simpa using c6, .inr ⟨u6, v6, rfl⟩⟩, ⟨_, by simpa using c5, .inr ⟨u5, v5, rfl⟩⟩, ?_⟩
  unfold Lib.TabIs
  rw [hv3, ← e3]

-- CLOSING

set_option maxRecDepth 100000 in
theorem consoleSays_row : Rows.ConsoleSaysSaid :=
  OpenClaim.holds_of_wide 3 Tryz.f3 rfl rfl rfl rfl rfl rfl rfl ⟨rfl, rfl, rfl, rfl, rfl⟩ rfl rfl rfl rfl rfl (by kernel_rfl) Tryz.func3 (by kernel_rfl)
    (of_decide_eq_true (by kernel_rfl)) (by unfold Func.isWrapper; first | (rw [if_pos (by decide +kernel)]; kernel_rfl) | (rw [if_neg (by decide +kernel)]; exact ⟨rfl, rfl⟩))
    (fun os started H enc _ => close_laidX Rows.consoleSaysSpec 3 Tryz.f3 (fun w => laidMetH Tryz.prog Rows.consoleSaysRow.laid w) os started H enc (by kernel_rfl) Tryz.func3 (by kernel_rfl) rfl
      (fun ds hd => by
        rw [Tryz.params3] at hd
        match ds, hd with
        | [d1], _ => rfl)
      (by kernel_rfl)
      (ChangeSpec.witness_shaped (enc := enc) (C := Tryz.checked) (os := os) (X := fun w _ => laidMetH Tryz.prog Rows.consoleSaysRow.laid w) false (World.laidAll Tryz.prog os Rows.consoleSaysRow.laid) #[.slice none 0 0] 8 (World.laidAll_os _ _ _)
        (World.shaped_of_ZipB (by kernel_rfl) (by kernel_rfl)) (by kernel_rfl) (by kernel_rfl) (by kernel_rfl)
        (by rw [MakeChecks.laidMetH_plain _ _ _ (by kernel_rfl)]; exact laidMet_laidAll _ (by kernel_rfl) (by kernel_rfl)))
      (fun hh h => h.of_heap hh)
      (fun W base args ds p hsh hx hval hA => by
        rw [Tryz.params3] at hA hval
        obtain ⟨v0, d0, hargs, rfl, h0⟩ := trodAll_one hA
        obtain rfl : args = #[v0] := by cases args; simp_all
        obtain ⟨l0, hl0⟩ := strs_of (hval 0 _ v0 rfl rfl) h0
        exact consoleSays_walk v0 l0 W hl0 (laid_facts hsh hx)))
theorem consoleSays_holds : Rows.ConsoleSaysCardSaid :=
  Claim7.holds_tied_plain_at .later [] [.data, .data, .data, .data, .sentinel, .sentinel, .pinned] true (true, "a82f999e42bcbceaf2d97e641f6dfeeee2a648406f697fe596f72c27d5862be4") true consoleSays_row (fun _ h => by cases h) (by kernel_rfl) (fun _ h => by cases h) consoleSays_row_tie rfl ⟨rfl, rfl⟩ (by kernel_rfl) rfl
    (fun f fn hf hfn => by
      obtain rfl : f = 3 := Option.some.inj ((show Tryz.prog.funcNamed "tidegate/tidegatelaw.ConsoleSays" = some 3 by kernel_rfl).symm.trans hf) |>.symm
      obtain rfl : fn = Tryz.f3 := (Option.some.inj (Tryz.func3.symm.trans hfn)).symm
      exact ⟨by kernel_rfl, fun j t ht => by
        rw [Tryz.params3] at ht
        have hm : t ∈ [22] := by simpa using Array.mem_of_getElem? ht
        have hall : ([22].all fun u => !Tryz.prog.wantsStandIn u) = true := by kernel_rfl
        exact (show Tryz.prog.wantsStandIn t = false by simpa using List.all_eq_true.1 hall t hm)⟩)
    (by kernel_rfl)
#print axioms consoleSays_holds
end Go.Proofs.YtaepdbkfaoiimabGreatDoor
