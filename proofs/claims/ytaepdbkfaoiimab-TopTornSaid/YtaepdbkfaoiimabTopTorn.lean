/- TopTorn returns true at every input, and leaves it as it was. Conditions: none. -/
import Derived.Test.YtaepdbkfaoiimabSheets
import Derived.Test.YtaepdbkfaoiimabMg
set_option linter.unusedVariables false
set_option linter.unusedSimpArgs false
namespace Go.Proofs.Ytaepdbkfaoiimab
open Go.ChangeShapes Go.WideShapes Go.ChangeAt Go.RowKit Go.WideMaps Go.WideElems
open Go.ChangeMaps (open_string shut_string)
attribute [local go_sem ↓] eql_err eql_nilerr neq_err neq_nilerr guard_err guard_nilerr guardn_err guardn_nilerr neq_sheet guard_sheet
theorem act_lit1 (B : Nat) (w : World) (x : Act) (he : Ents B w x.v x.l) (ho : ActOk x) : ActsR B (w.alloc (.cells #[.string x.kind, .string x.s, .int .i64 x.a, .int .i64 x.b, x.v] 61)) (.slice (some ⟨w.heap.size, 0, none⟩) 1 1) [x] := by
  have hb := Blk.new w 61 #[.string x.kind, .string x.s, .int .i64 x.a, .int .i64 x.b, x.v]
  refine ⟨⟨rfl, _, _, rfl, Nat.le_refl _, by simp, fun _ => ⟨_, _, rfl, .inr ⟨_, _, hb⟩, hb.lt, fun j u hu => ?_⟩⟩, fun y hy => ?_⟩
  · rw [hb.cell]
    have e : [x].flatMap Act.cells = [.string x.kind, .string x.s, .int .i64 x.a, .int .i64 x.b, x.v] := rfl
    rw [e] at hu
    simpa using hu
  · simp at hy
    subst hy
    exact ⟨he.below ((Below.refl _ _).alloc (Nat.le_refl _) _), ho⟩
theorem actsS_below {B : Nat} {w w' : World} {v : Value} {l : List Act} (h : ActsR B w v l) (hb : Below w.heap.size w w') : ActsR B w' v l := ⟨h.1.keep fun k hk hlt => hb.block k hlt, fun x hx => ⟨(h.2 x hx).1.below hb, (h.2 x hx).2⟩⟩
theorem torn_one : ∃ c1 : Chip, (Chip.new.arm 0).write 3 ⟨#[120]⟩ = (c1, 9) ∧ c1.down = true := ⟨_, rfl, rfl⟩
/-- Pages that no step of the act may change. -/
theorem page_keep {c c' : Chip} (h : Still c) (h' : Still c') {A n : Nat} {x : Sheet} (hf : ∀ b, b ≠ A → (c'.b b).l = (c.b b).l) (hA : (c'.b A).l = (c.b A).l ∨ (c'.b A).l = (c.b A).l ++ [x]) (hn : (c.b A).l.length = n) {b p : Nat} (hne : b = A → p ≠ n) : c'.read (b : Int) (p : Int) = c.read (b : Int) (p : Int) := by
  refine read_same h h' ?_
  by_cases e : b = A
  · have hp := hne e
    subst e
    rcases hA with e2 | e2
    · rw [e2]
    · rw [e2]
      rcases Nat.lt_or_ge p (c.b b).l.length with hlt | hge
      · rw [List.getElem?_append_left hlt]
      · rw [List.getElem?_eq_none (by simp; omega), List.getElem?_eq_none hge]
  · rw [hf b e]

theorem read_at {c : Chip} (h : c.down = false) {a q : Nat} (ha : a < 24) (hq : q < 8) {s : Sheet} (hl : (c.b a).l[q]? = some s) : (c.read (a : Int) (q : Int)).2 = if s.t then 4 else 0 := by
  unfold Chip.read
  rw [h, if_neg (by simp), if_neg (by omega), Int.toNat_natCast, Int.toNat_natCast, hl]
  obtain ⟨d, t⟩ := s
  cases t <;> rfl
def Chip.fell (c : Chip) (p : Pend) : Chip := { c.arm 0 with down := true, pend := some p }
/-- What the fall in a step leaves. -/
structure TornR (c : Chip) (a : Nat) (er : Bool) (c1 c2 : Chip) (how : Int) : Prop where
  dead : ∀ b q, c1.read b q = (ByteArray.empty, 9)
  dumb : ∀ b d, c1.write b d = (c1, 9)
  still : Still c2
  keep : ∀ b k : Nat, b < 24 → k < 8 → ¬ (b = a ∧ (er = true ∨ k = (c.b a).l.length)) → c2.read (b : Int) (k : Int) = c.read (b : Int) (k : Int)
  room : er = false → (c.b a).l.length < 8
  h1e : how = 1 → er = true → (c2.b a).l.length = 8 ∧ (c2.read (a : Int) (0 : Nat)).2 = 4
  h1w : how = 1 → er = false → (c2.b a).l.length = (c.b a).l.length + 1 ∧ (c2.read (a : Int) ((c.b a).l.length : Nat)).2 = 4
  h2e : how = 2 → er = true → (c2.b a).l.length = 0
  h2w : how = 2 → er = false → (c2.b a).l.length = (c.b a).l.length + 1 ∧ (c2.read (a : Int) ((c.b a).l.length : Nat)).2 = 0
  h0 : how ≠ 1 → how ≠ 2 → (c2.b a).l.length = (c.b a).l.length
theorem fell_read (c : Chip) (p : Pend) (b q : Int) : (c.fell p).read b q = (ByteArray.empty, 9) := rfl
theorem fell_write (c : Chip) (p : Pend) (b : Int) (d : ByteArray) : (c.fell p).write b d = (c.fell p, 9) := by
  unfold Chip.write
  have h : (c.fell p).ready b = 9 := rfl
  rw [h]; rfl
theorem fell_still (c : Chip) (p : Pend) (how : Int) : Still ((c.fell p).restart how) := ⟨rfl, rfl, rfl⟩
theorem fell_b (c : Chip) (p : Pend) (how : Int) (b : Nat) : ((c.fell p).restart how).b b = if how = 1 then (halfP c p).b b else if how = 2 then (doP c p).b b else c.b b := by
  show ((c.fell p).undone how).b b = _
  unfold Chip.undone
  show (if how = 1 then halfP (c.fell p) p else if how = 2 then doP (c.fell p) p else c.fell p).b b = _
  split
  · cases p <;> rfl
  · split
    · cases p <;> rfl
    · rfl
theorem fell_far (c : Chip) (p : Pend) (how : Int) {b : Nat} (h : b ≠ p.blk) : ((c.fell p).restart how).b b = c.b b := by
  rw [fell_b]
  split
  · exact halfP_far c p h
  · split
    · exact doP_far c p h
    · rfl
theorem torn_er {c : Chip} (h : Still c) {a : Nat} (ha : a < 24) (how : Int) : TornR c a true (c.fell (.er a)) ((c.fell (.er a)).restart how) how := by
  have hb := fell_b c (.er a) how a
  refine ⟨fell_read _ _, fell_write _ _, fell_still _ _ _, fun b k hb hk hn => ?_, (fun e => by cases e), fun e _ => ?_, (fun _ e => by cases e), fun e _ => ?_, (fun _ e => by cases e), fun e1 e2 => ?_⟩
  · have hne : b ≠ a := fun e => hn ⟨e, .inl rfl⟩
    exact read_same h (fell_still _ _ _) (by rw [fell_far c (.er a) how hne])
  · rw [if_pos e] at hb
    have hl : (((c.fell (.er a)).restart how).b a).l = List.replicate 8 torn := by rw [hb]; unfold halfP; rw [Chip.set_same]
    refine ⟨by rw [hl]; rfl, ?_⟩
    exact read_at (fell_still _ _ _).down ha (by decide) (s := torn) (by rw [hl]; rfl)
  · rw [if_neg (by omega), if_pos e] at hb
    rw [hb]; unfold doP; rw [Chip.set_same]; rfl
  · rw [if_neg e1, if_neg e2] at hb
    rw [hb]
theorem torn_wr {c : Chip} (h : Still c) {a : Nat} (ha : a < 24) (d : ByteArray) (hr : (c.b a).l.length < 8) (how : Int) : TornR c a false (c.fell (.wr a d)) ((c.fell (.wr a d)).restart how) how := by
  have hb := fell_b c (.wr a d) how a
  have two : ∀ s, (((c.fell (.wr a d)).restart how).b a).l = (c.b a).l ++ [s] → (((c.fell (.wr a d)).restart how).b a).l.length = (c.b a).l.length + 1 ∧ (((c.fell (.wr a d)).restart how).read (a : Int) ((c.b a).l.length : Nat)).2 = if s.t then 4 else 0 := fun s hl =>
    ⟨by rw [hl]; simp, read_at (fell_still _ _ _).down ha hr (by rw [hl]; simp)⟩
  refine ⟨fell_read _ _, fell_write _ _, fell_still _ _ _, fun b k hb2 hk hn => ?_, (fun _ => hr), (fun _ e => by cases e), fun e _ => ?_, (fun _ e => by cases e), fun e _ => ?_, fun e1 e2 => ?_⟩
  · by_cases e : b = a
    · subst e
      have hkn : k ≠ (c.b b).l.length := fun e => hn ⟨rfl, .inr e⟩
      refine read_same h (fell_still _ _ _) ?_
      have app : ∀ s, ((c.b b).l ++ [s])[k]? = (c.b b).l[k]? := fun s => by
        rcases Nat.lt_or_ge k (c.b b).l.length with hlt | hge
        · rw [List.getElem?_append_left hlt]
        · rw [List.getElem?_eq_none (by simp; omega), List.getElem?_eq_none hge]
      rw [hb]
      split
      · unfold halfP; rw [Chip.set_same]; exact app _
      · split
        · unfold doP; rw [Chip.set_same]; exact app _
        · rfl
    · exact read_same h (fell_still _ _ _) (by rw [fell_far c (.wr a d) how e])
  · rw [if_pos e] at hb
    exact two torn (by rw [hb]; unfold halfP; rw [Chip.set_same])
  · rw [if_neg (by omega), if_pos e] at hb
    exact two ⟨d, false⟩ (by rw [hb]; unfold doP; rw [Chip.set_same])
  · rw [if_neg e1, if_neg e2] at hb
    rw [hb]
theorem arm_ready {c : Chip} (h : Still c) (b : Int) : (c.arm 0).ready b ≠ 9 := by
  unfold Chip.ready
  rw [show (c.arm 0).down = false from h.down, if_neg (by simp)]
  split
  · decide
  · split <;> decide
theorem arm_spoil {c : Chip} (h : Still c) (b : Nat) : ((c.arm 0).spoil b).down = false := by
  unfold Chip.spoil
  split <;> exact h.down
theorem arm_step (c : Chip) (p : Pend) : (c.arm 0).step p = (c.fell p, 9) := by
  unfold Chip.step
  rw [if_pos (show (c.arm 0).fuse = 0 by unfold Chip.arm; rfl)]
  rfl
theorem torn_write {c : Chip} (h : Still c) (hw : CWf c) {a : Nat} (ha : a < 24) (s : ByteArray) (how : Int) : (((c.arm 0).write (a : Int) s).2 ≠ 9 ∧ ((c.arm 0).write (a : Int) s).2 ≠ 0 ∧ ((c.arm 0).write (a : Int) s).1.down = false) ∨ (((c.arm 0).write (a : Int) s).2 = 9 ∧ TornR c a false ((c.arm 0).write (a : Int) s).1 (((c.arm 0).write (a : Int) s).1.restart how) how) := by
  unfold Chip.write
  split
  · rename_i h1; exact .inl ⟨arm_ready h _, h1, h.down⟩
  · split
    · exact .inl ⟨by show (2 : Nat) ≠ 9; decide, by show (2 : Nat) ≠ 0; decide, h.down⟩
    · split
      · exact .inl ⟨by show (6 : Nat) ≠ 9; decide, by show (6 : Nat) ≠ 0; decide, h.down⟩
      · split
        · exact .inl ⟨by show (7 : Nat) ≠ 9; decide, by show (7 : Nat) ≠ 0; decide, arm_spoil h _⟩
        · rename_i h2 h3 h4
          rw [arm_step, Int.toNat_natCast]
          rw [Int.toNat_natCast] at h3
          have h3' : (c.b a).l.length ≠ 8 := h3
          have := hw.len a ha
          exact .inr ⟨rfl, torn_wr h ha _ (by omega) how⟩
theorem torn_erase {c : Chip} (h : Still c) {a : Nat} (ha : a < 24) (how : Int) : (((c.arm 0).erase (a : Int)).2 ≠ 9 ∧ ((c.arm 0).erase (a : Int)).2 ≠ 0 ∧ ((c.arm 0).erase (a : Int)).1.down = false) ∨ (((c.arm 0).erase (a : Int)).2 = 9 ∧ TornR c a true ((c.arm 0).erase (a : Int)).1 (((c.arm 0).erase (a : Int)).1.restart how) how) := by
  unfold Chip.erase
  split
  · rename_i h1; exact .inl ⟨arm_ready h _, h1, h.down⟩
  · split
    · exact .inl ⟨by show (7 : Nat) ≠ 9; decide, by show (7 : Nat) ≠ 0; decide, arm_spoil h _⟩
    · rw [arm_step, Int.toNat_natCast]
      exact .inr ⟨rfl, torn_er h ha how⟩
set_option maxRecDepth 100000 in
set_option maxHeartbeats 8000000 in
theorem topTorn_walk (va : Value) (l : List Act) (kd sx : ByteArray) (xa xb : Int) (vx : Value) (lx : List Ent) (w : World) (how : Int) (ha : ActsR w.heap.size w va l) (hx : Ents w.heap.size w vx lx) (hok : ActOk ⟨kd, sx, xa, xb, vx, lx⟩) :
    Calls Try.prog 8 #[va, .agg #[.string kd, .string sx, .int .i64 xa, .int .i64 xb, vx], .int .i64 how] w fun e w' => e = .returned (.bool true) ∧ Below w.heap.size w w' := by
  obtain ⟨A, cp, rfl, _, _, kX⟩ := hx.form
  have hb0 : Below w.heap.size w (w.alloc (.cells #[.string kd, .string sx, .int .i64 xa, .int .i64 xb, .slice A lx.length cp] 61)) := (Below.refl _ _).alloc (Nat.le_refl _) _
  have HSZ0 : Hid ((w.alloc (.cells #[.string kd, .string sx, .int .i64 xa, .int .i64 xb, .slice A lx.length cp] 61)).heap.size = w.heap.size + 1) := by simp [Hid]
  have HNEW := Lib.hid (cnew_any w.heap.size (w.alloc (.cells #[.string kd, .string sx, .int .i64 xa, .int .i64 xb, .slice A lx.length cp] 61)) (by rw [HSZ0.out]; omega))
  have HAC := Lib.hid (fun W (hW : Below w.heap.size w W) => acted_any w.heap.size va l W (actsS_below ha hW))
  have HLL := Lib.hid (fun W (hW : Below w.heap.size w W) => lightActs_any w.heap.size va l 80 W (actsS_below ha hW))
  have HLA : Hid (∀ W, Below w.heap.size w W → Calls Try.prog 35 #[.slice (some ⟨W.heap.size, 0, none⟩) 1 1, .int .i64 1] (W.alloc (.cells #[.string kd, .string sx, .int .i64 xa, .int .i64 xb, .slice A lx.length cp] 61)) fun e w' => e = .returned (.bool (lightA 1 [⟨kd, sx, xa, xb, .slice A lx.length cp, lx⟩])) ∧ (W.alloc (.cells #[.string kd, .string sx, .int .i64 xa, .int .i64 xb, .slice A lx.length cp] 61)) = w') := fun W hW =>
    lightActs_any w.heap.size _ _ 1 _ (act_lit1 w.heap.size W ⟨kd, sx, xa, xb, .slice A lx.length cp, lx⟩ (hx.below hW) hok)
  have HB0 := Lib.hid hb0
  have HG0 : Hid (Blk (w.alloc (.cells #[.string kd, .string sx, .int .i64 xa, .int .i64 xb, .slice A lx.length cp] 61)) w.heap.size 61 #[.string kd, .string sx, .int .i64 xa, .int .i64 xb, .slice A lx.length cp]) := Blk.new _ _ _
  have hsx : sx.size ≤ 9223372036854775807 := hok.2.1
  obtain ⟨c1, e1, e2⟩ := torn_one
  have E := Lib.hid (And.intro e1 e2)
  obtain ⟨A1, cp1, rfl, _, _, _⟩ := actsS_form ha
  clear ha hx hok hb0 kX e1 e2
  have HNUM : Hid (∀ n W, Calls Try.prog 28 #[errV n] W fun e w' => e = .returned (.int .i64 n) ∧ W = w') := number_any
  go_enter Try.func8, Try.ntmps8
  go_wp2_with (go_at_call 32; refine HNEW.out.mono ?_; rintro e w1 ⟨p1, rfl, hp1, hr1, hb1⟩)
  have har := arm_any w.heap.size p1 Chip.new 0 w1 hr1 (by decide)
  have HAR := Lib.hid har
  have HB1 := Lib.hid (HB0.out.trans (hb1.mono (by rw [HSZ0.out]; omega)))
  have HG1 := Lib.hid (HG0.out.below hb1 HG0.out.lt)
  clear hr1 hb1 har hp1 HNEW HG0 HB0
  refine HAR.out.mono ?_
  rintro e w1a ⟨rfl, hr1, hf1⟩
  have hw := cwrite_any w.heap.size p1 (Chip.new.arm 0) 3 ⟨#[120]⟩ w1a hr1 (by decide)
  rw [E.out.1] at hw
  have HW := Lib.hid hw
  have HB1a : Hid (Below w.heap.size w w1a) := HB1.out.trans (hf1.below HB1.out.size)
  have HG1a := Lib.hid (HG1.out.fr hf1 (.inr (.inr (by decide))))
  clear hr1 hf1 hw HAR HB1 HG1
  go_wp2_with fail
  refine HW.out.mono ?_
  rintro e w2 ⟨rfl, hr2, hf2⟩
  have hdn := down_any w.heap.size p1 c1 w2 hr2
  rw [E.out.2] at hdn
  have HDN := Lib.hid hdn
  have HB2 : Hid (Below w.heap.size w w2) := HB1a.out.trans (hf2.below HB1a.out.size)
  have HG2 := Lib.hid (HG1a.out.fr hf2 (.inr (.inr (by decide))))
  have HLL2 := Lib.hid (HLL.out w2 HB2.out)
  have HLA2 := Lib.hid (HLA.out w2 HB2.out)
  have HAC2 := Lib.hid (fun W (hW : Below w2.heap.size w2 W) => HAC.out W (HB2.out.trans (hW.mono HB2.out.size)))
  clear hr2 hf2 hdn HW HB1a HG1a HAC HLL HLA
  have HN2 := Lib.hid (HNUM.out 9 w2)
  rw [show errV 9 = Value.iface 107 (.int .i64 9) from rfl] at HN2
  rw [show errV (c1, 9).2 = Value.iface 107 (.int .i64 9) from rfl]
  have x0 := HG2.out.cell 0
  have x1 := HG2.out.cell 1
  have x2 := HG2.out.cell 2
  have x3 := HG2.out.cell 3
  have x4 := HG2.out.cell 4
  simp at x0 x1 x2 x3 x4
  have hb23 : Below w2.heap.size w2 (w2.alloc (.cells #[.string kd, .string sx, .int .i64 xa, .int .i64 xb, .slice A lx.length cp] 61)) := (Below.refl _ _).alloc (Nat.le_refl _) _
  have y2 : (w2.alloc (.cells #[.string kd, .string sx, .int .i64 xa, .int .i64 xb, .slice A lx.length cp] 61)).cell? ⟨w.heap.size, 2, none⟩ = some (.int .i64 xa) := (hb23.cell (p := ⟨w.heap.size, 2, none⟩) HG2.out.lt).trans x2
  cases hl1 : lightA 80 l
  · rw [hl1] at HLL2
    clear hl1
    go_wp2_with (first | (go_at_call 28; refine HN2.out.mono ?_; rintro e w3 ⟨rfl, rfl⟩) | (go_at_call 41; refine HDN.out.mono ?_; rintro e w3 ⟨rfl, rfl⟩))
    refine HLL2.out.mono ?_
    rintro e w3 ⟨rfl, rfl⟩
    go_wp2_with fail
    go_ret
    exact ⟨rfl, HB2.out⟩
  rw [hl1] at HLL2
  clear hl1
  have HB3 : Hid (Below w.heap.size w (w2.alloc (.cells #[.string kd, .string sx, .int .i64 xa, .int .i64 xb, .slice A lx.length cp] 61))) := HB2.out.trans (hb23.mono HB2.out.size)
  cases hl2 : lightA 1 [⟨kd, sx, xa, xb, .slice A lx.length cp, lx⟩]
  · rw [hl2] at HLA2
    clear hl2
    go_wp2_with (first | (go_at_call 28; refine HN2.out.mono ?_; rintro e w3 ⟨rfl, rfl⟩) | (go_at_call 41; refine HDN.out.mono ?_; rintro e w3 ⟨rfl, rfl⟩))
    refine HLL2.out.mono ?_
    rintro e w3 ⟨rfl, rfl⟩
    go_wp2_with fail
    refine HLA2.out.mono ?_
    rintro e w3 ⟨rfl, rfl⟩
    go_wp2_with fail
    go_ret
    exact ⟨rfl, HB3.out⟩
  rw [hl2] at HLA2
  clear hl2
  by_cases hA : 0 ≤ xa ∧ xa < 24
  case neg =>
    by_cases hA0 : xa < 0
    · have t36 : decide (xa < 0) = true := decide_eq_true hA0
      clear hA hA0
      go_wp2_with (first | (go_at_call 28; refine HN2.out.mono ?_; rintro e w3 ⟨rfl, rfl⟩) | (go_at_call 41; refine HDN.out.mono ?_; rintro e w3 ⟨rfl, rfl⟩))
      refine HLL2.out.mono ?_
      rintro e w3 ⟨rfl, rfl⟩
      go_wp2_with fail
      refine HLA2.out.mono ?_
      rintro e w3 ⟨rfl, rfl⟩
      go_wp2_with fail
      go_ret
      exact ⟨rfl, HB3.out⟩
    · have t36 : decide (xa < 0) = false := decide_eq_false hA0
      have t41 : decide (24 ≤ xa) = true := decide_eq_true (by omega)
      clear hA hA0
      go_wp2_with (first | (go_at_call 28; refine HN2.out.mono ?_; rintro e w3 ⟨rfl, rfl⟩) | (go_at_call 41; refine HDN.out.mono ?_; rintro e w3 ⟨rfl, rfl⟩))
      refine HLL2.out.mono ?_
      rintro e w3 ⟨rfl, rfl⟩
      go_wp2_with fail
      refine HLA2.out.mono ?_
      rintro e w3 ⟨rfl, rfl⟩
      go_wp2_with fail
      go_ret
      exact ⟨rfl, HB3.out⟩
  obtain ⟨hA0, hA1⟩ := hA
  obtain ⟨a, rfl⟩ := Int.eq_ofNat_of_zero_le hA0
  have ha24 : a < 24 := by omega
  have t36 : decide ((a : Int) < 0) = false := decide_eq_false (by omega)
  have t41 : decide (24 ≤ (a : Int)) = false := decide_eq_false (by omega)
  have HAC3 := Lib.hid (HAC2.out _ hb23)
  go_wp2_with (first | (go_at_call 28; refine HN2.out.mono ?_; rintro e w3 ⟨rfl, rfl⟩) | (go_at_call 41; refine HDN.out.mono ?_; rintro e w3 ⟨rfl, rfl⟩))
  refine HLL2.out.mono ?_
  rintro e w3 ⟨rfl, rfl⟩
  go_wp2_with fail
  refine HLA2.out.mono ?_
  rintro e w3 ⟨rfl, rfl⟩
  go_wp2_with fail
  have HG3 := Lib.hid (HG2.out.below hb23 HG2.out.lt)
  clear HN2 HDN HLL2 HLA2 HAC2 hb23 x0 x1 x2 x3 x4 y2 HB2 HG2 t36 t41
  generalize hW3 : (w2.alloc (.cells #[.string kd, .string sx, .int .i64 (a : Int), .int .i64 xb, .slice A lx.length cp] 61)) = w3 at *
  clear hW3
  refine HAC3.out.mono ?_
  rintro e w4 ⟨p, rfl, hp4, hc4, hb4⟩
  obtain ⟨hst, hwf⟩ := acted_still l
  generalize l.foldl actC Chip.new = c at *
  have HB4 := Lib.hid (HB3.out.trans (hb4.mono HB3.out.size))
  have HG4 := Lib.hid (HG3.out.below hb4 HG3.out.lt)
  have HC4 := Lib.hid hc4
  have HSH := Lib.hid (sheets_any w3.heap.size p c w4 hc4)
  have HZ3 : Hid (w.heap.size ≤ w3.heap.size) := HB3.out.size
  have HBB : Hid (w3.heap.size ≤ w4.heap.size) := hb4.size
  clear hb4 hc4 HAC3 HB3 HG3
  go_wp2_with fail
  refine HSH.out.mono ?_
  rintro e w5 ⟨rfl, hb5⟩
  have HC5 := Lib.hid (HC4.out.below hb5)
  have HG5 := Lib.hid (HG4.out.below hb5 HG4.out.lt)
  have HB5 := Lib.hid (HB4.out.trans (hb5.mono HB4.out.size))
  have hsz := arrS_size (pageN c)
  have ho := arrS_one (pageN c)
  have HPA := Lib.hid (fun i (hi : i < 192) => arrS_at (pageN c) hi)
  have hi6 : (Try.prog.info? 71).map (·.size) = some (arrS (pageN c)).size := by rw [hsz]; kernel_rfl
  have HBB5 : Hid (w3.heap.size ≤ w5.heap.size) := Nat.le_trans HBB.out hb5.size
  have x1 := HG5.out.cell 1
  have x2 := HG5.out.cell 2
  have x3 := HG5.out.cell 3
  simp at x1 x2 x3
  clear hb5 HSH HC4 HG4 HB4 HBB
  generalize arrS (pageN c) = cs at *
  have hb6 : Below w5.heap.size w5 (w5.alloc (.cells cs 71)) := (Below.refl _ _).alloc (Nat.le_refl _) _
  have y2 : (w5.alloc (.cells cs 71)).cell? ⟨w.heap.size, 2, none⟩ = some (.int .i64 (a : Int)) := (hb6.cell (p := ⟨w.heap.size, 2, none⟩) HG5.out.lt).trans x2
  go_wp2_with (refine wpList_store_row rfl 71 _ _ rfl w5.heap.size cs rfl rfl 71 _ (heap_alloc_new _ _) (by rw [hsz]; kernel_rfl) (by rw [hsz]; rfl) ho ?_; rw [World.setRow_alloc_new])
  clear y2
  have HS6 : Hid (Blk (w5.alloc (.cells cs 71)) w5.heap.size 71 cs) := Blk.new _ _ _
  have HC6 := Lib.hid (HC5.out.below hb6)
  have HG6 := Lib.hid (HG5.out.below hb6 HG5.out.lt)
  have HB6 : Hid (Below w.heap.size w (w5.alloc (.cells cs 71))) := HB5.out.trans (hb6.mono HB5.out.size)
  have HGL : Hid (w.heap.size < w5.heap.size) := HG5.out.lt
  have HBB6 : Hid (w3.heap.size ≤ (w5.alloc (.cells cs 71)).heap.size) := Nat.le_trans HBB5.out hb6.size
  clear hb6 HC5 HG5 HB5 hsz ho hi6 x1 x2 x3
  generalize (w5.alloc (.cells cs 71)) = w6 at *
  generalize w5.heap.size = g7 at *
  have x0 := HG6.out.cell 0
  have x1 := HG6.out.cell 1
  have x2 := HG6.out.cell 2
  have x3 := HG6.out.cell 3
  simp at x0 x1 x2 x3
  have hn1 := next_any w3.heap.size p c (a : Int) w6 HC6.out (by omega) (by omega)
  rw [Int.toNat_natCast] at hn1
  obtain ⟨N, hN⟩ : ∃ N, (c.b a).l.length = N := ⟨_, rfl⟩
  rw [hN] at hn1
  have HN1 := Lib.hid hn1
  have HAR := Lib.hid (arm_any w3.heap.size p c 0 w6 HC6.out (by decide))
  clear hn1 HC6
  refine HN1.out.mono ?_
  rintro e w7 ⟨rfl, rfl⟩
  go_wp2_with fail
  refine HAR.out.mono ?_
  rintro e w7 ⟨rfl, hc7, hf7⟩
  have HC7 := Lib.hid hc7
  have HB7 := Lib.hid (HB6.out.trans ((hf7.below HBB6.out).mono HZ3.out))
  have HG7 := Lib.hid (HG6.out.fr hf7 (.inr (.inr (by decide))))
  have HS7 := Lib.hid (HS6.out.fr hf7 (.inr (.inr (by decide))))
  have HBB7 : Hid (w3.heap.size ≤ w7.heap.size) := Nat.le_trans HBB6.out (hf7.below HBB6.out).size
  have x0 := HG7.out.cell 0
  have x1 := HG7.out.cell 1
  have x2 := HG7.out.cell 2
  simp at x0 x1 x2
  clear hc7 hf7 HAR HN1 HG6 HS6 HB6 HBB6 x3
  by_cases hk : kd.toList = kEraseS
  · have t61 := kindS_eq hk
    unfold kEraseS at t61
    clear hk
    have hl := torn_erase hst ha24 how
    have ho := cerase_any w3.heap.size p (c.arm 0) (a : Int) w7 HC7.out
    generalize (c.arm 0).erase (a : Int) = cw at *
    obtain ⟨c1w, n1w⟩ := cw
    simp only at hl ho
    have HOP := Lib.hid ho
    clear ho HC7
    rcases hl with ⟨f1, f2, f3⟩ | ⟨f1, hTR⟩
    · have v1 : ((n1w : Int) != 9) = true := by rw [bne_iff_ne]; omega
      have HNN := Lib.hid (HNUM.out n1w)
      rw [show errV n1w = .iface 107 (.int .i64 n1w) from if_neg f2] at HOP HNN
      have HDF := Lib.hid f3
      clear f1 f2 f3
      go_wp2_with fail
      refine HOP.out.mono ?_
      rintro e w8 ⟨rfl, hc8, hf8⟩
      have hd := down_any w3.heap.size p c1w w8 hc8
      rw [HDF.out] at hd
      have HD := Lib.hid hd
      have HB8 := Lib.hid (HB7.out.trans ((hf8.below HBB7.out).mono HZ3.out))
      clear hd hc8 hf8
      go_wp2_with fail
      refine (HNN.out _).mono ?_
      rintro e w9 ⟨rfl, rfl⟩
      go_wp2_with (go_at_call 41; refine HD.out.mono ?_; rintro e w11 ⟨rfl, rfl⟩)
      go_ret
      exact ⟨by simp, HB8.out⟩
    · subst f1
      obtain ⟨c2, hc2⟩ : ∃ c2, c1w.restart how = c2 := ⟨_, rfl⟩
      rw [hc2] at hTR
      have HC2 := Lib.hid hc2
      clear hc2
      have HTR := Lib.hid hTR
      have HST2 := Lib.hid hTR.still
      have HNN := Lib.hid hN
      have HN9 := Lib.hid (HNUM.out 9)
      rw [show errV 9 = Value.iface 107 (.int .i64 9) from rfl] at HOP HN9
      clear hTR hN hst hwf
      go_wp2_with fail
      refine HOP.out.mono ?_
      rintro e w8 ⟨rfl, hc8, hf8⟩
      have HC8 := Lib.hid hc8
      have HB8 := Lib.hid (HB7.out.trans ((hf8.below HBB7.out).mono HZ3.out))
      have HG8 := Lib.hid (HG7.out.fr hf8 (.inr (.inr (by decide))))
      have HS8 := Lib.hid (HS7.out.fr hf8 (.inr (.inr (by decide))))
      have HBB8 : Hid (w3.heap.size ≤ w8.heap.size) := Nat.le_trans HBB7.out (hf8.below HBB7.out).size
      have x2 := HG8.out.cell 2
      simp at x2
      clear hc8 hf8 HG7 HS7 HB7 HBB7
      have hrd := cread_any w3.heap.size p c1w (a : Int) 0 w8 HC8.out
      rw [HTR.out.dead] at hrd
      rw [show errV (ByteArray.empty, 9).2 = Value.iface 107 (.int .i64 9) from rfl] at hrd
      have HRD := Lib.hid hrd
      have hwx := cwrite_any w3.heap.size p c1w (a : Int) ⟨#[120]⟩ w8 HC8.out (by decide)
      rw [HTR.out.dumb] at hwx
      rw [show errV (c1w, 9).2 = Value.iface 107 (.int .i64 9) from rfl] at hwx
      have HWX := Lib.hid hwx
      clear hrd hwx HOP HC8
      go_wp2_with fail
      refine (HN9.out _).mono ?_
      rintro e w9 ⟨rfl, rfl⟩
      go_wp2_with fail
      refine HRD.out.mono ?_
      rintro e w9 ⟨rfl, rfl⟩
      go_wp2_with fail
      refine (HN9.out _).mono ?_
      rintro e w9 ⟨rfl, rfl⟩
      go_wp2_with fail
      refine HWX.out.mono ?_
      rintro e w9 ⟨rfl, hc9, hf9⟩
      have HC9 := Lib.hid hc9
      have HB9 := Lib.hid (HB8.out.trans ((hf9.below HBB8.out).mono HZ3.out))
      have HG9 := Lib.hid (HG8.out.fr hf9 (.inr (.inr (by decide))))
      have HS9 := Lib.hid (HS8.out.fr hf9 (.inr (.inr (by decide))))
      have HBB9 : Hid (w3.heap.size ≤ w9.heap.size) := Nat.le_trans HBB8.out (hf9.below HBB8.out).size
      have x2 := HG9.out.cell 2
      simp at x2
      clear hc9 hf9 HG8 HS8 HB8 HBB8
      have hrs := restart_any w3.heap.size p c1w how w9 HC9.out
      rw [HC2.out] at hrs
      have HRS := Lib.hid hrs
      clear hrs HC2 HC9 HRD HWX
      go_wp2_with fail
      refine (HN9.out _).mono ?_
      rintro e w13 ⟨rfl, rfl⟩
      go_wp2_with fail
      refine HRS.out.mono ?_
      rintro e w10 ⟨rfl, hc10, hf10⟩
      have HC10 := Lib.hid hc10
      have HB10 := Lib.hid (HB9.out.trans ((hf10.below HBB9.out).mono HZ3.out))
      have HG10 := Lib.hid (HG9.out.fr hf10 (.inr (.inr (by decide))))
      have HS10 := Lib.hid (HS9.out.fr hf10 (.inr (.inr (by decide))))
      have HBB10 : Hid (w3.heap.size ≤ w10.heap.size) := Nat.le_trans HBB9.out (hf10.below HBB9.out).size
      have x2 := HG10.out.cell 2
      simp at x2
      clear hc10 hf10 HG9 HS9 HB9 HBB9
      have HSH2 := Lib.hid (sheets_any w3.heap.size p c2 w10 HC10.out)
      clear HRS HN9
      go_wp2_with fail
      refine HSH2.out.mono ?_
      rintro e w9 ⟨rfl, hb9⟩
      have hb10 : Below w9.heap.size w9 (w9.alloc (.cells (arrS (pageN c2)) 71)) := (Below.refl _ _).alloc (Nat.le_refl _) _
      have HC11 := Lib.hid ((HC10.out.below hb9).below hb10)
      have HN10 : Hid (Blk (w9.alloc (.cells (arrS (pageN c2)) 71)) w9.heap.size 71 (arrS (pageN c2))) := Blk.new _ _ _
      have HG11 := Lib.hid ((HG10.out.below hb9 HG10.out.lt).alloc (.cells (arrS (pageN c2)) 71))
      have HS11 := Lib.hid ((HS10.out.below hb9 HS10.out.lt).alloc (.cells (arrS (pageN c2)) 71))
      have HB11 := Lib.hid ((HB10.out.trans (hb9.mono HB10.out.size)).trans (hb10.mono (HB10.out.trans (hb9.mono HB10.out.size)).size))
      have hsz := arrS_size (pageN c2)
      have ho := arrS_one (pageN c2)
      have HPB := Lib.hid (fun i (hi : i < 192) => arrS_at (pageN c2) hi)
      clear hb9 hb10 HSH2 HC10 HG10 HS10 HB10 x2
      generalize arrS (pageN c2) = ds at *
      go_wp2_with (refine wpList_store_row rfl 71 _ _ rfl w9.heap.size ds rfl rfl 71 _ (heap_alloc_new _ _) (by rw [hsz]; kernel_rfl) (by rw [hsz]; rfl) ho ?_; rw [World.setRow_alloc_new])
      clear hsz ho
      generalize hw10 : (w9.alloc (.cells ds 71)) = w10 at *
      clear hw10
      generalize w9.heap.size = g12 at *
      have HC10 := HC11
      have HG10 := HG11
      have HS10 := HS11
      have HB10 := HB11
      clear HC11 HG11 HS11 HB11
      have x2 := HG10.out.cell 2
      simp at x2
      go_loopw [16] (fun i wr => ∃ b n2 : Nat, b ≤ 24 ∧ i = .int .i64 (b : Int) ∧ wr = w10.drewN n2) (fun i _ => (24 - intOf i).toNat)
      case atStart => exact ⟨0, 0, by omega, rfl, rfl⟩
      case round =>
        obtain ⟨b, n1, hb, rfl, rfl⟩ := hrel
        by_cases hlt : b < 24
        · have g1 : (b : Int) < 24 := by omega
          have g0 : (0 : Int) ≤ (b : Int) := by omega
          go_wp2_with fail
          go_loopw [17] (fun i wr => ∃ k n2 : Nat, k ≤ 8 ∧ i = .int .i64 (k : Int) ∧ wr = w10.drewN n2) (fun i _ => (8 - intOf i).toNat)
          case atStart => exact ⟨0, n1, by omega, rfl, rfl⟩
          case round =>
            obtain ⟨k, n2, hk, rfl, rfl⟩ := hrel
            by_cases hkt : k < 8
            · have g3 : (k : Int) < 8 := by omega
              have g2 : (0 : Int) ≤ (k : Int) := by omega
              by_cases hba : b = a
              · subst hba
                have u1 : ((b : Int) != (b : Int)) = false := by simp
                go_wp2_with fail
                go_quiet (fail)
                go_wp2_with fail
                go_roundw
                case rel => exact ⟨k + 1, n2 + nq, by omega, by go_num, rfl⟩
                case measure => simp [intOf] <;> omega
              · have u1 : ((b : Int) != (a : Int)) = true := by rw [bne_iff_ne]; omega
                have hkp := HTR.out.keep b k hlt hkt ((fun h => hba h.1))
                have y1 := (HPB.out (b * 8 + k) (by omega))
                have y2 := (HPA.out (b * 8 + k) (by omega))
                rw [pageN_at _ hkt, hkp] at y1
                rw [pageN_at _ hkt] at y2
                have z1 : w10.cell? ⟨g12, b * 16 + k * 2, none⟩ = _ := (HN10.out.cell (b * 16 + k * 2)).trans ((show ds[b * 16 + k * 2]? = ds[(b * 8 + k) * 2]? by rw [show b * 16 + k * 2 = (b * 8 + k) * 2 by omega]).trans y1.1)
                have z2 : w10.cell? ⟨g12, b * 16 + k * 2 + 1, none⟩ = _ := (HN10.out.cell (b * 16 + k * 2 + 1)).trans ((show ds[b * 16 + k * 2 + 1]? = ds[(b * 8 + k) * 2 + 1]? by rw [show b * 16 + k * 2 = (b * 8 + k) * 2 by omega]).trans y1.2)
                have z3 : w10.cell? ⟨g7, b * 16 + k * 2, none⟩ = _ := (HS10.out.cell (b * 16 + k * 2)).trans ((show cs[b * 16 + k * 2]? = cs[(b * 8 + k) * 2]? by rw [show b * 16 + k * 2 = (b * 8 + k) * 2 by omega]).trans y2.1)
                have z4 : w10.cell? ⟨g7, b * 16 + k * 2 + 1, none⟩ = _ := (HS10.out.cell (b * 16 + k * 2 + 1)).trans ((show cs[b * 16 + k * 2 + 1]? = cs[(b * 8 + k) * 2 + 1]? by rw [show b * 16 + k * 2 = (b * 8 + k) * 2 by omega]).trans y2.2)
                clear hkp y1 y2
                generalize c.read (b : Int) (k : Int) = rd at *
                obtain ⟨rs, rn⟩ := rd
                simp only at z1 z2 z3 z4
                go_wp2_with fail
                go_quiet (fail)
                go_wp2_with fail
                go_roundw
                case rel => exact ⟨k + 1, n2 + nq, by omega, by go_num, rfl⟩
                case measure => simp [intOf] <;> omega
            · obtain rfl : k = 8 := by omega
              have g3 : ¬ ((8 : Int) < 8) := by omega
              go_wp2_with fail
              go_roundw
              case rel => exact ⟨b + 1, n2, by omega, by go_num, rfl⟩
              case measure => simp [intOf] <;> omega
        · obtain rfl : b = 24 := by omega
          have g1 : ¬ ((24 : Int) < 24) := by omega
          have g7' : (0 : Int) ≤ (a : Int) := by omega
          have g8' : (a : Int) < 24 := by omega
          have hq1 := next_any w3.heap.size p c2 (a : Int) (w10.drewN n1) (HC10.out.drewN n1) (by omega) (by omega)
          have hd := down_any w3.heap.size p c2 (w10.drewN n1) (HC10.out.drewN n1)
          rw [HST2.out.down] at hd
          have HD := Lib.hid hd
          clear hd
          by_cases e1 : how = 1
          · have hh1 : (how == 1) = true := by rw [beq_iff_eq]; exact e1
            obtain ⟨f1, f2⟩ := HTR.out.h1e e1 rfl
            have yp := (HPB.out (a * 8 + 0) (by omega)).2
            rw [pageN_at _ (show 0 < 8 by omega), f2] at yp
            have z9 : w10.cell? ⟨g12, a * 16 + 1, none⟩ = some (.int .i64 4) := (HN10.out.cell (a * 16 + 1)).trans ((show ds[a * 16 + 1]? = ds[(a * 8 + 0) * 2 + 1]? by rw [show a * 16 + 1 = (a * 8 + 0) * 2 + 1 by omega]).trans yp)
            rw [Int.toNat_natCast, f1] at hq1
            have HQ1 := Lib.hid hq1
            clear hq1
            go_wp2_with (first
              | (go_at_call 41; refine HD.out.mono ?_; rintro e w11 ⟨rfl, rfl⟩)
              | (go_at_call 34; refine HQ1.out.mono ?_; rintro e w11 ⟨rfl, rfl⟩))
            go_ret
            exact ⟨by simp, below_drewN' HB10.out n1⟩
          · have hh1 : (how == 1) = false := by rw [beq_eq_false_iff_ne]; exact e1
            by_cases e2 : how = 2
            · have hh2 : (how == 2) = true := by rw [beq_iff_eq]; exact e2
              have f1 := HTR.out.h2e e2 rfl
              rw [Int.toNat_natCast, f1] at hq1
              have HQ1 := Lib.hid hq1
              clear hq1
              go_wp2_with (first
                | (go_at_call 41; refine HD.out.mono ?_; rintro e w11 ⟨rfl, rfl⟩)
                | (go_at_call 34; refine HQ1.out.mono ?_; rintro e w11 ⟨rfl, rfl⟩))
              go_ret
              exact ⟨by simp, below_drewN' HB10.out n1⟩
            · have hh2 : (how == 2) = false := by rw [beq_eq_false_iff_ne]; exact e2
              have f1 := HTR.out.h0 e1 e2
              rw [HNN.out] at f1
              rw [Int.toNat_natCast, f1] at hq1
              have HQ1 := Lib.hid hq1
              clear hq1
              go_wp2_with (first
                | (go_at_call 41; refine HD.out.mono ?_; rintro e w11 ⟨rfl, rfl⟩)
                | (go_at_call 34; refine HQ1.out.mono ?_; rintro e w11 ⟨rfl, rfl⟩))
              go_ret
              exact ⟨by simp, below_drewN' HB10.out n1⟩
  · have t61 := kindS_ne hk
    unfold kEraseS at t61
    clear hk
    have hl := torn_write hst hwf ha24 sx how
    have ho := cwrite_any w3.heap.size p (c.arm 0) (a : Int) sx w7 HC7.out hsx
    generalize (c.arm 0).write (a : Int) sx = cw at *
    obtain ⟨c1w, n1w⟩ := cw
    simp only at hl ho
    have HOP := Lib.hid ho
    clear ho HC7
    rcases hl with ⟨f1, f2, f3⟩ | ⟨f1, hTR⟩
    · have v1 : ((n1w : Int) != 9) = true := by rw [bne_iff_ne]; omega
      have HNN := Lib.hid (HNUM.out n1w)
      rw [show errV n1w = .iface 107 (.int .i64 n1w) from if_neg f2] at HOP HNN
      have HDF := Lib.hid f3
      clear f1 f2 f3
      go_wp2_with fail
      refine HOP.out.mono ?_
      rintro e w8 ⟨rfl, hc8, hf8⟩
      have hd := down_any w3.heap.size p c1w w8 hc8
      rw [HDF.out] at hd
      have HD := Lib.hid hd
      have HB8 := Lib.hid (HB7.out.trans ((hf8.below HBB7.out).mono HZ3.out))
      clear hd hc8 hf8
      go_wp2_with fail
      refine (HNN.out _).mono ?_
      rintro e w9 ⟨rfl, rfl⟩
      go_wp2_with (go_at_call 41; refine HD.out.mono ?_; rintro e w11 ⟨rfl, rfl⟩)
      go_ret
      exact ⟨by simp, HB8.out⟩
    · subst f1
      obtain ⟨c2, hc2⟩ : ∃ c2, c1w.restart how = c2 := ⟨_, rfl⟩
      rw [hc2] at hTR
      have HC2 := Lib.hid hc2
      clear hc2
      have HTR := Lib.hid hTR
      have HST2 := Lib.hid hTR.still
      have HNN := Lib.hid hN
      have HN9 := Lib.hid (HNUM.out 9)
      rw [show errV 9 = Value.iface 107 (.int .i64 9) from rfl] at HOP HN9
      clear hTR hN hst hwf
      go_wp2_with fail
      refine HOP.out.mono ?_
      rintro e w8 ⟨rfl, hc8, hf8⟩
      have HC8 := Lib.hid hc8
      have HB8 := Lib.hid (HB7.out.trans ((hf8.below HBB7.out).mono HZ3.out))
      have HG8 := Lib.hid (HG7.out.fr hf8 (.inr (.inr (by decide))))
      have HS8 := Lib.hid (HS7.out.fr hf8 (.inr (.inr (by decide))))
      have HBB8 : Hid (w3.heap.size ≤ w8.heap.size) := Nat.le_trans HBB7.out (hf8.below HBB7.out).size
      have x2 := HG8.out.cell 2
      simp at x2
      clear hc8 hf8 HG7 HS7 HB7 HBB7
      have hrd := cread_any w3.heap.size p c1w (a : Int) 0 w8 HC8.out
      rw [HTR.out.dead] at hrd
      rw [show errV (ByteArray.empty, 9).2 = Value.iface 107 (.int .i64 9) from rfl] at hrd
      have HRD := Lib.hid hrd
      have hwx := cwrite_any w3.heap.size p c1w (a : Int) ⟨#[120]⟩ w8 HC8.out (by decide)
      rw [HTR.out.dumb] at hwx
      rw [show errV (c1w, 9).2 = Value.iface 107 (.int .i64 9) from rfl] at hwx
      have HWX := Lib.hid hwx
      clear hrd hwx HOP HC8
      go_wp2_with fail
      refine (HN9.out _).mono ?_
      rintro e w9 ⟨rfl, rfl⟩
      go_wp2_with fail
      refine HRD.out.mono ?_
      rintro e w9 ⟨rfl, rfl⟩
      go_wp2_with fail
      refine (HN9.out _).mono ?_
      rintro e w9 ⟨rfl, rfl⟩
      go_wp2_with fail
      refine HWX.out.mono ?_
      rintro e w9 ⟨rfl, hc9, hf9⟩
      have HC9 := Lib.hid hc9
      have HB9 := Lib.hid (HB8.out.trans ((hf9.below HBB8.out).mono HZ3.out))
      have HG9 := Lib.hid (HG8.out.fr hf9 (.inr (.inr (by decide))))
      have HS9 := Lib.hid (HS8.out.fr hf9 (.inr (.inr (by decide))))
      have HBB9 : Hid (w3.heap.size ≤ w9.heap.size) := Nat.le_trans HBB8.out (hf9.below HBB8.out).size
      have x2 := HG9.out.cell 2
      simp at x2
      clear hc9 hf9 HG8 HS8 HB8 HBB8
      have hrs := restart_any w3.heap.size p c1w how w9 HC9.out
      rw [HC2.out] at hrs
      have HRS := Lib.hid hrs
      clear hrs HC2 HC9 HRD HWX
      go_wp2_with fail
      refine (HN9.out _).mono ?_
      rintro e w13 ⟨rfl, rfl⟩
      go_wp2_with fail
      refine HRS.out.mono ?_
      rintro e w10 ⟨rfl, hc10, hf10⟩
      have HC10 := Lib.hid hc10
      have HB10 := Lib.hid (HB9.out.trans ((hf10.below HBB9.out).mono HZ3.out))
      have HG10 := Lib.hid (HG9.out.fr hf10 (.inr (.inr (by decide))))
      have HS10 := Lib.hid (HS9.out.fr hf10 (.inr (.inr (by decide))))
      have HBB10 : Hid (w3.heap.size ≤ w10.heap.size) := Nat.le_trans HBB9.out (hf10.below HBB9.out).size
      have x2 := HG10.out.cell 2
      simp at x2
      clear hc10 hf10 HG9 HS9 HB9 HBB9
      have HSH2 := Lib.hid (sheets_any w3.heap.size p c2 w10 HC10.out)
      clear HRS HN9
      go_wp2_with fail
      refine HSH2.out.mono ?_
      rintro e w9 ⟨rfl, hb9⟩
      have hb10 : Below w9.heap.size w9 (w9.alloc (.cells (arrS (pageN c2)) 71)) := (Below.refl _ _).alloc (Nat.le_refl _) _
      have HC11 := Lib.hid ((HC10.out.below hb9).below hb10)
      have HN10 : Hid (Blk (w9.alloc (.cells (arrS (pageN c2)) 71)) w9.heap.size 71 (arrS (pageN c2))) := Blk.new _ _ _
      have HG11 := Lib.hid ((HG10.out.below hb9 HG10.out.lt).alloc (.cells (arrS (pageN c2)) 71))
      have HS11 := Lib.hid ((HS10.out.below hb9 HS10.out.lt).alloc (.cells (arrS (pageN c2)) 71))
      have HB11 := Lib.hid ((HB10.out.trans (hb9.mono HB10.out.size)).trans (hb10.mono (HB10.out.trans (hb9.mono HB10.out.size)).size))
      have hsz := arrS_size (pageN c2)
      have ho := arrS_one (pageN c2)
      have HPB := Lib.hid (fun i (hi : i < 192) => arrS_at (pageN c2) hi)
      clear hb9 hb10 HSH2 HC10 HG10 HS10 HB10 x2
      generalize arrS (pageN c2) = ds at *
      go_wp2_with (refine wpList_store_row rfl 71 _ _ rfl w9.heap.size ds rfl rfl 71 _ (heap_alloc_new _ _) (by rw [hsz]; kernel_rfl) (by rw [hsz]; rfl) ho ?_; rw [World.setRow_alloc_new])
      clear hsz ho
      generalize hw10 : (w9.alloc (.cells ds 71)) = w10 at *
      clear hw10
      generalize w9.heap.size = g12 at *
      have HC10 := HC11
      have HG10 := HG11
      have HS10 := HS11
      have HB10 := HB11
      clear HC11 HG11 HS11 HB11
      have x2 := HG10.out.cell 2
      simp at x2
      go_loopw [16] (fun i wr => ∃ b n2 : Nat, b ≤ 24 ∧ i = .int .i64 (b : Int) ∧ wr = w10.drewN n2) (fun i _ => (24 - intOf i).toNat)
      case atStart => exact ⟨0, 0, by omega, rfl, rfl⟩
      case round =>
        obtain ⟨b, n1, hb, rfl, rfl⟩ := hrel
        by_cases hlt : b < 24
        · have g1 : (b : Int) < 24 := by omega
          have g0 : (0 : Int) ≤ (b : Int) := by omega
          go_wp2_with fail
          go_loopw [17] (fun i wr => ∃ k n2 : Nat, k ≤ 8 ∧ i = .int .i64 (k : Int) ∧ wr = w10.drewN n2) (fun i _ => (8 - intOf i).toNat)
          case atStart => exact ⟨0, n1, by omega, rfl, rfl⟩
          case round =>
            obtain ⟨k, n2, hk, rfl, rfl⟩ := hrel
            by_cases hkt : k < 8
            · have g3 : (k : Int) < 8 := by omega
              have g2 : (0 : Int) ≤ (k : Int) := by omega
              by_cases hba : b = a
              · subst hba
                have u1 : ((b : Int) != (b : Int)) = false := by simp
                by_cases hkn : k = N
                · subst hkn
                  have u2 : ((k : Int) != (k : Int)) = false := by simp
                  go_wp2_with fail
                  go_quiet (fail)
                  go_wp2_with fail
                  go_roundw
                  case rel => exact ⟨k + 1, n2 + nq, by omega, by go_num, rfl⟩
                  case measure => simp [intOf] <;> omega
                · have u2 : ((k : Int) != (N : Int)) = true := by rw [bne_iff_ne]; omega
                  have hkp := HTR.out.keep b k hlt hkt ((fun h => h.2.elim (fun e => by cases e) (fun e => hkn (e.trans HNN.out))))
                  have y1 := (HPB.out (b * 8 + k) (by omega))
                  have y2 := (HPA.out (b * 8 + k) (by omega))
                  rw [pageN_at _ hkt, hkp] at y1
                  rw [pageN_at _ hkt] at y2
                  have z1 : w10.cell? ⟨g12, b * 16 + k * 2, none⟩ = _ := (HN10.out.cell (b * 16 + k * 2)).trans ((show ds[b * 16 + k * 2]? = ds[(b * 8 + k) * 2]? by rw [show b * 16 + k * 2 = (b * 8 + k) * 2 by omega]).trans y1.1)
                  have z2 : w10.cell? ⟨g12, b * 16 + k * 2 + 1, none⟩ = _ := (HN10.out.cell (b * 16 + k * 2 + 1)).trans ((show ds[b * 16 + k * 2 + 1]? = ds[(b * 8 + k) * 2 + 1]? by rw [show b * 16 + k * 2 = (b * 8 + k) * 2 by omega]).trans y1.2)
                  have z3 : w10.cell? ⟨g7, b * 16 + k * 2, none⟩ = _ := (HS10.out.cell (b * 16 + k * 2)).trans ((show cs[b * 16 + k * 2]? = cs[(b * 8 + k) * 2]? by rw [show b * 16 + k * 2 = (b * 8 + k) * 2 by omega]).trans y2.1)
                  have z4 : w10.cell? ⟨g7, b * 16 + k * 2 + 1, none⟩ = _ := (HS10.out.cell (b * 16 + k * 2 + 1)).trans ((show cs[b * 16 + k * 2 + 1]? = cs[(b * 8 + k) * 2 + 1]? by rw [show b * 16 + k * 2 = (b * 8 + k) * 2 by omega]).trans y2.2)
                  clear hkp y1 y2
                  generalize c.read (b : Int) (k : Int) = rd at *
                  obtain ⟨rs, rn⟩ := rd
                  simp only at z1 z2 z3 z4
                  go_wp2_with fail
                  go_quiet (fail)
                  go_wp2_with fail
                  go_roundw
                  case rel => exact ⟨k + 1, n2 + nq, by omega, by go_num, rfl⟩
                  case measure => simp [intOf] <;> omega
              · have u1 : ((b : Int) != (a : Int)) = true := by rw [bne_iff_ne]; omega
                have hkp := HTR.out.keep b k hlt hkt ((fun h => hba h.1))
                have y1 := (HPB.out (b * 8 + k) (by omega))
                have y2 := (HPA.out (b * 8 + k) (by omega))
                rw [pageN_at _ hkt, hkp] at y1
                rw [pageN_at _ hkt] at y2
                have z1 : w10.cell? ⟨g12, b * 16 + k * 2, none⟩ = _ := (HN10.out.cell (b * 16 + k * 2)).trans ((show ds[b * 16 + k * 2]? = ds[(b * 8 + k) * 2]? by rw [show b * 16 + k * 2 = (b * 8 + k) * 2 by omega]).trans y1.1)
                have z2 : w10.cell? ⟨g12, b * 16 + k * 2 + 1, none⟩ = _ := (HN10.out.cell (b * 16 + k * 2 + 1)).trans ((show ds[b * 16 + k * 2 + 1]? = ds[(b * 8 + k) * 2 + 1]? by rw [show b * 16 + k * 2 = (b * 8 + k) * 2 by omega]).trans y1.2)
                have z3 : w10.cell? ⟨g7, b * 16 + k * 2, none⟩ = _ := (HS10.out.cell (b * 16 + k * 2)).trans ((show cs[b * 16 + k * 2]? = cs[(b * 8 + k) * 2]? by rw [show b * 16 + k * 2 = (b * 8 + k) * 2 by omega]).trans y2.1)
                have z4 : w10.cell? ⟨g7, b * 16 + k * 2 + 1, none⟩ = _ := (HS10.out.cell (b * 16 + k * 2 + 1)).trans ((show cs[b * 16 + k * 2 + 1]? = cs[(b * 8 + k) * 2 + 1]? by rw [show b * 16 + k * 2 = (b * 8 + k) * 2 by omega]).trans y2.2)
                clear hkp y1 y2
                generalize c.read (b : Int) (k : Int) = rd at *
                obtain ⟨rs, rn⟩ := rd
                simp only at z1 z2 z3 z4
                go_wp2_with fail
                go_quiet (fail)
                go_wp2_with fail
                go_roundw
                case rel => exact ⟨k + 1, n2 + nq, by omega, by go_num, rfl⟩
                case measure => simp [intOf] <;> omega
            · obtain rfl : k = 8 := by omega
              have g3 : ¬ ((8 : Int) < 8) := by omega
              go_wp2_with fail
              go_roundw
              case rel => exact ⟨b + 1, n2, by omega, by go_num, rfl⟩
              case measure => simp [intOf] <;> omega
        · obtain rfl : b = 24 := by omega
          have g1 : ¬ ((24 : Int) < 24) := by omega
          have g7' : (0 : Int) ≤ (a : Int) := by omega
          have g8' : (a : Int) < 24 := by omega
          have hN8 := HTR.out.room rfl
          rw [HNN.out] at hN8
          have g5 : (0 : Int) ≤ (N : Int) := by omega
          have g6 : (N : Int) < 8 := by omega
          have hq1 := next_any w3.heap.size p c2 (a : Int) (w10.drewN n1) (HC10.out.drewN n1) (by omega) (by omega)
          have hd := down_any w3.heap.size p c2 (w10.drewN n1) (HC10.out.drewN n1)
          rw [HST2.out.down] at hd
          have HD := Lib.hid hd
          clear hd
          by_cases e1 : how = 1
          · have hh1 : (how == 1) = true := by rw [beq_iff_eq]; exact e1
            obtain ⟨f1, f2⟩ := HTR.out.h1w e1 rfl
            rw [HNN.out] at f1 f2
            have yp := (HPB.out (a * 8 + N) (by omega)).2
            rw [pageN_at _ (show N < 8 by omega), f2] at yp
            have z9 : w10.cell? ⟨g12, a * 16 + N * 2 + 1, none⟩ = some (.int .i64 4) := (HN10.out.cell (a * 16 + N * 2 + 1)).trans ((show ds[a * 16 + N * 2 + 1]? = ds[(a * 8 + N) * 2 + 1]? by rw [show a * 16 + N * 2 + 1 = (a * 8 + N) * 2 + 1 by omega]).trans yp)
            rw [Int.toNat_natCast, f1] at hq1
            have HQ1 := Lib.hid hq1
            clear hq1
            go_wp2_with (first
              | (go_at_call 41; refine HD.out.mono ?_; rintro e w11 ⟨rfl, rfl⟩)
              | (go_at_call 34; refine HQ1.out.mono ?_; rintro e w11 ⟨rfl, rfl⟩))
            go_ret
            exact ⟨by simp, below_drewN' HB10.out n1⟩
          · have hh1 : (how == 1) = false := by rw [beq_eq_false_iff_ne]; exact e1
            by_cases e2 : how = 2
            · have hh2 : (how == 2) = true := by rw [beq_iff_eq]; exact e2
              obtain ⟨f1, f2⟩ := HTR.out.h2w e2 rfl
              rw [HNN.out] at f1 f2
              have yp := (HPB.out (a * 8 + N) (by omega)).2
              rw [pageN_at _ (show N < 8 by omega), f2] at yp
              have z9 : w10.cell? ⟨g12, a * 16 + N * 2 + 1, none⟩ = some (.int .i64 0) := (HN10.out.cell (a * 16 + N * 2 + 1)).trans ((show ds[a * 16 + N * 2 + 1]? = ds[(a * 8 + N) * 2 + 1]? by rw [show a * 16 + N * 2 + 1 = (a * 8 + N) * 2 + 1 by omega]).trans yp)
              rw [Int.toNat_natCast, f1] at hq1
              have HQ1 := Lib.hid hq1
              clear hq1
              go_wp2_with (first
                | (go_at_call 41; refine HD.out.mono ?_; rintro e w11 ⟨rfl, rfl⟩)
                | (go_at_call 34; refine HQ1.out.mono ?_; rintro e w11 ⟨rfl, rfl⟩))
              go_ret
              exact ⟨by simp, below_drewN' HB10.out n1⟩
            · have hh2 : (how == 2) = false := by rw [beq_eq_false_iff_ne]; exact e2
              have f1 := HTR.out.h0 e1 e2
              rw [HNN.out] at f1
              rw [Int.toNat_natCast, f1] at hq1
              have HQ1 := Lib.hid hq1
              clear hq1
              go_wp2_with (first
                | (go_at_call 41; refine HD.out.mono ?_; rintro e w11 ⟨rfl, rfl⟩)
                | (go_at_call 34; refine HQ1.out.mono ?_; rintro e w11 ⟨rfl, rfl⟩))
              go_ret
              exact ⟨by simp, below_drewN' HB10.out n1⟩

-- CLOSING

set_option maxRecDepth 100000 in
theorem topTorn_holds : Rows.TopTornSaid :=
  OpenClaim.holds_of_wide 8 Try.f8 rfl rfl rfl rfl rfl rfl rfl ⟨rfl, rfl, rfl, rfl, rfl⟩ rfl rfl rfl rfl rfl (by kernel_rfl) Try.func8 (by kernel_rfl)
    (of_decide_eq_true (by kernel_rfl)) (by unfold Func.isWrapper; first | (rw [if_pos (by decide +kernel)]; kernel_rfl) | (rw [if_neg (by decide +kernel)]; exact ⟨rfl, rfl⟩))
    (fun os started H enc _ => close_lifted Rows.topTornSpec 8 Try.f8 os started H enc (by kernel_rfl) Try.func8 (by kernel_rfl) rfl
      (fun ds hd => by
        rw [Try.params8] at hd
        match ds, hd with
        | [d1, d2, d3], _ => rfl)
      (by kernel_rfl)
      (ChangeSpec.witness6 (enc := enc) (C := Try.checked) false ⟨#[], #[.slice none 0 0, .agg #[.string ByteArray.empty, .string ByteArray.empty, .int .i64 0, .int .i64 0, .slice none 0 0], .int .i64 0], []⟩ 8 (by kernel_rfl) (by kernel_rfl) (by kernel_rfl) (by kernel_rfl))
      (fun W base args ds p hval hA => by
        rw [Try.params8] at hA hval
        obtain ⟨v0, v1, v2, d0, d1, d2, p0, p1, p2, hargs, rfl, rfl, h0, h1, h2⟩ := trodAll_three hA
        obtain rfl : args = #[v0, v1, v2] := by cases args; simp_all
        obtain ⟨l0, hl0⟩ := acts_of (hval 0 _ v0 rfl rfl) h0
        obtain ⟨l1, hl1⟩ := act_of (hval 1 _ v1 rfl rfl) h1
        obtain ⟨n2, rfl, rfl, rfl, wn2⟩ := open_int Try.underlying3 (hval 2 _ v2 rfl rfl) h2
        exact (by obtain ⟨rfl, he1, hok1⟩ := hl1; exact topTorn_walk v0 l0 l1.kind l1.s l1.a l1.b l1.v l1.l W n2 hl0 he1 hok1)))
#print axioms topTorn_holds
end Go.Proofs.Ytaepdbkfaoiimab
