/- Several texts of this proof, one behind the other: walks and plain laws that the statement rests on. Conditions: none but those that each lemma names. -/
import Derived.Test.YtaepdbkfaoiimabGreatDoorGb
import Derived.Test.YtaepdbkfaoiimabGreatDoorGo
import Derived.Lib.AtoiAll
import Derived.Lib.ItoaNum
import Derived.Test.YtaepdbkfaoiimabGreatDoorGn
import Derived.Lib.LaidTab
import Derived.Lib.SmallJoins
import Derived.BigRegion
import Derived.Deep.RegionHeld
/- Sessions: what a line asks for, what it answers, what it leaves: plain. No program in sight; conditions: none. -/
set_option linter.unusedVariables false
set_option linter.unusedSimpArgs false
namespace Go.Proofs.YtaepdbkfaoiimabGreatDoor
open Go.RowKit
/-! ### words -/
def kRows : List UInt8 := [114, 111, 119, 115]
def kBlocks : List UInt8 := [98, 108, 111, 99, 107, 115]
def kOpen : List UInt8 := [111, 112, 101, 110]
def kGet : List UInt8 := [103, 101, 116]
def kRestart : List UInt8 := [114, 101, 115, 116, 97, 114, 116]
def kPage : List UInt8 := [112, 97, 103, 101]
def kArm : List UInt8 := [97, 114, 109]
def txErr : ByteArray := ⟨#[101, 114, 114, 111, 114, 32]⟩
def txOk : ByteArray := ⟨#[111, 107]⟩
def txDash : ByteArray := ⟨#[45]⟩
def txWear : ByteArray := ⟨#[119, 101, 97, 114]⟩
def errB (n : Nat) : ByteArray := txErr ++ ⟨(Lib.decDigits n).toArray⟩
def doneB (n : Nat) : ByteArray := if n = 0 then txOk else errB n
def itoaB (n : Int) : ByteArray := ⟨(Lib.itoa n).toArray⟩
def pairB (e : Ent) : ByteArray := (e.k ++ bq) ++ e.v
def joinedB (l : List ByteArray) : ByteArray := if l = [] then txDash else ⟨(Lib.join (l.map fun x => x.data.toList) [32]).toArray⟩
def toldB (l : List Ent) : ByteArray := joinedB (l.map pairB)
def blocksB (c : Chip) (s : SM) : ByteArray :=
  joinedB (([0, 1, 2, 3, 4, 5].map fun i : Int => itoaB ((countK (kindM c s.m) i 24 : Nat) : Int)) ++ [txWear, itoaB (max (spreadM c 22).1 0), itoaB (spreadM c 22).2])
/-! ### numbers below a thousand -/
def dig3 (n : Nat) : List UInt8 :=
  if n < 10 then [UInt8.ofNat (48 + n)] else if n < 100 then [UInt8.ofNat (48 + n / 10), UInt8.ofNat (48 + n % 10)] else [UInt8.ofNat (48 + n / 100), UInt8.ofNat (48 + n / 10 % 10), UInt8.ofNat (48 + n % 10)]
theorem dec_dig3 {n : Nat} (h : n < 1000) : Lib.decDigits n = dig3 n := by
  unfold dig3
  by_cases h1 : n < 10
  · rw [if_pos h1, Lib.decDigits_one h1]
  by_cases h2 : n < 100
  · rw [if_neg h1, if_pos h2, Lib.decDigits_two h1 h2]
  · rw [if_neg h1, if_neg h2, Lib.decDigits, dif_neg h1, Lib.decDigits_two (by omega) (by omega), Nat.div_div_eq_div_mul]
    rfl
theorem atoi_dig3_all : (List.range 1000).all (fun n => decide (Lib.atoiAll (dig3 n) = .ok (n : Int))) = true := by decide +kernel
theorem atoi_dig3 {n : Nat} (h : n < 1000) : Lib.atoiAll (dig3 n) = .ok (n : Int) := by
  have := List.all_eq_true.1 atoi_dig3_all n (List.mem_range.2 h)
  simpa using this
theorem dig3_inj {n m : Nat} (hn : n < 1000) (hm : m < 1000) (h : dig3 n = dig3 m) : n = m := by
  have h1 := atoi_dig3 hn
  rw [h, atoi_dig3 hm] at h1
  injection h1 with h1
  omega
/-- The number below a thousand that a word spells. -/
def natM (w : ByteArray) : Option Nat := (List.range 1000).find? (fun n => decide (w.data.toList = dig3 n))
theorem natM_some {w : ByteArray} {n : Nat} (h : natM w = some n) : n < 1000 ∧ w.data.toList = dig3 n := by
  have h1 := List.find?_some h
  have h2 := List.mem_of_find?_eq_some h
  exact ⟨List.mem_range.1 h2, by simpa using h1⟩
theorem natM_none {w : ByteArray} (h : natM w = none) {n : Nat} (hn : n < 1000) : w.data.toList ≠ dig3 n := by
  have := List.find?_eq_none.1 h n (List.mem_range.2 hn)
  simpa using this
theorem natM_of {w : ByteArray} {n : Nat} (hn : n < 1000) (h : w.data.toList = dig3 n) : natM w = some n := by
  cases e : natM w with
  | none => exact absurd h (natM_none e hn)
  | some m =>
    obtain ⟨h1, h2⟩ := natM_some e
    rw [dig3_inj h1 hn (h2.symm.trans h)]
theorem natM_bad {w : ByteArray} (h : ∀ v, Lib.atoiAll w.data.toList ≠ .ok v) : natM w = none := by
  cases e : natM w with
  | none => rfl
  | some n =>
    obtain ⟨h1, h2⟩ := natM_some e
    exact absurd (by rw [h2, atoi_dig3 h1]) (h n)
theorem itoa_dig3 {n : Nat} (h : n < 1000) : Lib.itoa (n : Int) = dig3 n := by
  unfold Lib.itoa
  rw [if_neg (by omega), Int.toNat_natCast, dec_dig3 h]
theorem natM_ok {w : ByteArray} {v : Int} (h : Lib.atoiAll w.data.toList = .ok v) : natM w = if Lib.itoa v = w.data.toList ∧ 0 ≤ v ∧ v ≤ 999 then some v.toNat else none := by
  split
  · rename_i hc
    obtain ⟨h1, h2, h3⟩ := hc
    obtain ⟨n, rfl⟩ := Int.eq_ofNat_of_zero_le h2
    have hn : n < 1000 := by omega
    rw [itoa_dig3 hn] at h1
    exact natM_of hn h1.symm
  · rename_i hc
    cases e : natM w with
    | none => rfl
    | some n =>
      obtain ⟨h1, h2⟩ := natM_some e
      have h4 : Lib.NumEnd.ok (n : Int) = .ok v := (atoi_dig3 h1).symm.trans ((congrArg Lib.atoiAll h2).symm.trans h)
      have h5 : (n : Int) = v := Lib.NumEnd.ok.inj h4
      subst h5
      exact absurd ⟨(itoa_dig3 h1).trans h2.symm, by omega, by omega⟩ hc
/-! ### lines -/
inductive Cmd
  | bad | write (t : ByteArray) | rows | blocks | flush | compact | opn | get (k : ByteArray) | page (a : ByteArray) (n : Nat) | restart (n : Nat)
def cmd1 (line : ByteArray) : Cmd :=
  if line.toList = kRows then .rows else if line.toList = kBlocks then .blocks else if line.toList = kFlush then .flush else if line.toList = kCompact then .compact else if line.toList = kOpen then .opn else .bad
def cmd2 (w0 w1 : ByteArray) : List ByteArray → Cmd
  | [] => if w0.toList = kGet then .get w1 else if w0.toList = kRestart then (match natM w1 with | some n => .restart n | none => .bad) else .bad
  | [w2] => if w0.toList = kPage then (match natM w2 with | some n => .page w1 n | none => .bad) else .bad
  | _ :: _ :: _ => .bad
def cmdW (line : ByteArray) : List ByteArray → Cmd
  | [] => .bad
  | [_] => cmd1 line
  | w0 :: w1 :: r => if w0.toList = kWrite then .write (line.extract 6 line.size) else cmd2 w0 w1 r
def cmdOf (line : ByteArray) : Cmd := if 60 < line.size then .bad else cmdW line (splB line)
theorem splB_ne (s : ByteArray) : splB s ≠ [] := by
  unfold splB
  intro h
  exact spl_ne _ (List.map_eq_nil_iff.1 h)
theorem splB_join (s : ByteArray) : s.data.toList = Lib.join ((splB s).map fun x => x.data.toList) [32] := by rw [splB_data, join_spl]
theorem splB_two {s w0 w1 : ByteArray} {r : List ByteArray} (h : splB s = w0 :: w1 :: r) : ∃ z, s.data.toList = w0.data.toList ++ 32 :: z := by
  have e := splB_join s
  rw [h, List.map_cons, List.map_cons, Lib.join_cons, Lib.joinTail, List.map_cons, List.flatten_cons] at e
  exact ⟨_, e⟩
theorem splB_size {s w0 w1 : ByteArray} {r : List ByteArray} (h : splB s = w0 :: w1 :: r) : w0.size + 1 ≤ s.size := by
  obtain ⟨z, e⟩ := splB_two h
  have := congrArg List.length e
  rw [Array.length_toList, List.length_append, Array.length_toList, List.length_cons] at this
  show w0.data.size + 1 ≤ s.data.size
  omega
/-! ### what a line does -/
def conM (c : Chip) (s : SM) : Cmd → Chip × SM × ByteArray
  | .bad => (c, s, errB 4)
  | .write t => if ofF t = 0 then ((writeM c s (ofL t)).1, (writeM c s (ofL t)).2.1, doneB (writeM c s (ofL t)).2.2) else (c, s, errB 4)
  | .rows => (c, s, toldB (pageM s.rows ByteArray.empty 40))
  | .blocks => (c, s, blocksB c s)
  | .flush => ((flushM c s).1, (flushM c s).2.1, doneB (flushM c s).2.2)
  | .compact => ((compM c s).1, (compM c s).2.1, doneB (compM c s).2.2)
  | .opn => (c, s, txOk)
  | .get k => (c, s, if (getE s.rows k).isSome then bq ++ ((getE s.rows k).getD Ent.zero).v else errB 5)
  | .page a n => (c, s, toldB (pageM s.rows a n))
  | .restart _ => (c, s, txOk)
def stM (cs : Chip × SM) (l : List ByteArray) : Chip × SM := l.foldl (fun cs x => ((conM cs.1 cs.2 (cmdOf x)).1, (conM cs.1 cs.2 (cmdOf x)).2.1)) cs
def outsM (cs : Chip × SM) : List ByteArray → List ByteArray
  | [] => []
  | x :: l => (conM cs.1 cs.2 (cmdOf x)).2.2 :: outsM ((conM cs.1 cs.2 (cmdOf x)).1, (conM cs.1 cs.2 (cmdOf x)).2.1) l
theorem stM_snoc (cs : Chip × SM) (l : List ByteArray) (x : ByteArray) : stM cs (l ++ [x]) = ((conM (stM cs l).1 (stM cs l).2 (cmdOf x)).1, (conM (stM cs l).1 (stM cs l).2 (cmdOf x)).2.1) := by
  unfold stM; rw [List.foldl_append]; rfl
theorem outsM_snoc (cs : Chip × SM) (l : List ByteArray) (x : ByteArray) : outsM cs (l ++ [x]) = outsM cs l ++ [(conM (stM cs l).1 (stM cs l).2 (cmdOf x)).2.2] := by
  induction l generalizing cs with
  | nil => rfl
  | cons y l ih =>
    rw [List.cons_append, outsM, ih, outsM]
    rfl
/-! ### rows alone -/
def refM (r : List Ent) : Cmd → List Ent × ByteArray
  | .bad => (r, errB 4)
  | .write t => if ofF t = 0 then (rowsW r (ofL t), doneB (checkR r (ofL t))) else (r, errB 4)
  | .rows => (r, toldB r)
  | .blocks => (r, errB 4)
  | .flush => (r, txOk)
  | .compact => (r, txOk)
  | .opn => (r, txOk)
  | .get k => (r, if (getE r k).isSome then bq ++ ((getE r k).getD Ent.zero).v else errB 5)
  | .page a n => (r, toldB (pageM r a n))
  | .restart _ => (r, txOk)
theorem con_rowsf {c : Chip} {s : SM} (h : Inv c s) : ∀ e ∈ s.rows, faultE e = 0 := by
  intro e he
  obtain ⟨l, hl, hel⟩ := merge_mem (live_mem (show e ∈ liveE (mergeAll (s.mem :: s.tabs)) from he)).1
  rcases List.mem_cons.1 hl with rfl | hl
  · obtain ⟨es, hlog⟩ := h.body.log
    exact hlog.fault e hel
  · exact chkT_all (tabF_parts (tabsAt_ok h.body.tabs l hl)).2.2 e hel
theorem con_empty_lt {k : ByteArray} (h : k.toList ≠ []) : ltB ByteArray.empty k = true := by
  unfold ltB
  rw [(toList_nil ByteArray.empty).2 rfl]
  cases hk : k.toList with
  | nil => exact absurd hk h
  | cons a l => rfl
theorem con_all {c : Chip} {s : SM} (h : Inv c s) : pageM s.rows ByteArray.empty 40 = s.rows := by
  have hr : s.rows.length ≤ 40 := h.body.rows
  unfold pageM
  have e : s.rows.filter (fun e => ltB ByteArray.empty e.k) = s.rows := by
    rw [List.filter_eq_self]
    intro e he
    exact con_empty_lt (faultE_zero (con_rowsf h e he)).1
  rw [e, List.take_of_length_le hr]
theorem Good.up {k j : Nat} {c : Chip} {s : SM} (h : Good k j c s) : Good (k + 1) j c s :=
  ⟨h.inv, h.calm, h.nw, by have := h.ep; omega, h.weak, fun i hi => by have := h.wear i hi; omega⟩
theorem con_good {k : Nat} {c : Chip} {s : SM} (h : Good k 0 c s) (hk : k ≤ 1000) (cmd : Cmd) :
    Good (k + 1) 0 (conM c s cmd).1 (conM c s cmd).2.1 ∧ (conM c s cmd).2.1.rows = (refM s.rows cmd).1 ∧ (cmd ≠ .blocks → (conM c s cmd).2.2 = (refM s.rows cmd).2) := by
  cases cmd with
  | bad => exact ⟨h.up, rfl, fun _ => rfl⟩
  | write t =>
    unfold conM refM
    by_cases h0 : ofF t = 0
    · simp only [if_pos h0]
      obtain ⟨c', s', e, g, r⟩ := write_good h hk (ofL t)
      rw [e]
      exact ⟨g, r, fun _ => rfl⟩
    · simp only [if_neg h0]
      exact ⟨h.up, trivial, fun _ => trivial⟩
  | rows => exact ⟨h.up, rfl, fun _ => by show toldB (pageM s.rows ByteArray.empty 40) = toldB s.rows; rw [con_all h.inv]⟩
  | blocks => exact ⟨h.up, rfl, fun hn => absurd rfl hn⟩
  | flush =>
    obtain ⟨c', s', e, g, r, _⟩ := flush_good h hk
    unfold conM refM
    rw [e]
    exact ⟨g, r, fun _ => rfl⟩
  | compact =>
    obtain ⟨c', s', e, g, r, _⟩ := comp_good h hk
    unfold conM refM
    rw [e]
    exact ⟨g, r, fun _ => rfl⟩
  | opn => exact ⟨h.up, rfl, fun _ => rfl⟩
  | get k => exact ⟨h.up, rfl, fun _ => rfl⟩
  | page a n => exact ⟨h.up, rfl, fun _ => rfl⟩
  | restart n => exact ⟨h.up, rfl, fun _ => rfl⟩
def stR (r : List Ent) (l : List ByteArray) : List Ent := l.foldl (fun r x => (refM r (cmdOf x)).1) r
def outsR (r : List Ent) : List ByteArray → List ByteArray
  | [] => []
  | x :: l => (refM r (cmdOf x)).2 :: outsR (refM r (cmdOf x)).1 l
theorem stR_snoc (r : List Ent) (l : List ByteArray) (x : ByteArray) : stR r (l ++ [x]) = (refM (stR r l) (cmdOf x)).1 := by
  unfold stR; rw [List.foldl_append]; rfl
theorem outsR_snoc (r : List Ent) (l : List ByteArray) (x : ByteArray) : outsR r (l ++ [x]) = outsR r l ++ [(refM (stR r l) (cmdOf x)).2] := by
  induction l generalizing r with
  | nil => rfl
  | cons y l ih =>
    rw [List.cons_append, outsR, ih, outsR]
    rfl
theorem con_outs {l : List ByteArray} : ∀ {k : Nat} {cs : Chip × SM}, Good k 0 cs.1 cs.2 → k + l.length ≤ 1000 → (∀ x ∈ l, cmdOf x ≠ .blocks) → outsM cs l = outsR cs.2.rows l := by
  induction l with
  | nil => intro k cs _ _ _; rfl
  | cons x l ih =>
    intro k cs h hk hb
    simp only [List.length_cons] at hk
    obtain ⟨g, r, e⟩ := con_good h (by omega) (cmdOf x)
    rw [outsM, outsR, e (hb x (by simp))]
    rw [ih (k := k + 1) (cs := ((conM cs.1 cs.2 (cmdOf x)).1, (conM cs.1 cs.2 (cmdOf x)).2.1)) g (by omega) (fun y hy => hb y (by simp [hy]))]
    rw [r]
theorem con_sts (l : List ByteArray) : ∀ {k : Nat} {cs : Chip × SM}, Good k 0 cs.1 cs.2 → k + l.length ≤ 1000 → Good (k + l.length) 0 (stM cs l).1 (stM cs l).2 ∧ (stM cs l).2.rows = stR cs.2.rows l := by
  induction l with
  | nil => intro k cs h _; exact ⟨h, rfl⟩
  | cons x l ih =>
    intro k cs h hk
    simp only [List.length_cons] at hk ⊢
    obtain ⟨g, r, e⟩ := con_good h (by omega) (cmdOf x)
    have := ih (k := k + 1) (cs := ((conM cs.1 cs.2 (cmdOf x)).1, (conM cs.1 cs.2 (cmdOf x)).2.1)) g (by omega)
    rw [r] at this
    refine ⟨?_, this.2⟩
    have h2 := this.1
    rw [show k + (l.length + 1) = k + 1 + l.length by omega]
    exact h2
theorem restart_same {c : Chip} (h : CWf c) (hd : c.down = false) (hf : c.fuse < 0) (n : Int) : c.restart n = c := by
  have hp : c.pend = none := by
    have := h.down
    rw [hd] at this
    cases e : c.pend with
    | none => rfl
    | some p => rw [e] at this; cases this
  have h1 := h.fuse
  have hfu : c.fuse = -1 := by omega
  unfold Chip.restart Chip.undone
  rw [hp]
  cases c
  simp only at hp hd hfu
  subst hp; subst hd; subst hfu
  rfl
/-! ### what a line is -/
theorem cmd_long {line : ByteArray} (h : 60 < line.size) : cmdOf line = .bad := if_pos h
theorem cmd_in {line : ByteArray} (h : ¬ 60 < line.size) : cmdOf line = cmdW line (splB line) := if_neg h
end Go.Proofs.YtaepdbkfaoiimabGreatDoor
/- The console: its functions answer as the plain ones say. Conditions: the library's variables are as the row says. -/
set_option linter.unusedVariables false
set_option linter.unusedSimpArgs false
set_option linter.unnecessarySimpa false
namespace Go.Proofs.YtaepdbkfaoiimabGreatDoor
open Go.RowKit
attribute [local go_sem ↓] eql_err eql_nilerr neq_err neq_nilerr guard_err guard_nilerr guardn_err guardn_nilerr
attribute [local go_sem] assert_err
/-- What a call of a session may turn. -/
abbrev AnyB : Nat → Prop := fun _ => True
/-- What the library's variables hold. -/
structure LibW (B : Nat) (w : World) : Prop where
  big : 8 ≤ B
  maxl : MaxL w
  syn : ∃ ev, w.cell? ⟨0, 0, none⟩ = some ev ∧ (ev = .nilIface ∨ ∃ te pe, ev = .iface te pe)
  rng : ∃ ev, w.cell? ⟨1, 0, none⟩ = some ev ∧ (ev = .nilIface ∨ ∃ te pe, ev = .iface te pe)
  tab : Lib.TabIs Tryz.prog w "internal/strconv.uint64pow10" .u64 Lib.pow10Tab
theorem tab_num : Tryz.prog.globalNamed "internal/strconv.uint64pow10" = some 3 := by kernel_rfl
theorem cell_blk {w w' : World} {a : Addr} (h : w'.heap[a.block]? = w.heap[a.block]?) : w'.cell? a = w.cell? a := by
  unfold World.cell?
  rw [h]
theorem LibW.below {B : Nat} {w w' : World} (h : LibW B w) (hb : Below B w w') : LibW B w' := by
  have h8 := h.big
  refine ⟨h8, ?_, ?_, ?_, ?_⟩
  · obtain ⟨m, hm⟩ := h.maxl
    exact ⟨m, (cell_blk (hb.block _ (Nat.lt_of_lt_of_le (by decide) h8))).trans hm⟩
  · obtain ⟨ev, hm, he⟩ := h.syn
    exact ⟨ev, (cell_blk (hb.block _ (Nat.lt_of_lt_of_le (by decide) h8))).trans hm, he⟩
  · obtain ⟨ev, hm, he⟩ := h.rng
    exact ⟨ev, (cell_blk (hb.block _ (Nat.lt_of_lt_of_le (by decide) h8))).trans hm, he⟩
  · have := h.tab
    unfold Lib.TabIs World.var? at this ⊢
    rw [tab_num] at this ⊢
    simp only [Option.bind_some] at this ⊢
    rw [hb.block _ (Nat.lt_of_lt_of_le (by decide) h8)]
    exact this
theorem checkR_lt (r l : List Ent) : checkR r l < 100 := by
  have h3 : ∀ l : List Ent, ff l ≤ 3 := by
    intro l
    induction l with
    | nil => exact Nat.zero_le _
    | cons e l ih =>
      rw [ff]
      split
      · exact ih
      · exact faultE_le e
  have h4 : bytesF l ≤ 3 := by
    unfold bytesF
    have := h3 l
    repeat' split
    all_goals omega
  unfold checkR
  repeat' split
  all_goals omega
theorem doneB_zero : doneB 0 = txOk := rfl
theorem doneB_pos {n : Nat} (h : n ≠ 0) : doneB n = errB n := if_neg h
set_option maxHeartbeats 1000000 in
theorem confault_any (n : Nat) (hn : n < 100) (w : World) : Calls Tryz.prog 25 #[.iface 39 (.int .i64 (n : Int))] w fun e w' => e = .returned (.string (errB n)) ∧ w = w' := by
  have hi := Tryz.strconv_Itoa_small n hn w
  have HI := Lib.hid hi
  have h2 : (Lib.decDigits n).toArray.size ≤ 100 := by
    rw [dec_dig3 (by omega)]
    unfold dig3
    repeat' split
    all_goals simp
  generalize hd : (⟨(Lib.decDigits n).toArray⟩ : ByteArray) = d at *
  have hds : d.size ≤ 100 := by rw [← hd]; exact h2
  clear hi h2
  go_enter Tryz.func25, Tryz.ntmps25
  go_wp2_with fail
  refine HI.out.mono ?_
  rintro e w1 ⟨rfl, rfl⟩
  go_wp2_with fail
  go_ret
  exact ⟨by rw [errB, hd]; rfl, rfl⟩
set_option maxHeartbeats 1000000 in
theorem condone_any (n : Nat) (hn : n < 100) (w : World) : Calls Tryz.prog 57 #[errV n] w fun e w' => e = .returned (.string (doneB n)) ∧ w = w' := by
  by_cases h : n = 0
  · subst h
    rw [show errV 0 = .nilIface from rfl, doneB_zero]
    go_enter Tryz.func57, Tryz.ntmps57
    go_wp2_with fail
    go_ret
    exact ⟨rfl, rfl⟩
  · have he : errV n = .iface 39 (.int .i64 (n : Int)) := if_neg h
    rw [he, doneB_pos h]
    have HF := Lib.hid (confault_any n hn)
    clear he h
    go_enter Tryz.func57, Tryz.ntmps57
    go_wp2_with fail
    refine (HF.out _).mono ?_
    rintro e w1 ⟨rfl, rfl⟩
    go_wp2_with fail
    go_ret
    exact ⟨rfl, rfl⟩
set_option maxHeartbeats 1000000 in
theorem conjoined_any (B : Nat) (v : Value) (xs : List ByteArray) (w : World) (hv : Strs B w v xs) (hn : xs.length ≤ 1000000) (hlen : (Lib.join (xs.map fun x => x.data.toList) [32]).length ≤ 140737488355328) :
    Calls Tryz.prog 69 #[v] w fun e w' => e = .returned (.string (joinedB xs)) ∧ Below w.heap.size w w' := by
  by_cases h : xs = []
  · subst h
    obtain ⟨A, c, rfl, hc, hc2, hcell⟩ := hv.form
    have t1 : (((List.length ([] : List ByteArray) : Nat) : Int) == 0) = true := rfl
    clear hcell hv
    simp only [List.length_nil] at *
    go_enter Tryz.func69, Tryz.ntmps69
    go_wp2_with fail
    go_ret
    exact ⟨rfl, Below.refl _ _⟩
  · have hj : joinedB xs = ⟨(Lib.join (xs.map fun x => x.data.toList) [32]).toArray⟩ := if_neg h
    have hpos : 0 < xs.length := by
      cases xs with
      | nil => exact absurd rfl h
      | cons a l => simp
    obtain ⟨A, c, rfl, hc, hc2, hcell⟩ := hv.form
    obtain ⟨x0, hx0, _⟩ := getElem?_of_lt hpos
    obtain ⟨b, o, rfl, hb, _⟩ := hcell 0 x0 hx0
    have HJ := Tryz.strings_Join b o c xs ⟨#[32]⟩ w (fun j x hx => by
      obtain ⟨b', o', e, _, hc'⟩ := hcell j x hx
      injection e with e
      injection e with e1 e2
      subst e1; subst e2
      exact hc') hb (by omega) hc hlen
    have HJ2 := Lib.hid HJ
    have t1 : ((xs.length : Int) == 0) = false := by rw [beq_eq_false_iff_ne]; omega
    rw [hj]
    clear HJ hcell hv hj h hx0 hlen
    go_enter Tryz.func69, Tryz.ntmps69
    go_wp2_with fail
    refine HJ2.out.mono ?_
    rintro e w1 ⟨rfl, hb1⟩
    go_wp2_with fail
    go_ret
    exact ⟨rfl, hb1⟩
/-! ### a session -/
/-- A session, and the store behind it, which has done k acts. -/
structure SesC (B : Nat) (W : World) (x k : Nat) (c : Chip) (s : SM) : Prop where
  ex : ∃ p q F, Blk W x 46 #[.pointer (some ⟨p, 0, none⟩), .pointer (some ⟨q, 0, none⟩)] ∧ StS B W q p k 0 c s F
  base : B ≤ x
theorem SesC.below {B x k : Nat} {w w' : World} {c : Chip} {s : SM} (h : SesC B w x k c s) (hb : Below w.heap.size w w') : SesC B w' x k c s := by
  obtain ⟨⟨p, q, F, h1, h2⟩, h3⟩ := h
  exact ⟨⟨p, q, F, h1.below hb h1.lt, h2.below hb⟩, h3⟩
theorem SesC.up {B x k : Nat} {w : World} {c : Chip} {s : SM} (h : SesC B w x k c s) : SesC B w x (k + 1) c s := by
  obtain ⟨⟨p, q, F, h1, h2⟩, h3⟩ := h
  exact ⟨⟨p, q, F, h1, h2.st, h2.ch, h2.ok.up⟩, h3⟩
theorem SesC.good {B x k : Nat} {w : World} {c : Chip} {s : SM} (h : SesC B w x k c s) : Good k 0 c s := by
  obtain ⟨⟨p, q, F, h1, h2⟩, h3⟩ := h
  exact h2.ok
theorem ses_apart {B x q p k j : Nat} {W : World} {c : Chip} {s : SM} {F : List Nat} {cs : Array Value} (hb : Blk W x 46 cs) (hs : StS B W q p k j c s F) : ∀ b ∈ q :: p :: F, b ≠ x := by
  intro b hm e
  subst e
  rcases List.mem_cons.1 hm with rfl | hm
  · obtain ⟨A1, c1, A2, c2, t, n, h1, _⟩ := hs.st
    exact blk_ne hb h1 (by decide)
  rcases List.mem_cons.1 hm with rfl | hm
  · obtain ⟨V, u, hv, _⟩ := hs.ch
    exact blk_ne hb hv.blk (by decide)
  · obtain ⟨A1, c1, A2, c2, t, n, _, _, _, h4, _⟩ := hs.st
    exact h4.type hb (by decide) (by decide) hm
/-- What the store does leaves the session. -/
theorem SesC.of_post {B x q p k k' n : Nat} {w w' : World} {c c' : Chip} {s s' : SM} {F : List Nat} {e : Ending} (hx : B ≤ x) (hb : Blk w x 46 #[.pointer (some ⟨p, 0, none⟩), .pointer (some ⟨q, 0, none⟩)])
    (hs : StS B w q p k 0 c s F) (h : SPost B q p F w (c', s', n) e w') (hg : Good k' 0 c' s') : SesC B w' x k' c' s' ∧ Fr B AnyB w w' := by
  obtain ⟨F', h1, _, hf⟩ := StS.post (k := k) (j := 0) (c := c) (s := s) h hg
  exact ⟨⟨⟨p, q, F', hb.fr hf (.inr (.inl fun hm => ses_apart hb hs x hm rfl)), h1⟩, hx⟩, hf.mono fun _ _ _ => trivial⟩
set_option maxHeartbeats 2000000 in
theorem conopen_any (B x k p : Nat) (v1 : Value) (c : Chip) (s : SM) (w : World) (hx : B ≤ x) (hb : Blk w x 46 #[.pointer (some ⟨p, 0, none⟩), v1]) (hc : ChipR B w p c) (hg : Good k 0 c s) :
    Calls Tryz.prog 11 #[.pointer (some ⟨x, 0, none⟩)] w fun e w' => e = .returned .nilIface ∧ SesC B w' x k c s ∧ Fr B AnyB w w' := by
  have HOP := Lib.hid (open_any B p c s w hc hg.inv)
  have HB := Lib.hid hb
  have HC := Lib.hid hc
  have HG := Lib.hid hg
  have x0 := hb.cell 0
  simp at x0
  clear hb hc hg
  go_enter Tryz.func11, Tryz.ntmps11
  go_wp2_with fail
  refine HOP.out.mono ?_
  rintro e w1 ⟨q, F, rfl, hs1, hb1, hq1, hF1⟩
  have HB1 := HB.out.below hb1 HB.out.lt
  have hst : StS B w1 q p k 0 c s F := ⟨hs1, HC.out.below hb1, HG.out⟩
  have hap := ses_apart HB1 hst
  have hfs : Fr B (fun b => b = x) w1 (w1.setCell ⟨x, 1, none⟩ (.pointer (some ⟨q, 0, none⟩))) :=
    (Fr.refl B (fun b => b = x) w1).setCell (p := ⟨x, 1, none⟩) hx (.inl rfl) (fun _ => ⟨_, _, _, HB1, by decide⟩) _
  have hst2 : StS B (w1.setCell ⟨x, 1, none⟩ (.pointer (some ⟨q, 0, none⟩))) q p k 0 c s F :=
    ⟨hst.st.fr hfs fun b hb e => hap b (by rcases List.mem_cons.1 hb with h1 | h1 <;> simp [h1]) e, hst.ch.keep hfs fun e => hap p (by simp) e, hst.ok⟩
  have hb2 : Blk (w1.setCell ⟨x, 1, none⟩ (.pointer (some ⟨q, 0, none⟩))) x 46 #[.pointer (some ⟨p, 0, none⟩), .pointer (some ⟨q, 0, none⟩)] := HB1.set_ 1 _
  have FIN : Hid (SesC B (w1.setCell ⟨x, 1, none⟩ (.pointer (some ⟨q, 0, none⟩))) x k c s ∧ Fr B AnyB w (w1.setCell ⟨x, 1, none⟩ (.pointer (some ⟨q, 0, none⟩)))) :=
    ⟨⟨⟨p, q, F, hb2, hst2⟩, hx⟩, (Fr.of_below (B := B) (M := AnyB) hb1).trans (hfs.mono fun _ _ _ => trivial) (fun _ _ => trivial)⟩
  have y1 := HB1.cell 1
  have y2 := HB1.frozen 1
  simp at y1 y2
  clear hs1 hb1 hq1 hF1 HB1 hst hap hfs hst2 hb2 HB HC HG HOP x0
  go_wp2_with fail
  go_ret
  exact ⟨rfl, FIN.out⟩
set_option maxHeartbeats 2000000 in
theorem conwrite_any (B x k : Nat) (c : Chip) (s : SM) (t : ByteArray) (w : World) (ht : t.size ≤ 1000000) (hk : k ≤ 1000) (hB : B ≤ w.heap.size) (hl : LibW B w) (h : SesC B w x k c s) :
    Calls Tryz.prog 27 #[.pointer (some ⟨x, 0, none⟩), .string t] w fun e w' => e = .returned (.string (conM c s (.write t)).2.2) ∧ SesC B w' x (k + 1) (conM c s (.write t)).1 (conM c s (.write t)).2.1 ∧ Fr B AnyB w w' := by
  have HP := Lib.hid (bparse_any B t w ht hl.maxl)
  have HS := Lib.hid h
  clear h hl
  go_enter Tryz.func27, Tryz.ntmps27
  go_wp2_with fail
  refine HP.out.mono ?_
  rintro e w1 ⟨v, rfl, hv, hb1⟩
  have HS1 := Lib.hid (HS.out.below hb1)
  have HF1 := Lib.hid (Fr.of_below (B := B) (M := AnyB) hb1)
  by_cases h0 : ofF t = 0
  · have he : errV (ofF t) = .nilIface := by rw [h0]; rfl
    have hM : conM c s (.write t) = ((writeM c s (ofL t)).1, (writeM c s (ofL t)).2.1, doneB (writeM c s (ofL t)).2.2) := by unfold conM; simp only [if_pos h0]
    rw [he]
    obtain ⟨c', s', ew, g, _⟩ := write_good HS1.out.good hk (ofL t)
    rw [ew] at hM
    have HMM := Lib.hid hM
    obtain ⟨⟨p, q, F, hx, hst⟩, hxB⟩ := HS1.out
    have hw := write_any B q p c s F v (ofL t) w1 hst.st hst.ch hst.ok.inv hv (by have := hst.ok.ep; omega)
    rw [ew] at hw
    have HW : Hid (Calls Tryz.prog 56 #[.pointer (some ⟨q, 0, none⟩), v] w1 fun e w' => e = .returned (errV (checkR s.rows (ofL t))) ∧ SesC B w' x (k + 1) c' s' ∧ Fr B AnyB w1 w') :=
      hw.mono fun e w' hp => ⟨hp.1, SesC.of_post hxB hx hst hp g⟩
    have x1 := hx.cell 1
    simp at x1
    have hn := checkR_lt s.rows (ofL t)
    generalize checkR s.rows (ofL t) = n at *
    have HD := Lib.hid (condone_any n hn)
    clear he hM ew g hx hst hw hn h0 hv hb1
    go_wp2_with fail
    refine HW.out.mono ?_
    rintro e w2 ⟨rfl, hs2, hf2⟩
    have HFIN := Lib.hid (And.intro hs2 (HF1.out.trans hf2 (fun _ _ => trivial)))
    clear hs2 hf2 x1
    go_wp2_with fail
    refine (HD.out _).mono ?_
    rintro e w3 ⟨rfl, rfl⟩
    go_wp2_with fail
    go_ret
    rw [HMM.out]
    exact ⟨rfl, HFIN.out⟩
  · have hM : conM c s (.write t) = (c, s, errB 4) := by unfold conM; simp only [if_neg h0]
    have h4 : ofF t = 4 := by unfold ofF at h0 ⊢; split <;> rename_i h <;> simp [h] at h0 ⊢
    have he : errV (ofF t) = .iface 39 (.int .i64 4) := by rw [h4]; rfl
    have HD := Lib.hid (condone_any 4 (by decide))
    rw [show errV 4 = .iface 39 (.int .i64 4) from rfl, show doneB 4 = errB 4 from rfl] at HD
    rw [he]
    have HMM := Lib.hid hM
    clear he hM h0 h4 hv hb1
    go_wp2_with fail
    refine (HD.out _).mono ?_
    rintro e w3 ⟨rfl, rfl⟩
    go_wp2_with fail
    go_ret
    rw [HMM.out]
    exact ⟨rfl, HS1.out.up, HF1.out⟩
set_option maxHeartbeats 2000000 in
theorem conget_any (B x k : Nat) (c : Chip) (s : SM) (key : ByteArray) (w : World) (ht : key.size ≤ 1000000) (h : SesC B w x k c s) :
    Calls Tryz.prog 29 #[.pointer (some ⟨x, 0, none⟩), .string key] w fun e w' => e = .returned (.string (conM c s (.get key)).2.2) ∧ Below w.heap.size w w' := by
  obtain ⟨⟨p, q, F, hx, hst⟩, hxB⟩ := h
  have HG := Lib.hid (get_st hst key (by omega))
  have x1 := hx.cell 1
  simp at x1
  have hsz : ∀ e, getE s.rows key = some e → e.v.size ≤ 16 := fun e he => (faultE_zero (con_rowsf hst.ok.inv e (List.mem_of_find?_eq_some he))).2.2.2
  have HM : Hid ((conM c s (.get key)).2.2 = if (getE s.rows key).isSome then bq ++ ((getE s.rows key).getD Ent.zero).v else errB 5) := rfl
  have HF := Lib.hid (confault_any 5 (by decide))
  clear hx hst
  generalize getE s.rows key = o at *
  go_enter Tryz.func29, Tryz.ntmps29
  go_wp2_with fail
  refine HG.out.mono ?_
  rintro e w1 ⟨rfl, _, hb1⟩
  have HB1 := Lib.hid hb1
  clear hb1 x1 HG
  cases o with
  | none =>
    simp only [Option.isSome_none, Option.getD_none] at *
    go_wp2_with fail
    refine (HF.out _).mono ?_
    rintro e w3 ⟨rfl, rfl⟩
    go_wp2_with fail
    go_ret
    exact ⟨by rw [HM.out]; rfl, HB1.out⟩
  | some y =>
    have hy := hsz y rfl
    have s2 : ((⟨#[61]⟩ : ByteArray) ++ y.v).size = 1 + y.v.size := by rw [ByteArray.size_append]; rfl
    simp only [Option.isSome_some, Option.getD_some] at *
    clear hsz
    go_wp2_with fail
    go_ret
    exact ⟨by rw [HM.out]; rfl, HB1.out⟩
end Go.Proofs.YtaepdbkfaoiimabGreatDoor
/- The console: numbers, rows, words alone. Conditions: as in ConP. -/
set_option linter.unusedVariables false
set_option linter.unusedSimpArgs false
set_option linter.unnecessarySimpa false
namespace Go.Proofs.YtaepdbkfaoiimabGreatDoor
open Go.RowKit
attribute [local go_sem ↓] eql_err eql_nilerr neq_err neq_nilerr guard_err guard_nilerr guardn_err guardn_nilerr
theorem join_len {m : Nat} (xs : List (List UInt8)) (h : ∀ x ∈ xs, x.length ≤ m) : (Lib.join xs [32]).length ≤ (m + 1) * xs.length := by
  induction xs using snoc_ind with
  | h0 => exact Nat.zero_le _
  | h1 l x ih =>
    have h1 := ih fun y hy => h y (by simp [hy])
    have h2 := h x (by simp)
    by_cases hl : l = []
    · subst hl
      rw [List.nil_append, Lib.join_one]
      simp; omega
    · rw [join_snoc _ _ _ hl]
      simp only [List.length_append, List.length_cons, List.length_nil]
      rw [Nat.mul_add]
      omega
/-! ### numbers -/
theorem atoi_range {l : List UInt8} {v : Int} (h : Lib.atoiAll l = .ok v) : -9223372036854775808 ≤ v ∧ v ≤ 9223372036854775807 := by
  unfold Lib.atoiAll at h
  split at h
  · cases h
  · simp only at h
    split at h
    · cases h
    · cases h
    · split at h
      · cases h
      · split at h
        · cases h
        · injection h with h
          subst h
          split <;> omega
theorem below_bytes (w : World) (e : TypeId) (t : ByteArray) : Below w.heap.size w (Lib.bytesWorld w e t) := Go.Joins.below_bytesWorld _ _ _ _ (Nat.le_refl _)
theorem atoi_any (B : Nat) (t : ByteArray) (w : World) (ht : t.size ≤ 1000000) (hl : LibW B w) :
    Calls Tryz.prog 31 #[.string t] w fun e w' => ∃ n ev, e = .returned (.tuple #[.int .i64 n, ev]) ∧ Below w.heap.size w w' ∧
      ((ev = .nilIface ∧ Lib.atoiAll t.data.toList = .ok n) ∨ ((∃ T p, ev = .iface T (.pointer p)) ∧ natM t = none)) := by
  cases h : Lib.atoiAll t.data.toList with
  | ok v =>
    refine (Tryz.strconv_Atoi_ok t (by omega) v h w).mono ?_
    rintro e w' ⟨rfl, hw⟩
    refine ⟨v, .nilIface, rfl, ?_, .inl ⟨rfl, rfl⟩⟩
    rcases hw with rfl | ⟨u, rfl⟩
    · exact Below.refl _ _
    · exact below_bytes _ _ _
  | range =>
    obtain ⟨ev, hv, hev⟩ := hl.rng
    refine (Tryz.strconv_Atoi_range t (by omega) h ev w hv hev).mono ?_
    rintro e w' ⟨N, rfl, _, _, hb⟩
    exact ⟨_, _, rfl, hb, .inr ⟨⟨_, _, rfl⟩, natM_bad fun v => by rw [h]; simp⟩⟩
  | _ =>
    obtain ⟨ev, hv, hev⟩ := hl.syn
    refine (Tryz.strconv_Atoi_syntax t (by omega) h ev w hv hev).mono ?_
    rintro e w' ⟨N, rfl, _, _, hb⟩
    exact ⟨_, _, rfl, hb, .inr ⟨⟨_, _, rfl⟩, natM_bad fun v => by rw [h]; simp⟩⟩
theorem below_grow (w : World) (n : Nat) (os : Array Obj) : Below w.heap.size w (Sort.grow (w.drewN n) os) :=
  ⟨rfl, rfl, rfl, by show w.heap.size ≤ (w.heap ++ os).size; rw [Array.size_append]; omega, fun k hk => by
    show (w.heap ++ os)[k]? = _
    rw [Array.getElem?_append_left hk]⟩
theorem itoa_any (B : Nat) (n : Int) (w : World) (h0 : -9223372036854775808 ≤ n) (h1 : n ≤ 9223372036854775807) (hl : LibW B w) :
    Calls Tryz.prog 32 #[.int .i64 n] w fun e w' => e = .returned (.string (itoaB n)) ∧ Below w.heap.size w w' := by
  refine (Tryz.strconv_Itoa n h0 h1 w hl.tab).mono ?_
  rintro e w' ⟨rfl, k, os, rfl⟩
  exact ⟨rfl, below_grow w k os⟩
/-! ### rows -/
theorem pair_size {e : Ent} (h : faultE e = 0) : (pairB e).size ≤ 25 := by
  have hz := (faultE_zero h).2.2
  unfold pairB
  rw [ByteArray.size_append, ByteArray.size_append, show bq.size = 1 from rfl]
  omega
theorem pairs_len {l : List Ent} (h : ∀ e ∈ l, faultE e = 0) : (Lib.join ((l.map pairB).map fun x => x.data.toList) [32]).length ≤ 26 * l.length := by
  have := join_len (m := 25) ((l.map pairB).map fun x => x.data.toList) (by
    intro x hx
    obtain ⟨y, hy, rfl⟩ := List.mem_map.1 hx
    obtain ⟨e, he, rfl⟩ := List.mem_map.1 hy
    show (pairB e).data.toList.length ≤ 25
    rw [Array.length_toList]
    exact pair_size (h e he))
  simpa using this
theorem page_sub {r : List Ent} {a : ByteArray} {n : Nat} : ∀ e ∈ pageM r a n, e ∈ r := fun e he => (List.mem_filter.1 (List.mem_of_mem_take he)).1
theorem page_len (r : List Ent) (a : ByteArray) (n : Nat) : (pageM r a n).length ≤ r.length := by
  unfold pageM
  have := List.length_filter_le (fun e => ltB a e.k) r
  rw [List.length_take]
  omega
set_option maxRecDepth 20000 in
set_option maxHeartbeats 4000000 in
theorem conrows_any (B x k : Nat) (c : Chip) (s : SM) (after : ByteArray) (many : Int) (w : World) (h : SesC B w x k c s) :
    Calls Tryz.prog 33 #[.pointer (some ⟨x, 0, none⟩), .string after, .int .i64 many] w fun e w' => e = .returned (.string (toldB (pageM s.rows after many.toNat))) ∧ Below w.heap.size w w' := by
  obtain ⟨⟨p, q, F, hx, hst⟩, hxB⟩ := h
  have HP := Lib.hid (spage_any B q p k 0 c s F after many w hst)
  have x1 := hx.cell 1
  simp at x1
  have HFA : Hid (∀ e ∈ pageM s.rows after many.toNat, faultE e = 0) := fun e he => con_rowsf hst.ok.inv e (page_sub e he)
  have hlen : (pageM s.rows after many.toNat).length ≤ 40 := Nat.le_trans (page_len _ _ _) hst.ok.inv.body.rows
  clear hx hst
  unfold toldB
  generalize pageM s.rows after many.toNat = l at *
  go_enter Tryz.func33, Tryz.ntmps33
  go_wp2_with fail
  refine HP.out.mono ?_
  rintro e w1 ⟨v, rfl, hv, hb1⟩
  obtain ⟨A, cp, rfl, hc, hc2, hcell⟩ := hv.form
  have HC := Lib.hid hcell
  have HB1 := Lib.hid hb1
  clear hcell hv hb1 HP x1
  go_wp2_with fail
  go_loopw [9, 28] (fun u i wr => ∃ n : Nat, n ≤ l.length ∧ i = .int .i64 n ∧ Hid (wr.ownsRow w1.heap.size 9 1 u n (((l.take n).map pairB).map .string)) ∧ Below w1.heap.size w1 wr) (fun _ i _ => l.length - (intOf i).toNat)
  case atStart => exact ⟨0, Nat.zero_le _, rfl, World.ownsRow_nil _ _ _ _, Below.refl _ _⟩
  case round =>
    obtain ⟨n, hn, rfl, hown, hbl⟩ := hrel
    by_cases hlt : n < l.length
    · obtain ⟨y, hy, htk, _⟩ := getElem?_of_lt hlt
      obtain ⟨b, o, rfl, hb, c1, c2, c3⟩ := HC.out n y hy
      have d1 := (hbl.cell (p := ⟨b, o + n * 3, none⟩) hb).trans c1
      have d2 := (hbl.cell (p := ⟨b, o + n * 3 + 1, none⟩) hb).trans c2
      have d3 := (hbl.cell (p := ⟨b, o + n * 3 + 2, none⟩) hb).trans c3
      have hz := (faultE_zero (HFA.out y (List.mem_of_getElem? hy))).2.2
      have z1 := hz.1
      have z2 := hz.2
      have HT : Hid (((l.take (n + 1)).map pairB).map Value.string = ((l.take n).map pairB).map Value.string ++ [.string (pairB y)]) := by rw [Hid, htk]; simp
      clear htk hy c1 c2 c3 hz
      obtain ⟨i0, hi, hz0, hz1, hz2⟩ := info_parts info_strS
      have HI := Lib.hid hi
      have Z0 := Lib.hid hz0
      have Z1 := Lib.hid hz1
      have Z2 := Lib.hid hz2
      clear hi hz0 hz1 hz2
      have hbs := hbl.size
      have hownA : Hid (∀ cs : ByteArray, ((wr.alloc (.cells #[.string y.k, .string y.v, .bool y.g] 56)).alloc (.cells #[.string cs] 9)).ownsRow w1.heap.size 9 1 u9 n (((l.take n).map pairB).map .string)) := fun cs => own_alloc (own_alloc hown.out _) _
      have hbA : Hid (∀ cs : ByteArray, Below w1.heap.size w1 ((wr.alloc (.cells #[.string y.k, .string y.v, .bool y.g] 56)).alloc (.cells #[.string cs] 9))) := fun cs => (hbl.alloc hbs _).alloc (by simp; omega) _
      have HL : Hid (∀ cs : ByteArray, Rd B 9 1 ((wr.alloc (.cells #[.string y.k, .string y.v, .bool y.g] 56)).alloc (.cells #[.string cs] 9)) (.slice (some ⟨wr.heap.size + 1, 0, none⟩) 1 1) 1 [.string cs]) := fun cs => rd_lit1S B _ _ (by simp) cs
      have s1 : (y.k ++ (⟨#[61]⟩ : ByteArray)).size = y.k.size + 1 := by rw [ByteArray.size_append]; rfl
      go_wp2_with (at_builtin; go_loud (refine wpList_append_rd _ rfl (.tmp 32) (.tmp 39) 22 rfl w1.heap.size 9 i0 _ 1 16 Tryz.underlying22 HI.out Z0.out Z1.out Z2.out rfl (by decide) u9 _ _ rfl (hownA.out _) B 9 _ 1 _ rfl (HL.out _) (by simp [Value.oneCell']) (by unfold maxLen; omega) (by omega) (by simp; omega) ?_); intro v1 w5 hown1 hg1 hat1)
      have hb5 := below_own (hbA.out _) (Nat.le_refl _) (hownA.out _) hg1
      have hown2 : Hid (w5.ownsRow w1.heap.size 9 1 v1 (n + 1) (((l.take (n + 1)).map pairB).map .string)) := by
        rw [Hid, HT.out]; exact hown1
      clear hg1 hat1 hown1
      go_roundw
      case rel => exact ⟨n + 1, by omega, by go_num, hown2, hb5⟩
      case measure => simp [intOf] <;> omega
    · have hge : n = l.length := by omega
      subst hge
      rw [List.take_length] at hown
      have hstrs : Strs B wr u9 (l.map pairB) := ⟨by have := Rd.of_own (B := B) hown.out; rw [List.length_map]; exact this, fun z hz => by
        obtain ⟨e, he, rfl⟩ := List.mem_map.1 hz
        have := pair_size (HFA.out e he)
        omega⟩
      have HJ := Lib.hid (conjoined_any B u9 (l.map pairB) wr hstrs (by rw [List.length_map]; omega) (by have := pairs_len HFA.out; omega))
      have HB2 := Lib.hid (HB1.out.trans (hbl.mono HB1.out.size))
      clear hstrs hown hbl
      go_wp2_with fail
      refine HJ.out.mono ?_
      rintro e w6 ⟨rfl, hb6⟩
      have HB6 := Lib.hid (HB2.out.trans (hb6.mono HB2.out.size))
      go_wp2_with fail
      go_ret
      exact ⟨rfl, HB6.out⟩
def cmdN (w0 w1 : ByteArray) : Cmd := if w0.toList = kRestart then (match natM w1 with | some n => .restart n | none => .bad) else .bad
def Cmd.good : Cmd → Bool
  | .bad => false
  | _ => true
theorem cmdN_no {w0 w1 : ByteArray} (h : natM w1 = none) : cmdN w0 w1 = .bad := by
  unfold cmdN
  rw [h]
  split <;> rfl
theorem cmdN_far {w0 w1 : ByteArray} (h : w0.toList ≠ kRestart) : cmdN w0 w1 = .bad := if_neg h
theorem cmdN_yes {w0 w1 : ByteArray} {n : Nat} (h : w0.toList = kRestart) (hn : natM w1 = some n) : cmdN w0 w1 = .restart n := by
  unfold cmdN
  rw [if_pos h, hn]
end Go.Proofs.YtaepdbkfaoiimabGreatDoor
/- The console: blocks. Conditions: as in ConP; at most 80 acts were done. -/
set_option linter.unusedVariables false
set_option linter.unusedSimpArgs false
set_option linter.unnecessarySimpa false
namespace Go.Proofs.YtaepdbkfaoiimabGreatDoor
open Go.RowKit
attribute [local go_sem ↓] eql_err eql_nilerr neq_err neq_nilerr guard_err guard_nilerr guardn_err guardn_nilerr
theorem itoaB_size {n : Int} (h0 : 0 ≤ n) (h1 : n < 1000) : (itoaB n).size ≤ 3 := by
  obtain ⟨m, rfl⟩ := Int.eq_ofNat_of_zero_le h0
  unfold itoaB
  rw [itoa_dig3 (by omega)]
  show (dig3 m).toArray.size ≤ 3
  unfold dig3
  repeat' split
  all_goals simp
theorem spread_rng {c : Chip} {X : Int} (hX : 0 ≤ X) (hw : ∀ i, 2 ≤ i → 0 ≤ (c.b i).wear ∧ (c.b i).wear ≤ X) : ∀ n, -1 ≤ (spreadM c n).1 ∧ (spreadM c n).1 ≤ X ∧ 0 ≤ (spreadM c n).2 ∧ (spreadM c n).2 ≤ X
  | 0 => by simp only [spreadM]; omega
  | n + 1 => by
    obtain ⟨h1, h2, h3, h4⟩ := spread_rng hX hw n
    have h5 := hw (n + 2) (by omega)
    rw [spreadM]
    split
    · exact ⟨h1, h2, h3, h4⟩
    · simp only
      refine ⟨?_, ?_, ?_, ?_⟩
      · split <;> omega
      · split <;> omega
      · omega
      · omega
theorem blk_rowed {w : World} {g : Nat} {T : TypeId} {old : Array Value} (h : Blk w g T old) (cs : Array Value) : Blk (w.setRow g cs) g T cs := by
  unfold Blk at h ⊢
  simp [World.setRow, Array.getElem?_modify, h]
theorem below_rowed {B g : Nat} {w0 w : World} (h : Below B w0 w) (hB : B ≤ g) (x : Array Value) : Below B w0 (w.setRow g x) :=
  ⟨h.os, h.tape, h.output, by simpa [World.setRow] using h.size, fun k hk => by
    have : (w.setRow g x).heap[k]? = w.heap[k]? := by
      simp [World.setRow, Array.getElem?_modify]
      intro e; omega
    rw [this]
    exact h.block k hk⟩
theorem rd_lit3S (B : Nat) (w : World) (g : Nat) (hg : w.heap.size = g) (a b c : ByteArray) : Rd B 9 1 (w.alloc (.cells #[.string a, .string b, .string c] 9)) (.slice (some ⟨g, 0, none⟩) 3 3) 3 [.string a, .string b, .string c] := by
  subst hg
  have hb := Blk.new w 9 #[.string a, .string b, .string c]
  refine ⟨rfl, _, _, rfl, Nat.le_refl _, by omega, fun _ => ⟨_, _, rfl, .inr ⟨_, _, hb⟩, hb.lt, fun j u hu => ?_⟩⟩
  rw [hb.cell]
  match j, hu with
  | 0, hu => exact hu
  | 1, hu => exact hu
  | 2, hu => exact hu
def cntB (f : Nat → Int) (n : Nat) : List ByteArray := (List.range n).map fun i : Nat => itoaB ((countK f (i : Int) 24 : Nat) : Int)
theorem cntB_succ (f : Nat → Int) (n : Nat) : cntB f (n + 1) = cntB f n ++ [itoaB ((countK f (n : Int) 24 : Nat) : Int)] := by unfold cntB; rw [List.range_succ, List.map_append]; rfl
set_option maxRecDepth 20000 in
set_option maxHeartbeats 8000000 in
theorem conblocks_any (B x k : Nat) (c : Chip) (s : SM) (w : World) (hk : k ≤ 80) (hB : B ≤ w.heap.size) (hl : LibW B w) (h : SesC B w x k c s) :
    Calls Tryz.prog 58 #[.pointer (some ⟨x, 0, none⟩)] w fun e w' => e = .returned (.string (blocksB c s)) ∧ Below w.heap.size w w' := by
  obtain ⟨⟨p, q, F, hx, hst⟩, hxB⟩ := h
  have HOF := Lib.hid (fun W (hW : Below w.heap.size w W) => sof_any (hst.below hW))
  have HSP := Lib.hid (fun W (hW : Below w.heap.size w W) => spread_any B p c W (hst.ch.below hW) (fun i hi => (hst.ok.wear i hi).1))
  have hsr := spread_rng (c := c) (X := 1 + 12 * (k : Int)) (by omega) hst.ok.wear 22
  have x0 := hx.cell 0
  have x1 := hx.cell 1
  simp at x0 x1
  have HX := Lib.hid hx
  have HL := Lib.hid hl
  have HBL : Hid (blocksB c s = joinedB (cntB (kindM c s.m) 6 ++ [txWear, itoaB (max (spreadM c 22).1 0), itoaB (spreadM c 22).2])) := rfl
  have ha0 : 0 ≤ max (spreadM c 22).1 0 := by omega
  have ha1 : max (spreadM c 22).1 0 < 1000 := by omega
  have hc0 : 0 ≤ (spreadM c 22).2 := by omega
  have hc1 : (spreadM c 22).2 < 1000 := by omega
  generalize max (spreadM c 22).1 0 = sa at *
  generalize (spreadM c 22).2 = sb at *
  generalize kindM c s.m = f at *
  have hS0 : w.drew.cell? ⟨x, 0, none⟩ = some (.pointer (some ⟨p, 0, none⟩)) ∧ w.drew.cell? ⟨x, 1, none⟩ = some (.pointer (some ⟨q, 0, none⟩)) ∧ Below w.heap.size w w.drew := ⟨x0, x1, (Below.refl _ _).drew⟩
  have HKEEP : Hid (∀ W, Below w.heap.size w W → W.cell? ⟨x, 0, none⟩ = some (.pointer (some ⟨p, 0, none⟩)) ∧ W.cell? ⟨x, 1, none⟩ = some (.pointer (some ⟨q, 0, none⟩)) ∧ Below w.heap.size w W) := fun W hW => ⟨(hW.cell (cell_lt x0)).trans x0, (hW.cell (cell_lt x1)).trans x1, hW⟩
  have HZ0 : Hid (arr24 (fun _ => 0) = #[.int .i64 0, .int .i64 0, .int .i64 0, .int .i64 0, .int .i64 0, .int .i64 0, .int .i64 0, .int .i64 0, .int .i64 0, .int .i64 0, .int .i64 0, .int .i64 0, .int .i64 0, .int .i64 0, .int .i64 0, .int .i64 0, .int .i64 0, .int .i64 0, .int .i64 0, .int .i64 0, .int .i64 0, .int .i64 0, .int .i64 0, .int .i64 0]) := rfl
  have hi24 : (Tryz.prog.info? 145).map (·.size) = some (arr24 f).size := by rw [arr24_size]; kernel_rfl
  clear hx hl hst hsr x0 x1
  go_enter Tryz.func58, Tryz.ntmps58
  go_wp2_with fail
  refine wp_region_held_drew (S := fun w' => w'.cell? ⟨x, 0, none⟩ = some (.pointer (some ⟨p, 0, none⟩)) ∧ w'.cell? ⟨x, 1, none⟩ = some (.pointer (some ⟨q, 0, none⟩)) ∧ Below w.heap.size w w') (by kernel_rfl) hS0 (fun hHeld => ?_)
  refine wpAnyH_take (i := 0) (oi := ⟨some 8, _, _, _, _, _⟩) (v := .pointer (some ⟨x, 0, none⟩)) rfl (by kernel_rfl) (by kernel_rfl) (by kernel_rfl) (fun _ _ _ h => h) (Or.inl ⟨by rfl, ?_⟩) (by assumption) ?_
  · intro wS hSw
    obtain ⟨hS0, hS1, _⟩ := hSw
    go_simp
  simp only [Act.put, List.setIfInBounds_toArray, List.set_cons_zero, List.set_cons_succ]
  refine wpAnyH_take (i := 1) (oi := ⟨some 9, _, _, _, _, _⟩) (v := .pointer (some ⟨x, 0, none⟩)) rfl (by kernel_rfl) (by kernel_rfl) (by kernel_rfl) (fun _ _ _ h => h) (Or.inl ⟨by rfl, ?_⟩) (by assumption) ?_
  · intro wS hSw
    obtain ⟨hS0, hS1, _⟩ := hSw
    go_simp
  simp only [Act.put, List.setIfInBounds_toArray, List.set_cons_zero, List.set_cons_succ]
  refine wpAnyH_take (i := 2) (oi := ⟨some 10, _, _, _, _, _⟩) (v := .pointer (some ⟨x, 0, none⟩)) rfl (by kernel_rfl) (by kernel_rfl) (by kernel_rfl) (fun _ _ _ h => h) (Or.inl ⟨by rfl, ?_⟩) (by assumption) ?_
  · intro wS hSw
    obtain ⟨hS0, hS1, _⟩ := hSw
    go_simp
  simp only [Act.put, List.setIfInBounds_toArray, List.set_cons_zero, List.set_cons_succ]
  refine wpAnyH_take (i := 3) (oi := ⟨some 11, _, _, _, _, _⟩) (v := .pointer (some ⟨p, 0, none⟩)) rfl (by kernel_rfl) (by kernel_rfl) (by kernel_rfl) (fun _ _ _ h => h) (Or.inl ⟨by rfl, ?_⟩) (by assumption) ?_
  · intro wS hSw
    obtain ⟨hS0, hS1, _⟩ := hSw
    go_simp
  simp only [Act.put, List.setIfInBounds_toArray, List.set_cons_zero, List.set_cons_succ]
  refine wpAnyH_take (i := 4) (oi := ⟨some 12, _, _, _, _, _⟩) (v := .pointer (some ⟨x, 0, none⟩)) rfl (by kernel_rfl) (by kernel_rfl) (by kernel_rfl) (fun _ _ _ h => h) (Or.inl ⟨by rfl, ?_⟩) (by assumption) ?_
  · intro wS hSw
    obtain ⟨hS0, hS1, _⟩ := hSw
    go_simp
  simp only [Act.put, List.setIfInBounds_toArray, List.set_cons_zero, List.set_cons_succ]
  refine wpAnyH_take (i := 5) (oi := ⟨some 13, _, _, _, _, _⟩) (v := .pointer (some ⟨x, 0, none⟩)) rfl (by kernel_rfl) (by kernel_rfl) (by kernel_rfl) (fun _ _ _ h => h) (Or.inl ⟨by rfl, ?_⟩) (by assumption) ?_
  · intro wS hSw
    obtain ⟨hS0, hS1, _⟩ := hSw
    go_simp
  simp only [Act.put, List.setIfInBounds_toArray, List.set_cons_zero, List.set_cons_succ]
  refine wpAnyH_take (i := 6) (oi := ⟨some 14, _, _, _, _, _⟩) (v := .pointer (some ⟨x, 1, none⟩)) rfl (by kernel_rfl) (by kernel_rfl) (by kernel_rfl) (fun _ _ _ h => h) (Or.inl ⟨by rfl, ?_⟩) (by assumption) ?_
  · intro wS hSw
    obtain ⟨hS0, hS1, _⟩ := hSw
    go_simp
  simp only [Act.put, List.setIfInBounds_toArray, List.set_cons_zero, List.set_cons_succ]
  refine wpAnyH_take (i := 7) (oi := ⟨some 15, _, _, _, _, _⟩) (v := .pointer (some ⟨q, 0, none⟩)) rfl (by kernel_rfl) (by kernel_rfl) (by kernel_rfl) (fun _ _ _ h => h) (Or.inl ⟨by rfl, ?_⟩) (by assumption) ?_
  · intro wS hSw
    obtain ⟨hS0, hS1, _⟩ := hSw
    go_simp
  simp only [Act.put, List.setIfInBounds_toArray, List.set_cons_zero, List.set_cons_succ]
  refine wpAnyH_ready (rs := [8, 9]) (by kernel_rfl) (by simp) ?_
  refine AllReadyH.cons (o := ⟨some 16, _, _, _, _, _⟩) rfl (fun K hK => ?_) (AllReadyH.cons (o := ⟨some 3, _, _, _, _, _⟩) rfl (fun K hK => ?_) AllReadyH.nil)
  · go_simp
    refine (HOF.out _ (Below.refl _ _).drew).mono ?_
    rintro e w1 ⟨rfl, hb1⟩
    have hb01 : Below w.heap.size w w1 := (Below.refl w.heap.size w).drew.trans hb1
    refine hK.out _ _ (HKEEP.out _ hb01) (fun hHeld => ?_)
    clear hK K
    try simp only [Act.put, List.setIfInBounds_toArray, List.set_cons_zero, List.set_cons_succ]
    refine wpAnyH_ready (rs := [9]) (by kernel_rfl) (by simp) ?_
    refine AllReadyH.cons (o := ⟨some 3, _, _, _, _, _⟩) rfl (fun K hK => ?_) AllReadyH.nil
    go_simp
    refine hK.out _ _ (HKEEP.out _ (hb01.alloc hb01.size _)) (fun hHeld => ?_)
    clear hK K
    refine wpAnyH_ready (rs := [10]) (by kernel_rfl) (by simp) ?_
    refine AllReadyH.cons (o := ⟨none, _, _, _, _, _⟩) rfl (fun K hK => ?_) AllReadyH.nil
    rw [if_pos (by rfl)]
    refine wp_store_row 145 (.tmp 3) (.tmp 16) rfl w1.heap.size (arr24 f) rfl rfl 145 _ (heap_alloc_new _ _) hi24 (by rw [arr24_size]; rfl) (arr24_one _) ?_
    have HG : Hid (Blk ((w1.alloc (.cells (arr24 fun _ => 0) 145)).setRow w1.heap.size (arr24 f)) w1.heap.size 145 (arr24 f)) := blk_rowed (Blk.new w1 _ _) _
    have HBW : Hid (Below w.heap.size w ((w1.alloc (.cells (arr24 fun _ => 0) 145)).setRow w1.heap.size (arr24 f))) := below_rowed (hb01.alloc hb01.size _) hb01.size _
    refine hK.out _ _ (HKEEP.out _ HBW.out) (fun hHeld => ?_)
    clear hK K
    refine wpAnyH_done (by kernel_rfl) ?_ _
    have hgw := HG.out.lt
    have e0 : (w1.alloc (.cells #[.int .i64 0, .int .i64 0, .int .i64 0, .int .i64 0, .int .i64 0, .int .i64 0, .int .i64 0, .int .i64 0, .int .i64 0, .int .i64 0, .int .i64 0, .int .i64 0, .int .i64 0, .int .i64 0, .int .i64 0, .int .i64 0, .int .i64 0, .int .i64 0, .int .i64 0, .int .i64 0, .int .i64 0, .int .i64 0, .int .i64 0, .int .i64 0] 145)) = w1.alloc (.cells (arr24 fun _ => 0) 145) := rfl
    rw [e0]
    generalize (w1.alloc (.cells (arr24 fun _ => 0) 145)).setRow w1.heap.size (arr24 f) = W at *
    have hgB : w.heap.size ≤ w1.heap.size := hb01.size
    generalize w1.heap.size = g at *
    clear e0 hb01 hb1 hHeld hS0
    have HCO : Hid (∀ x W, Calls Tryz.prog 99 #[.agg (arr24 f), .int .i64 x] W fun e w' => e = .returned (.int .i64 (countK f x 24 : Nat)) ∧ Below W.heap.size W w') := fun x W => count_any f x W
    generalize arr24 f = cs at *
    obtain ⟨i0, hinf, hz0, hz1, hz2⟩ := info_parts info_strS
    have HI := Lib.hid hinf
    have Z0 := Lib.hid hz0
    have Z1 := Lib.hid hz1
    have Z2 := Lib.hid hz2
    have HLW : Hid (LibW B W) := HL.out.below (HBW.out.mono hB)
    have hBW : B ≤ W.heap.size := Nat.le_trans hB HBW.out.size
    clear hinf hz0 hz1 hz2
    go_wp2_with fail
    go_loopw [4, 5] (fun u i wr => ∃ n : Nat, n ≤ 6 ∧ i = .int .i64 (n : Int) ∧ Hid (wr.ownsRow W.heap.size 9 1 u n ((cntB f n).map .string)) ∧ Below W.heap.size W wr) (fun _ i _ => (6 - intOf i).toNat)
    case atStart => exact ⟨0, by omega, rfl, World.ownsRow_nil _ _ _ _, Below.refl _ _⟩
    case round =>
      obtain ⟨n, hn, rfl, hown, hbl⟩ := hrel
      have hbs := hbl.size
      have HLR : Hid (LibW B wr) := HLW.out.below (hbl.mono hBW)
      by_cases hlt : n < 6
      · have g1 : (n : Int) ≤ 5 := by omega
        have hcn := countK_le f n 24
        have hgr := HG.out.below hbl hgw
        have HC1 := Lib.hid (HCO.out n wr)
        have hs1 : Hid (cntB f (n + 1) = cntB f n ++ [itoaB ((countK f (n : Int) 24 : Nat) : Int)]) := cntB_succ f n
        have HBL1 := Lib.hid hbl
        have HO1 := hown
        clear hbl hown
        go_wp2_with (refine wpList_load_row rfl 145 _ rfl g rfl 145 cs (0, 0) _ hgr Tryz.underlying145 rfl hi24 ?_)
        refine HC1.out.mono ?_
        rintro e w5 ⟨rfl, hb5⟩
        have HI5 := Lib.hid (itoa_any B ((countK f (n : Int) 24 : Nat) : Int) w5 (by omega) (by omega) (HLR.out.below (hb5.mono (Nat.le_trans hBW HBL1.out.size))))
        have HB5 := Lib.hid (HBL1.out.trans (hb5.mono HBL1.out.size))
        have HO5 := Lib.hid (own_below HO1.out hb5)
        generalize itoaB ((countK f (n : Int) 24 : Nat) : Int) = T at *
        generalize countK f (n : Int) 24 = K5 at *
        clear hb5 HC1 hgr HO1
        go_wp2_with fail
        refine HI5.out.mono ?_
        rintro e w6 ⟨rfl, hb6⟩
        have hb6' := HB5.out.trans (hb6.mono HB5.out.size)
        have hownA := Lib.hid (own_alloc (own_below HO5.out hb6) (.cells #[.string T] 9))
        have hbA := Lib.hid (hb6'.alloc hb6'.size (.cells #[.string T] 9))
        have hbs6 := hb6'.size
        clear hb6 hb6' HI5
        go_wp2_with (at_builtin; go_loud (refine wpList_append_rd _ rfl (.tmp 21) (.tmp 26) 22 rfl W.heap.size 9 i0 _ 1 16 Tryz.underlying22 HI.out Z0.out Z1.out Z2.out rfl (by decide) u4 _ _ rfl hownA.out B 9 _ 1 _ rfl (rd_lit1S _ _ _ rfl _) (by simp [Value.oneCell']) (by unfold maxLen; omega) (by omega) (by simp; omega) ?_); intro v1 w7 hown1 hg1 hat1)
        have hb7 := below_own hbA.out (Nat.le_refl _) hownA.out hg1
        have hown2 : Hid (w7.ownsRow W.heap.size 9 1 v1 (n + 1) ((cntB f (n + 1)).map .string)) := by
          rw [Hid, hs1.out, List.map_append]; exact hown1
        clear hg1 hat1 hown1
        go_roundw
        case rel => exact ⟨n + 1, by omega, by go_num, hown2, hb7⟩
        case measure => simp [intOf] <;> omega
      · obtain rfl : n = 6 := by omega
        have hbw : Below w.heap.size w wr := HBW.out.trans (hbl.mono HBW.out.size)
        have HBWR := Lib.hid hbw
        have d0 := (HKEEP.out wr hbw).1
        have HS1 := Lib.hid (HSP.out wr hbw)
        have HBL1 := Lib.hid hbl
        have HO1 := hown
        have HIA := Lib.hid (itoa_any B sa wr (by omega) (by omega) HLR.out)
        have hcl : (cntB f 6).length = 6 := by simp [cntB]
        have HQA : Hid ((itoaB sa).size ≤ 3 ∧ (itoaB sb).size ≤ 3 ∧ ∀ z ∈ cntB f 6, z.size ≤ 3) := ⟨itoaB_size ha0 ha1, itoaB_size hc0 hc1, fun z hz => by
          unfold cntB at hz
          obtain ⟨i, _, rfl⟩ := List.mem_map.1 hz
          have := countK_le f i 24
          exact itoaB_size (by omega) (by omega)⟩
        have HIB : Hid (∀ w6, Below wr.heap.size wr w6 → Calls Tryz.prog 32 #[.int .i64 sb] w6 fun e w' => e = .returned (.string (itoaB sb)) ∧ Below w6.heap.size w6 w') := fun w6 h6 => itoa_any B sb w6 (by omega) (by omega) (HLR.out.below (h6.mono (Nat.le_trans hBW HBL1.out.size)))
        have HFI : Hid (blocksB c s = joinedB (cntB f 6 ++ [txWear, itoaB sa, itoaB sb])) := HBL
        generalize itoaB sa = ta at *
        generalize itoaB sb = tb at *
        clear hbl hown hbw HSP HBL
        go_wp2_with fail
        refine HS1.out.mono ?_
        rintro e w5 ⟨rfl, rfl⟩
        go_wp2_with fail
        refine HIA.out.mono ?_
        rintro e w6 ⟨rfl, hb6⟩
        have HB6 := Lib.hid hb6
        have HIB1 := Lib.hid (HIB.out w6 hb6)
        clear hb6 d0
        go_wp2_with fail
        refine HIB1.out.mono ?_
        rintro e w7 ⟨rfl, hb7⟩
        have hb67 := HB6.out.trans (hb7.mono HB6.out.size)
        have hb07 := HBL1.out.trans (hb67.mono HBL1.out.size)
        have hbs7 := hb07.size
        have HBW7 : Hid (Below w.heap.size w (w7.alloc (.cells #[.string txWear, .string ta, .string tb] 9))) := (HBWR.out.trans (hb67.mono HBWR.out.size)).alloc (HBWR.out.trans (hb67.mono HBWR.out.size)).size _
        have hownA := Lib.hid (own_alloc (own_below HO1.out hb67) (.cells #[.string txWear, .string ta, .string tb] 9))
        have hbA := Lib.hid (hb07.alloc hb07.size (.cells #[.string txWear, .string ta, .string tb] 9))
        clear hb7 hb67 hb07
        go_wp2_with (at_builtin; go_loud (refine wpList_append_rd _ rfl (.tmp 36) (.tmp 41) 22 rfl W.heap.size 9 i0 _ 1 16 Tryz.underlying22 HI.out Z0.out Z1.out Z2.out rfl (by decide) u4 _ _ rfl hownA.out B 9 _ 3 _ rfl (rd_lit3S _ _ _ rfl _ _ _) (by simp [Value.oneCell']) (by unfold maxLen; omega) (by omega) (by simp; omega) ?_); intro v1 w8 hown1 hg1 hat1)
        have hb8 := below_own (hbA.out) (Nat.le_refl _) hownA.out hg1
        have hb08 : Below w.heap.size w w8 := HBW.out.trans (hb8.mono HBW.out.size)
        have hstrs : Strs B w8 v1 (cntB f 6 ++ [txWear, ta, tb]) := by
          refine ⟨?_, fun z hz => ?_⟩
          · have hr := Rd.of_own (B := B) hown1
            have e1 : (cntB f 6 ++ [txWear, ta, tb]).length = 6 + 3 := by rw [List.length_append, hcl]; rfl
            rw [e1, List.map_append]
            exact hr
          · rcases List.mem_append.1 hz with hz | hz
            · have := HQA.out.2.2 z hz; omega
            · have h1 := HQA.out.1
              have h2 := HQA.out.2.1
              simp only [List.mem_cons, List.not_mem_nil, or_false] at hz
              rcases hz with rfl | rfl | rfl
              · decide
              · omega
              · omega
        have hlen : (Lib.join ((cntB f 6 ++ [txWear, ta, tb]).map fun x => x.data.toList) [32]).length ≤ (4 + 1) * ((cntB f 6 ++ [txWear, ta, tb]).map fun x => x.data.toList).length := join_len _ (by
          intro y hy
          obtain ⟨z, hz, rfl⟩ := List.mem_map.1 hy
          show z.data.toList.length ≤ 4
          rw [Array.length_toList]
          show z.size ≤ 4
          rcases List.mem_append.1 hz with hz | hz
          · have := HQA.out.2.2 z hz; omega
          · have h1 := HQA.out.1
            have h2 := HQA.out.2.1
            simp only [List.mem_cons, List.not_mem_nil, or_false] at hz
            rcases hz with rfl | rfl | rfl
            · decide
            · omega
            · omega)
        rw [List.length_map, List.length_append, hcl] at hlen
        have hl9 : (cntB f 6 ++ [txWear, ta, tb]).length ≤ 1000000 := by rw [List.length_append, hcl]; simp
        have HJ := Lib.hid (conjoined_any B v1 _ w8 hstrs hl9 (Nat.le_trans hlen (by simp)))
        have HB8 := Lib.hid hb08
        clear hg1 hat1 hown1 hstrs hlen hb8 hb08 hl9 hcl
        go_wp2_with fail
        refine HJ.out.mono ?_
        rintro e w9 ⟨rfl, hb9⟩
        go_wp2_with fail
        go_ret
        rw [HFI.out]
        exact ⟨rfl, HB8.out.trans (hb9.mono HB8.out.size)⟩
  · go_simp
    refine hK.out _ _ (HKEEP.out _ ((Below.refl w.heap.size w).alloc (Nat.le_refl _) _).drew) (fun hHeld => ?_)
    clear hK K
    try simp only [Act.put, List.setIfInBounds_toArray, List.set_cons_zero, List.set_cons_succ]
    have hb0 := hHeld.2.2
    have hz0 : Blk (w.alloc (.cells #[.int .i64 0, .int .i64 0, .int .i64 0, .int .i64 0, .int .i64 0, .int .i64 0, .int .i64 0, .int .i64 0, .int .i64 0, .int .i64 0, .int .i64 0, .int .i64 0, .int .i64 0, .int .i64 0, .int .i64 0, .int .i64 0, .int .i64 0, .int .i64 0, .int .i64 0, .int .i64 0, .int .i64 0, .int .i64 0, .int .i64 0, .int .i64 0] 145)).drew w.heap.size 145 (arr24 fun _ => 0) := Blk.new w _ _
    generalize (w.alloc (.cells #[.int .i64 0, .int .i64 0, .int .i64 0, .int .i64 0, .int .i64 0, .int .i64 0, .int .i64 0, .int .i64 0, .int .i64 0, .int .i64 0, .int .i64 0, .int .i64 0, .int .i64 0, .int .i64 0, .int .i64 0, .int .i64 0, .int .i64 0, .int .i64 0, .int .i64 0, .int .i64 0, .int .i64 0, .int .i64 0, .int .i64 0, .int .i64 0] 145)).drew = W0 at *
    refine wpAnyH_ready (rs := [8]) (by kernel_rfl) (by simp) ?_
    refine AllReadyH.cons (o := ⟨some 16, _, _, _, _, _⟩) rfl (fun K hK => ?_) AllReadyH.nil
    go_simp
    refine (HOF.out _ hb0).mono ?_
    rintro e w1 ⟨rfl, hb1⟩
    have hb01 : Below w.heap.size w w1 := hb0.trans (hb1.mono hb0.size)
    have hz1 := hz0.below hb1 hz0.lt
    refine hK.out _ _ (HKEEP.out _ hb01) (fun hHeld => ?_)
    clear hK K
    try simp only [Act.put, List.setIfInBounds_toArray, List.set_cons_zero, List.set_cons_succ]
    refine wpAnyH_ready (rs := [10]) (by kernel_rfl) (by simp) ?_
    refine AllReadyH.cons (o := ⟨none, _, _, _, _, _⟩) rfl (fun K hK => ?_) AllReadyH.nil
    rw [if_pos (by rfl)]
    refine wp_store_row 145 (.tmp 3) (.tmp 16) rfl w.heap.size (arr24 f) rfl rfl 145 _ hz1 hi24 (by rw [arr24_size, arr24_size]) (arr24_one _) ?_
    have HG : Hid (Blk (w1.setRow w.heap.size (arr24 f)) w.heap.size 145 (arr24 f)) := blk_rowed hz1 _
    have HBW : Hid (Below w.heap.size w (w1.setRow w.heap.size (arr24 f))) := below_rowed hb01 (Nat.le_refl _) _
    refine hK.out _ _ (HKEEP.out _ HBW.out) (fun hHeld => ?_)
    clear hK K
    refine wpAnyH_done (by kernel_rfl) ?_ _
    have hgw := HG.out.lt
    have hgB : w.heap.size ≤ w.heap.size := Nat.le_refl _
    generalize w1.setRow w.heap.size (arr24 f) = W at *
    generalize hg : w.heap.size = g at HG hgw ⊢
    clear hb0 hz0 hz1 hb01 hb1 hHeld hS0
    have HCO : Hid (∀ x W, Calls Tryz.prog 99 #[.agg (arr24 f), .int .i64 x] W fun e w' => e = .returned (.int .i64 (countK f x 24 : Nat)) ∧ Below W.heap.size W w') := fun x W => count_any f x W
    generalize arr24 f = cs at *
    obtain ⟨i0, hinf, hz0, hz1, hz2⟩ := info_parts info_strS
    have HI := Lib.hid hinf
    have Z0 := Lib.hid hz0
    have Z1 := Lib.hid hz1
    have Z2 := Lib.hid hz2
    have HLW : Hid (LibW B W) := HL.out.below (HBW.out.mono hB)
    have hBW : B ≤ W.heap.size := Nat.le_trans hB HBW.out.size
    clear hinf hz0 hz1 hz2
    go_wp2_with fail
    go_loopw [4, 5] (fun u i wr => ∃ n : Nat, n ≤ 6 ∧ i = .int .i64 (n : Int) ∧ Hid (wr.ownsRow W.heap.size 9 1 u n ((cntB f n).map .string)) ∧ Below W.heap.size W wr) (fun _ i _ => (6 - intOf i).toNat)
    case atStart => exact ⟨0, by omega, rfl, World.ownsRow_nil _ _ _ _, Below.refl _ _⟩
    case round =>
      obtain ⟨n, hn, rfl, hown, hbl⟩ := hrel
      have hbs := hbl.size
      have HLR : Hid (LibW B wr) := HLW.out.below (hbl.mono hBW)
      by_cases hlt : n < 6
      · have g1 : (n : Int) ≤ 5 := by omega
        have hcn := countK_le f n 24
        have hgr := HG.out.below hbl hgw
        have HC1 := Lib.hid (HCO.out n wr)
        have hs1 : Hid (cntB f (n + 1) = cntB f n ++ [itoaB ((countK f (n : Int) 24 : Nat) : Int)]) := cntB_succ f n
        have HBL1 := Lib.hid hbl
        have HO1 := hown
        clear hbl hown
        go_wp2_with (refine wpList_load_row rfl 145 _ rfl g rfl 145 cs (0, 0) _ hgr Tryz.underlying145 rfl hi24 ?_)
        refine HC1.out.mono ?_
        rintro e w5 ⟨rfl, hb5⟩
        have HI5 := Lib.hid (itoa_any B ((countK f (n : Int) 24 : Nat) : Int) w5 (by omega) (by omega) (HLR.out.below (hb5.mono (Nat.le_trans hBW HBL1.out.size))))
        have HB5 := Lib.hid (HBL1.out.trans (hb5.mono HBL1.out.size))
        have HO5 := Lib.hid (own_below HO1.out hb5)
        generalize itoaB ((countK f (n : Int) 24 : Nat) : Int) = T at *
        generalize countK f (n : Int) 24 = K5 at *
        clear hb5 HC1 hgr HO1
        go_wp2_with fail
        refine HI5.out.mono ?_
        rintro e w6 ⟨rfl, hb6⟩
        have hb6' := HB5.out.trans (hb6.mono HB5.out.size)
        have hownA := Lib.hid (own_alloc (own_below HO5.out hb6) (.cells #[.string T] 9))
        have hbA := Lib.hid (hb6'.alloc hb6'.size (.cells #[.string T] 9))
        have hbs6 := hb6'.size
        clear hb6 hb6' HI5
        go_wp2_with (at_builtin; go_loud (refine wpList_append_rd _ rfl (.tmp 21) (.tmp 26) 22 rfl W.heap.size 9 i0 _ 1 16 Tryz.underlying22 HI.out Z0.out Z1.out Z2.out rfl (by decide) u4 _ _ rfl hownA.out B 9 _ 1 _ rfl (rd_lit1S _ _ _ rfl _) (by simp [Value.oneCell']) (by unfold maxLen; omega) (by omega) (by simp; omega) ?_); intro v1 w7 hown1 hg1 hat1)
        have hb7 := below_own hbA.out (Nat.le_refl _) hownA.out hg1
        have hown2 : Hid (w7.ownsRow W.heap.size 9 1 v1 (n + 1) ((cntB f (n + 1)).map .string)) := by
          rw [Hid, hs1.out, List.map_append]; exact hown1
        clear hg1 hat1 hown1
        go_roundw
        case rel => exact ⟨n + 1, by omega, by go_num, hown2, hb7⟩
        case measure => simp [intOf] <;> omega
      · obtain rfl : n = 6 := by omega
        have hbw : Below w.heap.size w wr := HBW.out.trans (hbl.mono HBW.out.size)
        have HBWR := Lib.hid hbw
        have d0 := (HKEEP.out wr hbw).1
        have HS1 := Lib.hid (HSP.out wr hbw)
        have HBL1 := Lib.hid hbl
        have HO1 := hown
        have HIA := Lib.hid (itoa_any B sa wr (by omega) (by omega) HLR.out)
        have hcl : (cntB f 6).length = 6 := by simp [cntB]
        have HQA : Hid ((itoaB sa).size ≤ 3 ∧ (itoaB sb).size ≤ 3 ∧ ∀ z ∈ cntB f 6, z.size ≤ 3) := ⟨itoaB_size ha0 ha1, itoaB_size hc0 hc1, fun z hz => by
          unfold cntB at hz
          obtain ⟨i, _, rfl⟩ := List.mem_map.1 hz
          have := countK_le f i 24
          exact itoaB_size (by omega) (by omega)⟩
        have HIB : Hid (∀ w6, Below wr.heap.size wr w6 → Calls Tryz.prog 32 #[.int .i64 sb] w6 fun e w' => e = .returned (.string (itoaB sb)) ∧ Below w6.heap.size w6 w') := fun w6 h6 => itoa_any B sb w6 (by omega) (by omega) (HLR.out.below (h6.mono (Nat.le_trans hBW HBL1.out.size)))
        have HFI : Hid (blocksB c s = joinedB (cntB f 6 ++ [txWear, itoaB sa, itoaB sb])) := HBL
        generalize itoaB sa = ta at *
        generalize itoaB sb = tb at *
        clear hbl hown hbw HSP HBL
        go_wp2_with fail
        refine HS1.out.mono ?_
        rintro e w5 ⟨rfl, rfl⟩
        go_wp2_with fail
        refine HIA.out.mono ?_
        rintro e w6 ⟨rfl, hb6⟩
        have HB6 := Lib.hid hb6
        have HIB1 := Lib.hid (HIB.out w6 hb6)
        clear hb6 d0
        go_wp2_with fail
        refine HIB1.out.mono ?_
        rintro e w7 ⟨rfl, hb7⟩
        have hb67 := HB6.out.trans (hb7.mono HB6.out.size)
        have hb07 := HBL1.out.trans (hb67.mono HBL1.out.size)
        have hbs7 := hb07.size
        have HBW7 : Hid (Below w.heap.size w (w7.alloc (.cells #[.string txWear, .string ta, .string tb] 9))) := (HBWR.out.trans (hb67.mono HBWR.out.size)).alloc (HBWR.out.trans (hb67.mono HBWR.out.size)).size _
        have hownA := Lib.hid (own_alloc (own_below HO1.out hb67) (.cells #[.string txWear, .string ta, .string tb] 9))
        have hbA := Lib.hid (hb07.alloc hb07.size (.cells #[.string txWear, .string ta, .string tb] 9))
        clear hb7 hb67 hb07
        go_wp2_with (at_builtin; go_loud (refine wpList_append_rd _ rfl (.tmp 36) (.tmp 41) 22 rfl W.heap.size 9 i0 _ 1 16 Tryz.underlying22 HI.out Z0.out Z1.out Z2.out rfl (by decide) u4 _ _ rfl hownA.out B 9 _ 3 _ rfl (rd_lit3S _ _ _ rfl _ _ _) (by simp [Value.oneCell']) (by unfold maxLen; omega) (by omega) (by simp; omega) ?_); intro v1 w8 hown1 hg1 hat1)
        have hb8 := below_own (hbA.out) (Nat.le_refl _) hownA.out hg1
        have hb08 : Below w.heap.size w w8 := HBW.out.trans (hb8.mono HBW.out.size)
        have hstrs : Strs B w8 v1 (cntB f 6 ++ [txWear, ta, tb]) := by
          refine ⟨?_, fun z hz => ?_⟩
          · have hr := Rd.of_own (B := B) hown1
            have e1 : (cntB f 6 ++ [txWear, ta, tb]).length = 6 + 3 := by rw [List.length_append, hcl]; rfl
            rw [e1, List.map_append]
            exact hr
          · rcases List.mem_append.1 hz with hz | hz
            · have := HQA.out.2.2 z hz; omega
            · have h1 := HQA.out.1
              have h2 := HQA.out.2.1
              simp only [List.mem_cons, List.not_mem_nil, or_false] at hz
              rcases hz with rfl | rfl | rfl
              · decide
              · omega
              · omega
        have hlen : (Lib.join ((cntB f 6 ++ [txWear, ta, tb]).map fun x => x.data.toList) [32]).length ≤ (4 + 1) * ((cntB f 6 ++ [txWear, ta, tb]).map fun x => x.data.toList).length := join_len _ (by
          intro y hy
          obtain ⟨z, hz, rfl⟩ := List.mem_map.1 hy
          show z.data.toList.length ≤ 4
          rw [Array.length_toList]
          show z.size ≤ 4
          rcases List.mem_append.1 hz with hz | hz
          · have := HQA.out.2.2 z hz; omega
          · have h1 := HQA.out.1
            have h2 := HQA.out.2.1
            simp only [List.mem_cons, List.not_mem_nil, or_false] at hz
            rcases hz with rfl | rfl | rfl
            · decide
            · omega
            · omega)
        rw [List.length_map, List.length_append, hcl] at hlen
        have hl9 : (cntB f 6 ++ [txWear, ta, tb]).length ≤ 1000000 := by rw [List.length_append, hcl]; simp
        have HJ := Lib.hid (conjoined_any B v1 _ w8 hstrs hl9 (Nat.le_trans hlen (by simp)))
        have HB8 := Lib.hid hb08
        clear hg1 hat1 hown1 hstrs hlen hb8 hb08 hl9 hcl
        go_wp2_with fail
        refine HJ.out.mono ?_
        rintro e w9 ⟨rfl, hb9⟩
        go_wp2_with fail
        go_ret
        rw [HFI.out]
        exact ⟨rfl, HB8.out.trans (hb9.mono HB8.out.size)⟩
end Go.Proofs.YtaepdbkfaoiimabGreatDoor
/- The console: words alone, words with a number. Conditions: as in ConP; at most 80 acts were done. -/
set_option linter.unusedVariables false
set_option linter.unusedSimpArgs false
set_option linter.unnecessarySimpa false
namespace Go.Proofs.YtaepdbkfaoiimabGreatDoor
open Go.RowKit
attribute [local go_sem ↓] eql_err eql_nilerr neq_err neq_nilerr guard_err guard_nilerr guardn_err guardn_nilerr
/-- The text, where there is one. -/
def goodT (g : Bool) (t : ByteArray) : ByteArray := if g = true then t else ByteArray.empty
set_option maxRecDepth 20000 in
set_option maxHeartbeats 4000000 in
theorem conalone_any (B x k : Nat) (c : Chip) (s : SM) (line : ByteArray) (w : World) (hk : k ≤ 80) (hB : B ≤ w.heap.size) (hl : LibW B w) (h : SesC B w x k c s) :
    Calls Tryz.prog 28 #[.pointer (some ⟨x, 0, none⟩), .string line] w fun e w' => e = .returned (.tuple #[.string (goodT (cmd1 line).good (conM c s (cmd1 line)).2.2), .bool (cmd1 line).good]) ∧ SesC B w' x (k + 1) (conM c s (cmd1 line)).1 (conM c s (cmd1 line)).2.1 ∧ Fr B AnyB w w' := by
  by_cases h0 : line.toList = kRows
  · have HC : Hid (cmd1 line = .rows) := by rw [Hid, cmd1, if_pos h0]
    have b0 : (line.toList == [114, 111, 119, 115]) = true := beq_iff_eq.2 h0
    clear h0
    have HR := Lib.hid (conrows_any B x k c s ⟨#[]⟩ 40 w h)
    have HS := Lib.hid h
    clear h hl
    go_enter Tryz.func28, Tryz.ntmps28
    go_wp2_with fail
    refine HR.out.mono ?_
    rintro e w1 ⟨rfl, hb1⟩
    have HFIN : Hid (SesC B w1 x (k + 1) c s ∧ Fr B AnyB w w1) := ⟨(HS.out.below hb1).up, Fr.of_below hb1⟩
    have HT : Hid ((conM c s .rows).2.2 = toldB (pageM s.rows ⟨#[]⟩ ((40 : Int).toNat))) := rfl
    generalize toldB (pageM s.rows ⟨#[]⟩ ((40 : Int).toNat)) = T at *
    clear hb1 HR
    go_wp2_with fail
    exact bodyPost_ret (v := .tuple #[.string T, .bool true]) (by simp [results, Tryz.results28, go_sem] <;> rfl) rfl ⟨by rw [HC.out, HT.out]; rfl, by rw [HC.out]; exact HFIN.out⟩
  by_cases h1 : line.toList = kBlocks
  · have HC : Hid (cmd1 line = .blocks) := by rw [Hid, cmd1, if_neg h0, if_pos h1]
    have b0 : (line.toList == [114, 111, 119, 115]) = false := beq_eq_false_iff_ne.2 h0
    have b1 : (line.toList == [98, 108, 111, 99, 107, 115]) = true := beq_iff_eq.2 h1
    clear h0 h1
    have HR := Lib.hid (conblocks_any B x k c s w hk hB hl h)
    have HS := Lib.hid h
    clear h hl
    go_enter Tryz.func28, Tryz.ntmps28
    go_wp2_with fail
    refine HR.out.mono ?_
    rintro e w1 ⟨rfl, hb1⟩
    have HFIN : Hid (SesC B w1 x (k + 1) c s ∧ Fr B AnyB w w1) := ⟨(HS.out.below hb1).up, Fr.of_below hb1⟩
    have HT : Hid ((conM c s .blocks).2.2 = blocksB c s) := rfl
    generalize blocksB c s = T at *
    clear hb1 HR
    go_wp2_with fail
    exact bodyPost_ret (v := .tuple #[.string T, .bool true]) (by simp [results, Tryz.results28, go_sem] <;> rfl) rfl ⟨by rw [HC.out, HT.out]; rfl, by rw [HC.out]; exact HFIN.out⟩
  by_cases h2 : line.toList = kFlush
  · have HC : Hid (cmd1 line = .flush) := by rw [Hid, cmd1, if_neg h0, if_neg h1, if_pos h2]
    have b0 : (line.toList == [114, 111, 119, 115]) = false := beq_eq_false_iff_ne.2 h0
    have b1 : (line.toList == [98, 108, 111, 99, 107, 115]) = false := beq_eq_false_iff_ne.2 h1
    have b2 : (line.toList == [102, 108, 117, 115, 104]) = true := beq_iff_eq.2 h2
    clear h0 h1 h2
    obtain ⟨⟨p, q, F, hx, hst⟩, hxB⟩ := h
    obtain ⟨c', s', ew, g, _⟩ := flush_good hst.ok (by omega)
    have hw := flush_any B q p c s F w hst.st hst.ch hst.ok.inv (by have := hst.ok.ep; omega)
    rw [ew] at hw
    have HW : Hid (Calls Tryz.prog 59 #[.pointer (some ⟨q, 0, none⟩)] w fun e w' => e = .returned .nilIface ∧ SesC B w' x (k + 1) c' s' ∧ Fr B AnyB w w') :=
      hw.mono fun e w' hp => ⟨hp.1, SesC.of_post hxB hx hst hp g⟩
    have HT : Hid (conM c s .flush = (c', s', txOk)) := by
      show ((flushM c s).1, (flushM c s).2.1, doneB (flushM c s).2.2) = _
      rw [ew]; rfl
    have x1 := hx.cell 1
    simp at x1
    have HD : Hid (∀ W, Calls Tryz.prog 57 #[.nilIface] W fun e w' => e = .returned (.string txOk) ∧ W = w') := fun W => condone_any 0 (by decide) W
    clear hw hx hst ew g hl
    go_enter Tryz.func28, Tryz.ntmps28
    go_wp2_with fail
    refine HW.out.mono ?_
    rintro e w1 ⟨rfl, hs1, hf1⟩
    have HFIN := Lib.hid (And.intro hs1 hf1)
    clear hs1 hf1 x1
    go_wp2_with fail
    refine (HD.out _).mono ?_
    rintro e w2 ⟨rfl, rfl⟩
    go_wp2_with fail
    exact bodyPost_ret (v := .tuple #[.string txOk, .bool true]) (by simp [results, Tryz.results28, go_sem] <;> rfl) rfl ⟨by rw [HC.out, HT.out]; rfl, by rw [HC.out, HT.out]; exact HFIN.out⟩
  by_cases h3 : line.toList = kCompact
  · have HC : Hid (cmd1 line = .compact) := by rw [Hid, cmd1, if_neg h0, if_neg h1, if_neg h2, if_pos h3]
    have b0 : (line.toList == [114, 111, 119, 115]) = false := beq_eq_false_iff_ne.2 h0
    have b1 : (line.toList == [98, 108, 111, 99, 107, 115]) = false := beq_eq_false_iff_ne.2 h1
    have b2 : (line.toList == [102, 108, 117, 115, 104]) = false := beq_eq_false_iff_ne.2 h2
    have b3 : (line.toList == [99, 111, 109, 112, 97, 99, 116]) = true := beq_iff_eq.2 h3
    clear h0 h1 h2 h3
    obtain ⟨⟨p, q, F, hx, hst⟩, hxB⟩ := h
    obtain ⟨c', s', ew, g, _⟩ := comp_good hst.ok (by omega)
    have hw := compact_any B q p c s F w hst.st hst.ch hst.ok.inv
    rw [ew] at hw
    have HW : Hid (Calls Tryz.prog 60 #[.pointer (some ⟨q, 0, none⟩)] w fun e w' => e = .returned .nilIface ∧ SesC B w' x (k + 1) c' s' ∧ Fr B AnyB w w') :=
      hw.mono fun e w' hp => ⟨hp.1, SesC.of_post hxB hx hst hp g⟩
    have HT : Hid (conM c s .compact = (c', s', txOk)) := by
      show ((compM c s).1, (compM c s).2.1, doneB (compM c s).2.2) = _
      rw [ew]; rfl
    have x1 := hx.cell 1
    simp at x1
    have HD : Hid (∀ W, Calls Tryz.prog 57 #[.nilIface] W fun e w' => e = .returned (.string txOk) ∧ W = w') := fun W => condone_any 0 (by decide) W
    clear hw hx hst ew g hl
    go_enter Tryz.func28, Tryz.ntmps28
    go_wp2_with fail
    refine HW.out.mono ?_
    rintro e w1 ⟨rfl, hs1, hf1⟩
    have HFIN := Lib.hid (And.intro hs1 hf1)
    clear hs1 hf1 x1
    go_wp2_with fail
    refine (HD.out _).mono ?_
    rintro e w2 ⟨rfl, rfl⟩
    go_wp2_with fail
    exact bodyPost_ret (v := .tuple #[.string txOk, .bool true]) (by simp [results, Tryz.results28, go_sem] <;> rfl) rfl ⟨by rw [HC.out, HT.out]; rfl, by rw [HC.out, HT.out]; exact HFIN.out⟩
  by_cases h4 : line.toList = kOpen
  · have HC : Hid (cmd1 line = .opn) := by rw [Hid, cmd1, if_neg h0, if_neg h1, if_neg h2, if_neg h3, if_pos h4]
    have b0 : (line.toList == [114, 111, 119, 115]) = false := beq_eq_false_iff_ne.2 h0
    have b1 : (line.toList == [98, 108, 111, 99, 107, 115]) = false := beq_eq_false_iff_ne.2 h1
    have b2 : (line.toList == [102, 108, 117, 115, 104]) = false := beq_eq_false_iff_ne.2 h2
    have b3 : (line.toList == [99, 111, 109, 112, 97, 99, 116]) = false := beq_eq_false_iff_ne.2 h3
    have b4 : (line.toList == [111, 112, 101, 110]) = true := beq_iff_eq.2 h4
    clear h0 h1 h2 h3 h4
    obtain ⟨⟨p, q, F, hx, hst⟩, hxB⟩ := h
    have HW := Lib.hid (conopen_any B x k p _ c s w hxB hx hst.ch hst.ok)
    have HD : Hid (∀ W, Calls Tryz.prog 57 #[.nilIface] W fun e w' => e = .returned (.string txOk) ∧ W = w') := fun W => condone_any 0 (by decide) W
    clear hx hst hl
    go_enter Tryz.func28, Tryz.ntmps28
    go_wp2_with fail
    refine HW.out.mono ?_
    rintro e w1 ⟨rfl, hs1, hf1⟩
    have HFIN : Hid (SesC B w1 x (k + 1) c s ∧ Fr B AnyB w w1) := ⟨hs1.up, hf1⟩
    clear hs1 hf1
    go_wp2_with fail
    refine (HD.out _).mono ?_
    rintro e w2 ⟨rfl, rfl⟩
    go_wp2_with fail
    exact bodyPost_ret (v := .tuple #[.string txOk, .bool true]) (by simp [results, Tryz.results28, go_sem] <;> rfl) rfl ⟨by rw [HC.out]; rfl, by rw [HC.out]; exact HFIN.out⟩
  have HC : Hid (cmd1 line = .bad) := by rw [Hid, cmd1, if_neg h0, if_neg h1, if_neg h2, if_neg h3, if_neg h4]
  have b0 : (line.toList == [114, 111, 119, 115]) = false := beq_eq_false_iff_ne.2 h0
  have b1 : (line.toList == [98, 108, 111, 99, 107, 115]) = false := beq_eq_false_iff_ne.2 h1
  have b2 : (line.toList == [102, 108, 117, 115, 104]) = false := beq_eq_false_iff_ne.2 h2
  have b3 : (line.toList == [99, 111, 109, 112, 97, 99, 116]) = false := beq_eq_false_iff_ne.2 h3
  have b4 : (line.toList == [111, 112, 101, 110]) = false := beq_eq_false_iff_ne.2 h4
  clear h0 h1 h2 h3 h4
  have HFIN : Hid (SesC B w x (k + 1) c s ∧ Fr B AnyB w w) := ⟨h.up, Fr.refl _ _ _⟩
  clear h hl
  go_enter Tryz.func28, Tryz.ntmps28
  go_wp2_with fail
  exact bodyPost_ret (v := .tuple #[.string ByteArray.empty, .bool false]) (by simp [results, Tryz.results28, go_sem] <;> rfl) rfl ⟨by rw [HC.out]; rfl, by rw [HC.out]; exact HFIN.out⟩
set_option maxRecDepth 20000 in
set_option maxHeartbeats 4000000 in
theorem connum_any (B x k : Nat) (c : Chip) (s : SM) (w0 w1 : ByteArray) (w : World) (hn0 : w0.toList ≠ kWeaken) (hn1 : w0.toList ≠ kArm) (h1s : w1.size ≤ 1000000) (hB : B ≤ w.heap.size) (hl : LibW B w) (h : SesC B w x k c s) :
    Calls Tryz.prog 30 #[.pointer (some ⟨x, 0, none⟩), .string w0, .string w1] w fun e w' => e = .returned (.tuple #[.string (goodT (cmdN w0 w1).good txOk), .bool (cmdN w0 w1).good]) ∧ SesC B w' x (k + 1) c s ∧ Fr B AnyB w w' := by
  have HAT := Lib.hid (atoi_any B w1 w h1s hl)
  have HS := Lib.hid h
  have HL := Lib.hid hl
  have HN0 := Lib.hid hn0
  have HN1 := Lib.hid hn1
  clear h hl hn0 hn1
  go_enter Tryz.func30, Tryz.ntmps30
  go_wp2_with fail
  refine HAT.out.mono ?_
  rintro e wa ⟨n, ev, rfl, hba, hcase⟩
  have HSA := Lib.hid (HS.out.below hba)
  have HFA := Lib.hid (Fr.of_below (B := B) (M := AnyB) hba)
  have HLA := Lib.hid (HL.out.below (hba.mono hB))
  have hBa : B ≤ wa.heap.size := Nat.le_trans hB hba.size
  clear HAT hba HS HL
  rcases hcase with ⟨rfl, hat⟩ | ⟨⟨T, pt, rfl⟩, hno⟩
  rotate_left
  · have HC := Lib.hid (cmdN_no (w0 := w0) hno)
    have HFIN : Hid (SesC B wa x (k + 1) c s ∧ Fr B AnyB w wa) := ⟨HSA.out.up, HFA.out⟩
    clear hno
    go_wp2_with fail
    exact bodyPost_ret (v := .tuple #[.string ByteArray.empty, .bool false]) (by simp [results, Tryz.results30, go_sem] <;> rfl) rfl ⟨by rw [HC.out]; rfl, HFIN.out⟩
  have hrg := atoi_range hat
  have HNM := Lib.hid (natM_ok hat)
  have HIT := Lib.hid (itoa_any B n wa hrg.1 hrg.2 HLA.out)
  clear hat
  go_wp2_with fail
  refine HIT.out.mono ?_
  rintro e wb ⟨rfl, hbb⟩
  have HSB := Lib.hid (HSA.out.below hbb)
  have HFB := Lib.hid (HFA.out.trans (Fr.of_below (B := B) (M := AnyB) hbb) (fun _ _ => trivial))
  have hBb : B ≤ wb.heap.size := Nat.le_trans hBa hbb.size
  have HFIN : Hid (SesC B wb x (k + 1) c s ∧ Fr B AnyB w wb) := ⟨HSB.out.up, HFB.out⟩
  have HIE : Hid ((itoaB n).toList = Lib.itoa n ∧ w1.toList = w1.data.toList) := ⟨b_toList _, b_toList _⟩
  clear hbb HIT HSA HFA
  by_cases he : Lib.itoa n = w1.data.toList
  rotate_left
  · have HC : Hid (cmdN w0 w1 = .bad) := cmdN_no (by rw [HNM.out, if_neg (fun h => he h.1)])
    have t1 : ((itoaB n).toList == w1.toList) = false := by rw [beq_eq_false_iff_ne, HIE.out.1, HIE.out.2]; exact he
    clear he
    go_wp2_with fail
    exact bodyPost_ret (v := .tuple #[.string ByteArray.empty, .bool false]) (by simp [results, Tryz.results30, go_sem] <;> rfl) rfl ⟨by rw [HC.out]; rfl, HFIN.out⟩
  have t1 : ((itoaB n).toList == w1.toList) = true := by rw [beq_iff_eq, HIE.out.1, HIE.out.2]; exact he
  by_cases h0 : n < 0
  · have HC : Hid (cmdN w0 w1 = .bad) := cmdN_no (by rw [HNM.out, if_neg (fun h => by omega)])
    have t2 : decide (n < 0) = true := decide_eq_true h0
    clear he h0
    go_wp2_with fail
    exact bodyPost_ret (v := .tuple #[.string ByteArray.empty, .bool false]) (by simp [results, Tryz.results30, go_sem] <;> rfl) rfl ⟨by rw [HC.out]; rfl, HFIN.out⟩
  have t2 : decide (n < 0) = false := decide_eq_false h0
  by_cases h9 : 999 < n
  · have HC : Hid (cmdN w0 w1 = .bad) := cmdN_no (by rw [HNM.out, if_neg (fun h => by omega)])
    have t3 : decide (999 < n) = true := decide_eq_true h9
    clear he h0 h9
    go_wp2_with fail
    exact bodyPost_ret (v := .tuple #[.string ByteArray.empty, .bool false]) (by simp [results, Tryz.results30, go_sem] <;> rfl) rfl ⟨by rw [HC.out]; rfl, HFIN.out⟩
  have t3 : decide (999 < n) = false := decide_eq_false h9
  have HNM2 : Hid (natM w1 = some n.toNat) := by rw [Hid, HNM.out, if_pos ⟨he, by omega, by omega⟩]
  have b0 : (w0.toList == [119, 101, 97, 107, 101, 110]) = false := beq_eq_false_iff_ne.2 HN0.out
  have b1 : (w0.toList == [97, 114, 109]) = false := beq_eq_false_iff_ne.2 HN1.out
  clear he h0 h9
  by_cases hr : w0.toList = kRestart
  rotate_left
  · have HC := Lib.hid (cmdN_far (w1 := w1) hr)
    have b2 : (w0.toList == [114, 101, 115, 116, 97, 114, 116]) = false := beq_eq_false_iff_ne.2 hr
    clear hr
    go_wp2_with fail
    exact bodyPost_ret (v := .tuple #[.string ByteArray.empty, .bool false]) (by simp [results, Tryz.results30, go_sem] <;> rfl) rfl ⟨by rw [HC.out]; rfl, HFIN.out⟩
  have HC := Lib.hid (cmdN_yes hr HNM2.out)
  have b2 : (w0.toList == [114, 101, 115, 116, 97, 114, 116]) = true := beq_iff_eq.2 hr
  obtain ⟨⟨p, q, F, hx, hst⟩, hxB⟩ := HSB.out
  have hrs := restart_any B p c n wb hst.ch
  rw [restart_same hst.ok.inv.wf hst.ok.inv.up hst.ok.calm] at hrs
  have HRS := Lib.hid hrs
  have HAP := Lib.hid (ses_apart hx hst p (by simp))
  have HX := Lib.hid hx
  have HOK := Lib.hid hst.ok
  have x0 := hx.cell 0
  simp at x0
  have HD : Hid (∀ W, Calls Tryz.prog 57 #[.nilIface] W fun e w' => e = .returned (.string txOk) ∧ W = w') := fun W => condone_any 0 (by decide) W
  clear hr hrs hx hst
  go_wp2_with fail
  refine HRS.out.mono ?_
  rintro e wc ⟨rfl, hc3, hf3⟩
  have hx3 := HX.out.fr hf3 (.inr (.inl fun e => HAP.out e.symm))
  have HO := Lib.hid (conopen_any B x k p _ c s wc hxB hx3 hc3 HOK.out)
  have HF3 : Hid (Fr B AnyB w wc) := HFB.out.trans (hf3.mono fun _ _ _ => trivial) (fun _ _ => trivial)
  clear hx3 hc3 hf3 x0 HRS
  go_wp2_with fail
  refine HO.out.mono ?_
  rintro e wd ⟨rfl, hs4, hf4⟩
  have HFIN4 : Hid (SesC B wd x (k + 1) c s ∧ Fr B AnyB w wd) := ⟨hs4.up, HF3.out.trans hf4 (fun _ _ => trivial)⟩
  clear hs4 hf4
  go_wp2_with fail
  refine (HD.out _).mono ?_
  rintro e we ⟨rfl, rfl⟩
  go_wp2_with fail
  exact bodyPost_ret (v := .tuple #[.string txOk, .bool true]) (by simp [results, Tryz.results30, go_sem] <;> rfl) rfl ⟨by rw [HC.out]; rfl, HFIN4.out⟩
end Go.Proofs.YtaepdbkfaoiimabGreatDoor
/- The console: a line is answered as the plain function says. Conditions: as in ConP; at most 80 acts were done; no line weakens or arms. -/
set_option linter.unusedVariables false
set_option linter.unusedSimpArgs false
set_option linter.unnecessarySimpa false
namespace Go.Proofs.YtaepdbkfaoiimabGreatDoor
open Go.RowKit
attribute [local go_sem ↓] eql_err eql_nilerr neq_err neq_nilerr guard_err guard_nilerr guardn_err guardn_nilerr
theorem good_bad {c : Cmd} (h : c.good = false) : c = .bad := by
  cases c <;> first | rfl | (simp [Cmd.good] at h)
theorem Strs.at_ {B : Nat} {w : World} {A : Option Addr} {n cp : Nat} {l : List ByteArray} (h : Strs B w (.slice A n cp) l) (hl : 0 < l.length) :
    n = l.length ∧ l.length ≤ cp ∧ ∃ b o, A = some ⟨b, o, none⟩ ∧ b < w.heap.size ∧ ∀ i s, l[i]? = some s → w.cell? ⟨b, o + i, none⟩ = some (.string s) := by
  obtain ⟨A', c', e, h1, h2, h3⟩ := h.form
  injection e with e1 e2 e3
  subst e1; subst e2; subst e3
  obtain ⟨x0, hx0, _⟩ := getElem?_of_lt hl
  obtain ⟨b, o, rfl, hb, _⟩ := h3 0 x0 hx0
  refine ⟨rfl, h1, b, o, rfl, hb, fun i s hi => ?_⟩
  obtain ⟨b', o', e, _, hc⟩ := h3 i s hi
  injection e with e
  injection e with e4 e5
  subst e4; subst e5
  exact hc
theorem cmd2_num {w0 w1 : ByteArray} (h : w0.toList ≠ kGet) : cmd2 w0 w1 [] = cmdN w0 w1 := by
  rw [cmd2, cmdN, if_neg h]
  first | done | (cases natM w1 <;> rfl)
theorem cmdN_con {w0 w1 : ByteArray} {c : Chip} {s : SM} (h : (cmdN w0 w1).good = true) : conM c s (cmdN w0 w1) = (c, s, txOk) := by
  unfold cmdN at h ⊢
  split at h
  · rename_i hr
    rw [if_pos hr]
    cases e : natM w1 with
    | none => rw [e] at h; simp [Cmd.good] at h
    | some n => rfl
  · simp [Cmd.good] at h
/-- No line weakens or arms. -/
def NoWA (line : ByteArray) : Prop := ∀ w0 w1, splB line = [w0, w1] → w0.toList ≠ kWeaken ∧ w0.toList ≠ kArm
set_option maxRecDepth 100000 in
set_option maxHeartbeats 8000000 in
theorem consay_any (B x k : Nat) (c : Chip) (s : SM) (line : ByteArray) (w : World) (hk : k ≤ 80) (hB : B ≤ w.heap.size) (hno : NoWA line) (hl : LibW B w) (h : SesC B w x k c s) :
    Calls Tryz.prog 12 #[.pointer (some ⟨x, 0, none⟩), .string line] w (fun e w' => e = .returned (.string (conM c s (cmdOf line)).2.2) ∧ SesC B w' x (k + 1) (conM c s (cmdOf line)).1 (conM c s (cmdOf line)).2.1 ∧ Fr B AnyB w w') := by
  have HD4 : Hid (∀ W, Calls Tryz.prog 25 #[.iface 39 (.int .i64 4)] W fun e w' => e = .returned (.string (errB 4)) ∧ W = w') := fun W => confault_any 4 (by decide) W
  have HBAD : Hid ((conM c s .bad) = (c, s, errB 4)) := rfl
  by_cases h60 : 60 < line.size
  · have HC := Lib.hid (cmd_long h60)
    have t1 : decide ((60 : Int) < (line.size : Int)) = true := decide_eq_true (by omega)
    have HFIN : Hid (SesC B w x (k + 1) c s ∧ Fr B AnyB w w) := ⟨h.up, Fr.refl _ _ _⟩
    clear h60 h hl hno
    go_enter Tryz.func12, Tryz.ntmps12
    go_wp2_with fail
    refine (HD4.out _).mono ?_
    rintro e w1 ⟨rfl, rfl⟩
    go_wp2_with fail
    go_ret
    rw [HC.out, HBAD.out]
    exact ⟨rfl, HFIN.out⟩
  have t1 : decide ((60 : Int) < (line.size : Int)) = false := decide_eq_false (by omega)
  have HCW := Lib.hid (cmd_in h60)
  have hls : line.size ≤ 60 := by omega
  have HSP := Lib.hid (psplit_any B line w (by omega) hl.maxl)
  have HS := Lib.hid h
  have HL := Lib.hid hl
  have HNO := Lib.hid hno
  have HSUB : Hid (∀ z ∈ splB line, z.size ≤ line.size) := fun z hz => splB_sub hz
  clear h60 h hl hno
  go_enter Tryz.func12, Tryz.ntmps12
  go_wp2_with fail
  refine HSP.out.mono ?_
  rintro e w1 ⟨v1, rfl, hv1, hb1⟩
  obtain ⟨A, cp, rfl, _, _, _⟩ := hv1.form
  have HS1 := Lib.hid (HS.out.below hb1)
  have HL1 := Lib.hid (HL.out.below (hb1.mono hB))
  have HF1 := Lib.hid (Fr.of_below (B := B) (M := AnyB) hb1)
  have hB1 : B ≤ w1.heap.size := Nat.le_trans hB hb1.size
  clear HSP HS HL hb1
  cases hws : splB line with
  | nil => exact absurd hws (splB_ne line)
  | cons w0 r =>
    rw [hws] at hv1 HSUB HCW
    obtain ⟨_, hcp, b, o, rfl, hbw, hcell⟩ := hv1.at_ (by simp)
    have c0 := hcell 0 w0 rfl
    simp at c0
    have hz0 := HSUB.out w0 (by simp)
    cases r with
    | nil =>
      have HC : Hid (cmdOf line = cmd1 line) := HCW.out
      have HA := Lib.hid (conalone_any B x k c s line w1 hk hB1 HL1.out HS1.out)
      have hcase : (w0.toList == [119, 114, 105, 116, 101]) = true ∨ (w0.toList == [119, 114, 105, 116, 101]) = false := by cases (w0.toList == [119, 114, 105, 116, 101]) <;> simp
      clear hcell hv1 hws HCW HNO HSUB
      generalize hTT : (conM c s (cmd1 line)).2.2 = T at HA
      have HT := Lib.hid hTT
      clear hTT
      simp only [List.length_cons, List.length_nil, Nat.zero_add] at *
      rcases hcase with t2 | t2
      · go_wp2_with fail
        refine HA.out.mono ?_
        rintro e w2 ⟨rfl, hs2, hf2⟩
        have HFIN := Lib.hid (And.intro hs2 (HF1.out.trans hf2 (fun _ _ => trivial)))
        clear hs2 hf2
        cases hg : (cmd1 line).good
        · have HBD := Lib.hid (good_bad hg)
          have HE : Hid (goodT false T = ByteArray.empty) := rfl
          generalize goodT false T = GT at *
          clear hg
          go_wp2_with fail
          refine (HD4.out _).mono ?_
          rintro e w3 ⟨rfl, rfl⟩
          go_wp2_with fail
          go_ret
          rw [HC.out]
          exact ⟨by rw [HBD.out]; rfl, HFIN.out⟩
        · have HE : Hid (goodT true T = T) := rfl
          generalize goodT true T = GT at *
          clear hg
          go_wp2_with fail
          go_ret
          rw [HC.out]
          exact ⟨by rw [HE.out, HT.out]; rfl, HFIN.out⟩
      · go_wp2_with fail
        refine HA.out.mono ?_
        rintro e w2 ⟨rfl, hs2, hf2⟩
        have HFIN := Lib.hid (And.intro hs2 (HF1.out.trans hf2 (fun _ _ => trivial)))
        clear hs2 hf2
        cases hg : (cmd1 line).good
        · have HBD := Lib.hid (good_bad hg)
          have HE : Hid (goodT false T = ByteArray.empty) := rfl
          generalize goodT false T = GT at *
          clear hg
          go_wp2_with fail
          refine (HD4.out _).mono ?_
          rintro e w3 ⟨rfl, rfl⟩
          go_wp2_with fail
          go_ret
          rw [HC.out]
          exact ⟨by rw [HBD.out]; rfl, HFIN.out⟩
        · have HE : Hid (goodT true T = T) := rfl
          generalize goodT true T = GT at *
          clear hg
          go_wp2_with fail
          go_ret
          rw [HC.out]
          exact ⟨by rw [HE.out, HT.out]; rfl, HFIN.out⟩
    | cons w1' r' =>
      have c1 := hcell 1 w1' rfl
      have hz1 := HSUB.out w1' (by simp)
      have hsz := splB_size hws
      by_cases hw : w0.toList = kWrite
      · have HC : Hid (cmdOf line = .write (line.extract 6 line.size)) := by
          rw [Hid, HCW.out]
          exact if_pos hw
        have t2 : (w0.toList == [119, 114, 105, 116, 101]) = true := beq_iff_eq.2 hw
        have h5 : w0.size = 5 := by
          have := congrArg List.length hw
          rw [b_toList, Array.length_toList] at this
          exact this
        have HWR := Lib.hid (conwrite_any B x k c s (line.extract 6 line.size) w1 (by rw [ByteArray.size_extract]; omega) (by omega) hB1 HL1.out HS1.out)
        have t3 : decide ((1 : Int) < (((w0 :: w1' :: r').length : Nat) : Int)) = true := decide_eq_true (by simp only [List.length_cons]; omega)
        have g6 : (6 : Int) ≤ (line.size : Int) := by omega
        generalize (w0 :: w1' :: r').length = N at *
        have g0 : 0 < N := by have := of_decide_eq_true t3; omega
        clear hcell hv1 hws HCW HNO HSUB hw
        go_wp2_with fail
        refine HWR.out.mono ?_
        rintro e w2 ⟨rfl, hs2, hf2⟩
        have HFIN := Lib.hid (And.intro hs2 (HF1.out.trans hf2 (fun _ _ => trivial)))
        clear hs2 hf2
        go_wp2_with fail
        go_ret
        rw [HC.out]
        exact ⟨rfl, HFIN.out⟩
      have t2 : (w0.toList == [119, 114, 105, 116, 101]) = false := beq_eq_false_iff_ne.2 hw
      have HC2 : Hid (cmdOf line = cmd2 w0 w1' r') := by
        rw [Hid, HCW.out]
        exact if_neg hw
      clear hw HCW
      cases r' with
      | nil =>
        simp only [List.length_cons, List.length_nil, Nat.zero_add, Nat.reduceAdd] at *
        by_cases hg : w0.toList = kGet
        · have HC : Hid (cmdOf line = .get w1') := by
            rw [Hid, HC2.out]
            exact if_pos hg
          have t4 : (w0.toList == [103, 101, 116]) = true := beq_iff_eq.2 hg
          have HG := Lib.hid (conget_any B x k c s w1' w1 (by omega) HS1.out)
          have HST : Hid ((conM c s (.get w1')).1 = c ∧ (conM c s (.get w1')).2.1 = s) := ⟨rfl, rfl⟩
          clear hcell hv1 hws HNO HSUB hg
          go_wp2_with fail
          refine HG.out.mono ?_
          rintro e w2 ⟨rfl, hb2⟩
          have HFIN : Hid (SesC B w2 x (k + 1) c s ∧ Fr B AnyB w w2) := ⟨(HS1.out.below hb2).up, HF1.out.trans (Fr.of_below (B := B) (M := AnyB) hb2) (fun _ _ => trivial)⟩
          clear hb2
          go_wp2_with fail
          go_ret
          rw [HC.out, HST.out.1, HST.out.2]
          exact ⟨rfl, HFIN.out⟩
        · have HC : Hid (cmdOf line = cmdN w0 w1') := by
            rw [Hid, HC2.out]
            exact cmd2_num hg
          have t4 : (w0.toList == [103, 101, 116]) = false := beq_eq_false_iff_ne.2 hg
          obtain ⟨hn0, hn1⟩ := HNO.out w0 w1' hws
          have HNU := Lib.hid (connum_any B x k c s w0 w1' w1.drew hn0 hn1 (by omega) hB1 (HL1.out.below (Below.refl _ _).drew) (HS1.out.below (Below.refl _ _).drew))
          have HFD : Hid (Fr B AnyB w w1.drew) := HF1.out.trans (Fr.of_below (B := B) (M := AnyB) (Below.refl w1.heap.size w1).drew) (fun _ _ => trivial)
          clear hcell hv1 hws HNO HSUB hg hn0 hn1
          go_wp2_with fail
          go_region_with (go_at_call 30; refine HNU.out.mono ?_; rintro e w2 ⟨rfl, hs2, hf2⟩)
          all_goals
            have HFIN := Lib.hid (And.intro hs2 (HFD.out.trans hf2 (fun _ _ => trivial)))
            clear hs2 hf2
            cases hg : (cmdN w0 w1').good
            · have HBD := Lib.hid (good_bad hg)
              generalize goodT false txOk = GT at *
              clear hg
              go_wp2_with fail
              refine (HD4.out _).mono ?_
              rintro e w3 ⟨rfl, rfl⟩
              go_wp2_with fail
              go_ret
              rw [HC.out, HBD.out, HBAD.out]
              exact ⟨rfl, HFIN.out⟩
            · have HE : Hid (goodT true txOk = txOk) := rfl
              have HCN : Hid (conM c s (cmdN w0 w1') = (c, s, txOk)) := cmdN_con hg
              generalize goodT true txOk = GT at *
              clear hg
              go_wp2_with fail
              go_ret
              rw [HC.out, HCN.out]
              exact ⟨by rw [HE.out]; rfl, HFIN.out⟩
      | cons w2' r'' =>
        have c2 := hcell 2 w2' rfl
        have hz2 := HSUB.out w2' (by simp)
        by_cases hp : r'' = [] ∧ w0.toList = kPage
        · obtain ⟨rfl, hp⟩ := hp
          simp only [List.length_cons, List.length_nil, Nat.zero_add, Nat.reduceAdd] at *
          have t4 : (w0.toList == [112, 97, 103, 101]) = true := beq_iff_eq.2 hp
          have HC3 : Hid (cmdOf line = match natM w2' with | some n => .page w1' n | none => .bad) := by
            rw [Hid, HC2.out, cmd2, if_pos hp]
            first | done | (cases natM w2' <;> rfl)
          have HAT := Lib.hid (atoi_any B w2' w1 (by omega) HL1.out)
          clear hcell hv1 hws HNO HSUB hp HC2
          go_wp2_with fail
          refine HAT.out.mono ?_
          rintro e wa ⟨n, ev, rfl, hba, hcase⟩
          have y1 := (hba.cell (cell_lt c1)).trans c1
          have y2a := (hba.cell (cell_lt c2)).trans c2
          have HSA := Lib.hid (HS1.out.below hba)
          have HFA := Lib.hid (HF1.out.trans (Fr.of_below (B := B) (M := AnyB) hba) (fun _ _ => trivial))
          have HLA := Lib.hid (HL1.out.below (hba.mono hB1))
          have hBa : B ≤ wa.heap.size := Nat.le_trans hB1 hba.size
          clear HAT hba c0 c1 c2
          rcases hcase with ⟨rfl, hat⟩ | ⟨⟨T, pt, rfl⟩, hno⟩
          rotate_left
          · have HC : Hid (cmdOf line = .bad) := by rw [Hid, HC3.out, hno]
            have HFIN : Hid (∀ j, SesC B (wa.drewN j) x (k + 1) c s ∧ Fr B AnyB w (wa.drewN j)) := fun j => ⟨(HSA.out.below (below_drewN' (Below.refl _ _) j)).up, HFA.out.trans (Fr.of_below (B := B) (M := AnyB) (below_drewN' (Below.refl _ _) j)) (fun _ _ => trivial)⟩
            clear hno HC3
            go_wp2_with fail
            go_quiet (fail)
            go_wp2_with fail
            refine (HD4.out _).mono ?_
            rintro e wz ⟨rfl, rfl⟩
            go_wp2_with fail
            go_ret
            rw [HC.out, HBAD.out]
            exact ⟨rfl, HFIN.out _⟩
          have hrg := atoi_range hat
          have HNM := Lib.hid (natM_ok hat)
          have HIT : Hid (∀ W, Below wa.heap.size wa W → Calls Tryz.prog 32 #[.int .i64 n] W fun e w' => e = .returned (.string (itoaB n)) ∧ Below wa.heap.size wa w') := fun W hW => (itoa_any B n W hrg.1 hrg.2 (HLA.out.below (hW.mono hBa))).mono fun e w' ⟨h1, h2⟩ => ⟨h1, hW.trans (h2.mono hW.size)⟩
          have HFB : Hid (∀ wb, Below wa.heap.size wa wb → SesC B wb x (k + 1) c s ∧ Fr B AnyB w wb) := fun wb hbb => ⟨(HSA.out.below hbb).up, HFA.out.trans (Fr.of_below (B := B) (M := AnyB) hbb) (fun _ _ => trivial)⟩
          have HIE : Hid ((itoaB n).toList = Lib.itoa n ∧ w2'.toList = w2'.data.toList) := ⟨b_toList _, b_toList _⟩
          clear hat HLA HFA
          have HSA0 : Hid (wa.drew.cell? ⟨b, o + 2, none⟩ = some (.string w2') ∧ Below wa.heap.size wa wa.drew) := ⟨y2a, (Below.refl _ _).drew⟩
          by_cases he : Lib.itoa n = w2'.data.toList
          rotate_left
          · have HC : Hid (cmdOf line = .bad) := by rw [Hid, HC3.out, HNM.out, if_neg (fun h => he h.1)]
            have t5 : ((itoaB n).toList == w2'.toList) = false := by rw [beq_eq_false_iff_ne, HIE.out.1, HIE.out.2]; exact he
            clear HC3 HNM hrg he
            go_wp2_with fail
            refine wp_region_held_drew (S := fun w' => w'.cell? ⟨b, o + 2, none⟩ = some (.string w2') ∧ Below wa.heap.size wa w') (by kernel_rfl) HSA0.out (fun hHeld => ?_)
            refine wpAnyH_take (i := 0) (oi := ⟨some 88, _, _, _, _, _⟩) (v := .nilIface) rfl (by kernel_rfl) (by kernel_rfl) (by kernel_rfl) (fun _ _ _ h => h) (Or.inl ⟨by rfl, ?_⟩) (by assumption) ?_
            · intro wS hSw
              (try dsimp only at hSw)
              go_simp
            simp only [Act.put, List.setIfInBounds_toArray, List.set_cons_zero, List.set_cons_succ]
            refine wpAnyH_take (i := 1) (oi := ⟨some 89, _, _, _, _, _⟩) (v := .bool true) rfl (by kernel_rfl) (by kernel_rfl) (by kernel_rfl) (fun _ _ _ h => h) (Or.inl ⟨by rfl, ?_⟩) (by assumption) ?_
            · intro wS hSw
              (try dsimp only at hSw)
              go_simp
            simp only [Act.put, List.setIfInBounds_toArray, List.set_cons_zero, List.set_cons_succ]
            refine wpAnyH_take (i := 2) (oi := ⟨some 90, _, _, _, _, _⟩) (v := .bool true) rfl (by kernel_rfl) (by kernel_rfl) (by kernel_rfl) (fun _ _ _ h => h) (Or.inl ⟨by rfl, ?_⟩) (by assumption) ?_
            · intro wS hSw
              (try dsimp only at hSw)
              go_simp
            simp only [Act.put, List.setIfInBounds_toArray, List.set_cons_zero, List.set_cons_succ]
            refine wpAnyH_take (i := 3) (oi := ⟨some 91, _, _, _, _, _⟩) (v := .int .i64 n) rfl (by kernel_rfl) (by kernel_rfl) (by kernel_rfl) (fun _ _ _ h => h) (Or.inl ⟨by rfl, ?_⟩) (by assumption) ?_
            · intro wS hSw
              (try dsimp only at hSw)
              go_simp
            simp only [Act.put, List.setIfInBounds_toArray, List.set_cons_zero, List.set_cons_succ]
            refine wpAnyH_take (i := 5) (oi := ⟨some 93, _, _, _, _, _⟩) (v := .slice (some ⟨b, o, none⟩) 3 cp) rfl (by kernel_rfl) (by kernel_rfl) (by kernel_rfl) (fun _ _ _ h => h) (Or.inl ⟨by rfl, ?_⟩) (by assumption) ?_
            · intro wS hSw
              (try dsimp only at hSw)
              go_simp
            simp only [Act.put, List.setIfInBounds_toArray, List.set_cons_zero, List.set_cons_succ]
            refine wpAnyH_take (i := 6) (oi := ⟨some 94, _, _, _, _, _⟩) (v := .pointer (some ⟨b, o + 2, none⟩)) rfl (by kernel_rfl) (by kernel_rfl) (by kernel_rfl) (fun _ _ _ h => h) (Or.inl ⟨by rfl, ?_⟩) (by assumption) ?_
            · intro wS hSw
              (try dsimp only at hSw)
              go_simp
            simp only [Act.put, List.setIfInBounds_toArray, List.set_cons_zero, List.set_cons_succ]
            refine wpAnyH_take (i := 7) (oi := ⟨some 95, _, _, _, _, _⟩) (v := .string w2') rfl (by kernel_rfl) (by kernel_rfl) (by kernel_rfl) (fun _ _ _ h => h) (Or.inl ⟨by rfl, ?_⟩) (by assumption) ?_
            · intro wS hSw
              (try dsimp only at hSw)
              go_simp
            simp only [Act.put, List.setIfInBounds_toArray, List.set_cons_zero, List.set_cons_succ]
            refine wpAnyH_ready (rs := [4]) (by kernel_rfl) (by simp) ?_
            refine AllReadyH.cons (o := ⟨some 92, _, _, _, _, _⟩) rfl (fun K hK => ?_) AllReadyH.nil
            go_simp
            refine (HIT.out _ hHeld.2).mono ?_
            rintro e wb ⟨rfl, hbb⟩
            refine hK.out _ _ ?_ (fun hHeld => ?_)
            · exact ⟨(hbb.cell (cell_lt y2a)).trans y2a, hbb⟩
            clear hK K
            try simp only [Act.put, List.setIfInBounds_toArray, List.set_cons_zero, List.set_cons_succ]
            refine wpAnyH_take (i := 8) (oi := ⟨some 96, _, _, _, _, _⟩) (v := .bool false) rfl (by kernel_rfl) (by kernel_rfl) (by kernel_rfl) (fun _ _ _ h => h) (Or.inl ⟨by rfl, ?_⟩) (by assumption) ?_
            · intro wS hSw
              (try dsimp only at hSw)
              go_simp
            simp only [Act.put, List.setIfInBounds_toArray, List.set_cons_zero, List.set_cons_succ]
            refine wpAnyH_take (i := 9) (oi := ⟨some 97, _, _, _, _, _⟩) (v := .bool false) rfl (by kernel_rfl) (by kernel_rfl) (by kernel_rfl) (fun _ _ _ h => h) (Or.inl ⟨by rfl, ?_⟩) (by assumption) ?_
            · intro wS hSw
              (try dsimp only at hSw)
              go_simp
            simp only [Act.put, List.setIfInBounds_toArray, List.set_cons_zero, List.set_cons_succ]
            refine wpAnyH_take (i := 10) (oi := ⟨some 98, _, _, _, _, _⟩) (v := .bool false) rfl (by kernel_rfl) (by kernel_rfl) (by kernel_rfl) (fun _ _ _ h => h) (Or.inl ⟨by rfl, ?_⟩) (by assumption) ?_
            · intro wS hSw
              (try dsimp only at hSw)
              go_simp
            simp only [Act.put, List.setIfInBounds_toArray, List.set_cons_zero, List.set_cons_succ]
            refine wpAnyH_take (i := 11) (oi := ⟨some 99, _, _, _, _, _⟩) (v := undef) rfl (by kernel_rfl) (by kernel_rfl) (by kernel_rfl) (fun _ _ _ h => h) (Or.inr ⟨by rfl, rfl⟩) (by assumption) ?_
            simp only [Act.put, List.setIfInBounds_toArray, List.set_cons_zero, List.set_cons_succ]
            refine wpAnyH_take (i := 12) (oi := ⟨some 100, _, _, _, _, _⟩) (v := undef) rfl (by kernel_rfl) (by kernel_rfl) (by kernel_rfl) (fun _ _ _ h => h) (Or.inr ⟨by rfl, rfl⟩) (by assumption) ?_
            simp only [Act.put, List.setIfInBounds_toArray, List.set_cons_zero, List.set_cons_succ]
            refine wpAnyH_take (i := 13) (oi := ⟨some 101, _, _, _, _, _⟩) (v := .bool false) rfl (by kernel_rfl) (by kernel_rfl) (by kernel_rfl) (fun _ _ _ h => h) (Or.inl ⟨by rfl, ?_⟩) (by assumption) ?_
            · intro wS hSw
              (try dsimp only at hSw)
              go_simp
            simp only [Act.put, List.setIfInBounds_toArray, List.set_cons_zero, List.set_cons_succ]
            refine wpAnyH_take (i := 14) (oi := ⟨some 102, _, _, _, _, _⟩) (v := .bool false) rfl (by kernel_rfl) (by kernel_rfl) (by kernel_rfl) (fun _ _ _ h => h) (Or.inl ⟨by rfl, ?_⟩) (by assumption) ?_
            · intro wS hSw
              (try dsimp only at hSw)
              go_simp
            simp only [Act.put, List.setIfInBounds_toArray, List.set_cons_zero, List.set_cons_succ]
            refine wpAnyH_take (i := 15) (oi := ⟨some 103, _, _, _, _, _⟩) (v := undef) rfl (by kernel_rfl) (by kernel_rfl) (by kernel_rfl) (fun _ _ _ h => h) (Or.inr ⟨by rfl, rfl⟩) (by assumption) ?_
            simp only [Act.put, List.setIfInBounds_toArray, List.set_cons_zero, List.set_cons_succ]
            refine wpAnyH_take (i := 16) (oi := ⟨some 104, _, _, _, _, _⟩) (v := undef) rfl (by kernel_rfl) (by kernel_rfl) (by kernel_rfl) (fun _ _ _ h => h) (Or.inr ⟨by rfl, rfl⟩) (by assumption) ?_
            simp only [Act.put, List.setIfInBounds_toArray, List.set_cons_zero, List.set_cons_succ]
            refine wpAnyH_take (i := 17) (oi := ⟨some 105, _, _, _, _, _⟩) (v := .bool false) rfl (by kernel_rfl) (by kernel_rfl) (by kernel_rfl) (fun _ _ _ h => h) (Or.inl ⟨by rfl, ?_⟩) (by assumption) ?_
            · intro wS hSw
              (try dsimp only at hSw)
              go_simp
            simp only [Act.put, List.setIfInBounds_toArray, List.set_cons_zero, List.set_cons_succ]
            refine wpAnyH_done (by kernel_rfl) ?_ _
            have HFIN := Lib.hid (HFB.out wb hbb)
            clear hbb hHeld
            go_wp2_with fail
            refine (HD4.out _).mono ?_
            rintro e wz ⟨rfl, rfl⟩
            go_wp2_with fail
            go_ret
            rw [HC.out, HBAD.out]
            exact ⟨rfl, HFIN.out⟩
          have t5 : ((itoaB n).toList == w2'.toList) = true := by rw [beq_iff_eq, HIE.out.1, HIE.out.2]; exact he
          by_cases h0 : n < 0
          · have HC : Hid (cmdOf line = .bad) := by rw [Hid, HC3.out, HNM.out, if_neg (fun h => by omega)]
            have t6 : decide (0 ≤ n) = false := decide_eq_false (by omega)
            clear HC3 HNM hrg he h0
            go_wp2_with fail
            refine wp_region_held_drew (S := fun w' => w'.cell? ⟨b, o + 2, none⟩ = some (.string w2') ∧ Below wa.heap.size wa w') (by kernel_rfl) HSA0.out (fun hHeld => ?_)
            refine wpAnyH_take (i := 0) (oi := ⟨some 88, _, _, _, _, _⟩) (v := .nilIface) rfl (by kernel_rfl) (by kernel_rfl) (by kernel_rfl) (fun _ _ _ h => h) (Or.inl ⟨by rfl, ?_⟩) (by assumption) ?_
            · intro wS hSw
              (try dsimp only at hSw)
              go_simp
            simp only [Act.put, List.setIfInBounds_toArray, List.set_cons_zero, List.set_cons_succ]
            refine wpAnyH_take (i := 1) (oi := ⟨some 89, _, _, _, _, _⟩) (v := .bool true) rfl (by kernel_rfl) (by kernel_rfl) (by kernel_rfl) (fun _ _ _ h => h) (Or.inl ⟨by rfl, ?_⟩) (by assumption) ?_
            · intro wS hSw
              (try dsimp only at hSw)
              go_simp
            simp only [Act.put, List.setIfInBounds_toArray, List.set_cons_zero, List.set_cons_succ]
            refine wpAnyH_take (i := 2) (oi := ⟨some 90, _, _, _, _, _⟩) (v := .bool true) rfl (by kernel_rfl) (by kernel_rfl) (by kernel_rfl) (fun _ _ _ h => h) (Or.inl ⟨by rfl, ?_⟩) (by assumption) ?_
            · intro wS hSw
              (try dsimp only at hSw)
              go_simp
            simp only [Act.put, List.setIfInBounds_toArray, List.set_cons_zero, List.set_cons_succ]
            refine wpAnyH_take (i := 3) (oi := ⟨some 91, _, _, _, _, _⟩) (v := .int .i64 n) rfl (by kernel_rfl) (by kernel_rfl) (by kernel_rfl) (fun _ _ _ h => h) (Or.inl ⟨by rfl, ?_⟩) (by assumption) ?_
            · intro wS hSw
              (try dsimp only at hSw)
              go_simp
            simp only [Act.put, List.setIfInBounds_toArray, List.set_cons_zero, List.set_cons_succ]
            refine wpAnyH_take (i := 5) (oi := ⟨some 93, _, _, _, _, _⟩) (v := .slice (some ⟨b, o, none⟩) 3 cp) rfl (by kernel_rfl) (by kernel_rfl) (by kernel_rfl) (fun _ _ _ h => h) (Or.inl ⟨by rfl, ?_⟩) (by assumption) ?_
            · intro wS hSw
              (try dsimp only at hSw)
              go_simp
            simp only [Act.put, List.setIfInBounds_toArray, List.set_cons_zero, List.set_cons_succ]
            refine wpAnyH_take (i := 6) (oi := ⟨some 94, _, _, _, _, _⟩) (v := .pointer (some ⟨b, o + 2, none⟩)) rfl (by kernel_rfl) (by kernel_rfl) (by kernel_rfl) (fun _ _ _ h => h) (Or.inl ⟨by rfl, ?_⟩) (by assumption) ?_
            · intro wS hSw
              (try dsimp only at hSw)
              go_simp
            simp only [Act.put, List.setIfInBounds_toArray, List.set_cons_zero, List.set_cons_succ]
            refine wpAnyH_take (i := 7) (oi := ⟨some 95, _, _, _, _, _⟩) (v := .string w2') rfl (by kernel_rfl) (by kernel_rfl) (by kernel_rfl) (fun _ _ _ h => h) (Or.inl ⟨by rfl, ?_⟩) (by assumption) ?_
            · intro wS hSw
              (try dsimp only at hSw)
              go_simp
            simp only [Act.put, List.setIfInBounds_toArray, List.set_cons_zero, List.set_cons_succ]
            refine wpAnyH_ready (rs := [4]) (by kernel_rfl) (by simp) ?_
            refine AllReadyH.cons (o := ⟨some 92, _, _, _, _, _⟩) rfl (fun K hK => ?_) AllReadyH.nil
            go_simp
            refine (HIT.out _ hHeld.2).mono ?_
            rintro e wb ⟨rfl, hbb⟩
            refine hK.out _ _ ?_ (fun hHeld => ?_)
            · exact ⟨(hbb.cell (cell_lt y2a)).trans y2a, hbb⟩
            clear hK K
            try simp only [Act.put, List.setIfInBounds_toArray, List.set_cons_zero, List.set_cons_succ]
            refine wpAnyH_take (i := 8) (oi := ⟨some 96, _, _, _, _, _⟩) (v := .bool true) rfl (by kernel_rfl) (by kernel_rfl) (by kernel_rfl) (fun _ _ _ h => h) (Or.inl ⟨by rfl, ?_⟩) (by assumption) ?_
            · intro wS hSw
              (try dsimp only at hSw)
              go_simp
            simp only [Act.put, List.setIfInBounds_toArray, List.set_cons_zero, List.set_cons_succ]
            refine wpAnyH_take (i := 9) (oi := ⟨some 97, _, _, _, _, _⟩) (v := .bool true) rfl (by kernel_rfl) (by kernel_rfl) (by kernel_rfl) (fun _ _ _ h => h) (Or.inl ⟨by rfl, ?_⟩) (by assumption) ?_
            · intro wS hSw
              (try dsimp only at hSw)
              go_simp
            simp only [Act.put, List.setIfInBounds_toArray, List.set_cons_zero, List.set_cons_succ]
            refine wpAnyH_take (i := 10) (oi := ⟨some 98, _, _, _, _, _⟩) (v := .bool true) rfl (by kernel_rfl) (by kernel_rfl) (by kernel_rfl) (fun _ _ _ h => h) (Or.inl ⟨by rfl, ?_⟩) (by assumption) ?_
            · intro wS hSw
              (try dsimp only at hSw)
              go_simp
            simp only [Act.put, List.setIfInBounds_toArray, List.set_cons_zero, List.set_cons_succ]
            refine wpAnyH_take (i := 11) (oi := ⟨some 99, _, _, _, _, _⟩) (v := .int .i64 n) rfl (by kernel_rfl) (by kernel_rfl) (by kernel_rfl) (fun _ _ _ h => h) (Or.inl ⟨by rfl, ?_⟩) (by assumption) ?_
            · intro wS hSw
              (try dsimp only at hSw)
              go_simp
            simp only [Act.put, List.setIfInBounds_toArray, List.set_cons_zero, List.set_cons_succ]
            refine wpAnyH_take (i := 12) (oi := ⟨some 100, _, _, _, _, _⟩) (v := .bool false) rfl (by kernel_rfl) (by kernel_rfl) (by kernel_rfl) (fun _ _ _ h => h) (Or.inl ⟨by rfl, ?_⟩) (by assumption) ?_
            · intro wS hSw
              (try dsimp only at hSw)
              go_simp
            simp only [Act.put, List.setIfInBounds_toArray, List.set_cons_zero, List.set_cons_succ]
            refine wpAnyH_take (i := 13) (oi := ⟨some 101, _, _, _, _, _⟩) (v := .bool false) rfl (by kernel_rfl) (by kernel_rfl) (by kernel_rfl) (fun _ _ _ h => h) (Or.inl ⟨by rfl, ?_⟩) (by assumption) ?_
            · intro wS hSw
              (try dsimp only at hSw)
              go_simp
            simp only [Act.put, List.setIfInBounds_toArray, List.set_cons_zero, List.set_cons_succ]
            refine wpAnyH_take (i := 14) (oi := ⟨some 102, _, _, _, _, _⟩) (v := .bool false) rfl (by kernel_rfl) (by kernel_rfl) (by kernel_rfl) (fun _ _ _ h => h) (Or.inl ⟨by rfl, ?_⟩) (by assumption) ?_
            · intro wS hSw
              (try dsimp only at hSw)
              go_simp
            simp only [Act.put, List.setIfInBounds_toArray, List.set_cons_zero, List.set_cons_succ]
            refine wpAnyH_take (i := 15) (oi := ⟨some 103, _, _, _, _, _⟩) (v := undef) rfl (by kernel_rfl) (by kernel_rfl) (by kernel_rfl) (fun _ _ _ h => h) (Or.inr ⟨by rfl, rfl⟩) (by assumption) ?_
            simp only [Act.put, List.setIfInBounds_toArray, List.set_cons_zero, List.set_cons_succ]
            refine wpAnyH_take (i := 16) (oi := ⟨some 104, _, _, _, _, _⟩) (v := undef) rfl (by kernel_rfl) (by kernel_rfl) (by kernel_rfl) (fun _ _ _ h => h) (Or.inr ⟨by rfl, rfl⟩) (by assumption) ?_
            simp only [Act.put, List.setIfInBounds_toArray, List.set_cons_zero, List.set_cons_succ]
            refine wpAnyH_take (i := 17) (oi := ⟨some 105, _, _, _, _, _⟩) (v := .bool false) rfl (by kernel_rfl) (by kernel_rfl) (by kernel_rfl) (fun _ _ _ h => h) (Or.inl ⟨by rfl, ?_⟩) (by assumption) ?_
            · intro wS hSw
              (try dsimp only at hSw)
              go_simp
            simp only [Act.put, List.setIfInBounds_toArray, List.set_cons_zero, List.set_cons_succ]
            refine wpAnyH_done (by kernel_rfl) ?_ _
            have HFIN := Lib.hid (HFB.out wb hbb)
            clear hbb hHeld
            go_wp2_with fail
            refine (HD4.out _).mono ?_
            rintro e wz ⟨rfl, rfl⟩
            go_wp2_with fail
            go_ret
            rw [HC.out, HBAD.out]
            exact ⟨rfl, HFIN.out⟩
          have t6 : decide (0 ≤ n) = true := decide_eq_true (by omega)
          by_cases h9 : 999 < n
          · have HC : Hid (cmdOf line = .bad) := by rw [Hid, HC3.out, HNM.out, if_neg (fun h => by omega)]
            have t7 : decide (n ≤ 999) = false := decide_eq_false (by omega)
            clear HC3 HNM hrg he h0 h9
            go_wp2_with fail
            refine wp_region_held_drew (S := fun w' => w'.cell? ⟨b, o + 2, none⟩ = some (.string w2') ∧ Below wa.heap.size wa w') (by kernel_rfl) HSA0.out (fun hHeld => ?_)
            refine wpAnyH_take (i := 0) (oi := ⟨some 88, _, _, _, _, _⟩) (v := .nilIface) rfl (by kernel_rfl) (by kernel_rfl) (by kernel_rfl) (fun _ _ _ h => h) (Or.inl ⟨by rfl, ?_⟩) (by assumption) ?_
            · intro wS hSw
              (try dsimp only at hSw)
              go_simp
            simp only [Act.put, List.setIfInBounds_toArray, List.set_cons_zero, List.set_cons_succ]
            refine wpAnyH_take (i := 1) (oi := ⟨some 89, _, _, _, _, _⟩) (v := .bool true) rfl (by kernel_rfl) (by kernel_rfl) (by kernel_rfl) (fun _ _ _ h => h) (Or.inl ⟨by rfl, ?_⟩) (by assumption) ?_
            · intro wS hSw
              (try dsimp only at hSw)
              go_simp
            simp only [Act.put, List.setIfInBounds_toArray, List.set_cons_zero, List.set_cons_succ]
            refine wpAnyH_take (i := 2) (oi := ⟨some 90, _, _, _, _, _⟩) (v := .bool true) rfl (by kernel_rfl) (by kernel_rfl) (by kernel_rfl) (fun _ _ _ h => h) (Or.inl ⟨by rfl, ?_⟩) (by assumption) ?_
            · intro wS hSw
              (try dsimp only at hSw)
              go_simp
            simp only [Act.put, List.setIfInBounds_toArray, List.set_cons_zero, List.set_cons_succ]
            refine wpAnyH_take (i := 3) (oi := ⟨some 91, _, _, _, _, _⟩) (v := .int .i64 n) rfl (by kernel_rfl) (by kernel_rfl) (by kernel_rfl) (fun _ _ _ h => h) (Or.inl ⟨by rfl, ?_⟩) (by assumption) ?_
            · intro wS hSw
              (try dsimp only at hSw)
              go_simp
            simp only [Act.put, List.setIfInBounds_toArray, List.set_cons_zero, List.set_cons_succ]
            refine wpAnyH_take (i := 5) (oi := ⟨some 93, _, _, _, _, _⟩) (v := .slice (some ⟨b, o, none⟩) 3 cp) rfl (by kernel_rfl) (by kernel_rfl) (by kernel_rfl) (fun _ _ _ h => h) (Or.inl ⟨by rfl, ?_⟩) (by assumption) ?_
            · intro wS hSw
              (try dsimp only at hSw)
              go_simp
            simp only [Act.put, List.setIfInBounds_toArray, List.set_cons_zero, List.set_cons_succ]
            refine wpAnyH_take (i := 6) (oi := ⟨some 94, _, _, _, _, _⟩) (v := .pointer (some ⟨b, o + 2, none⟩)) rfl (by kernel_rfl) (by kernel_rfl) (by kernel_rfl) (fun _ _ _ h => h) (Or.inl ⟨by rfl, ?_⟩) (by assumption) ?_
            · intro wS hSw
              (try dsimp only at hSw)
              go_simp
            simp only [Act.put, List.setIfInBounds_toArray, List.set_cons_zero, List.set_cons_succ]
            refine wpAnyH_take (i := 7) (oi := ⟨some 95, _, _, _, _, _⟩) (v := .string w2') rfl (by kernel_rfl) (by kernel_rfl) (by kernel_rfl) (fun _ _ _ h => h) (Or.inl ⟨by rfl, ?_⟩) (by assumption) ?_
            · intro wS hSw
              (try dsimp only at hSw)
              go_simp
            simp only [Act.put, List.setIfInBounds_toArray, List.set_cons_zero, List.set_cons_succ]
            refine wpAnyH_ready (rs := [4]) (by kernel_rfl) (by simp) ?_
            refine AllReadyH.cons (o := ⟨some 92, _, _, _, _, _⟩) rfl (fun K hK => ?_) AllReadyH.nil
            go_simp
            refine (HIT.out _ hHeld.2).mono ?_
            rintro e wb ⟨rfl, hbb⟩
            refine hK.out _ _ ?_ (fun hHeld => ?_)
            · exact ⟨(hbb.cell (cell_lt y2a)).trans y2a, hbb⟩
            clear hK K
            try simp only [Act.put, List.setIfInBounds_toArray, List.set_cons_zero, List.set_cons_succ]
            refine wpAnyH_take (i := 8) (oi := ⟨some 96, _, _, _, _, _⟩) (v := .bool true) rfl (by kernel_rfl) (by kernel_rfl) (by kernel_rfl) (fun _ _ _ h => h) (Or.inl ⟨by rfl, ?_⟩) (by assumption) ?_
            · intro wS hSw
              (try dsimp only at hSw)
              go_simp
            simp only [Act.put, List.setIfInBounds_toArray, List.set_cons_zero, List.set_cons_succ]
            refine wpAnyH_take (i := 9) (oi := ⟨some 97, _, _, _, _, _⟩) (v := .bool true) rfl (by kernel_rfl) (by kernel_rfl) (by kernel_rfl) (fun _ _ _ h => h) (Or.inl ⟨by rfl, ?_⟩) (by assumption) ?_
            · intro wS hSw
              (try dsimp only at hSw)
              go_simp
            simp only [Act.put, List.setIfInBounds_toArray, List.set_cons_zero, List.set_cons_succ]
            refine wpAnyH_take (i := 10) (oi := ⟨some 98, _, _, _, _, _⟩) (v := .bool true) rfl (by kernel_rfl) (by kernel_rfl) (by kernel_rfl) (fun _ _ _ h => h) (Or.inl ⟨by rfl, ?_⟩) (by assumption) ?_
            · intro wS hSw
              (try dsimp only at hSw)
              go_simp
            simp only [Act.put, List.setIfInBounds_toArray, List.set_cons_zero, List.set_cons_succ]
            refine wpAnyH_take (i := 11) (oi := ⟨some 99, _, _, _, _, _⟩) (v := .int .i64 n) rfl (by kernel_rfl) (by kernel_rfl) (by kernel_rfl) (fun _ _ _ h => h) (Or.inl ⟨by rfl, ?_⟩) (by assumption) ?_
            · intro wS hSw
              (try dsimp only at hSw)
              go_simp
            simp only [Act.put, List.setIfInBounds_toArray, List.set_cons_zero, List.set_cons_succ]
            refine wpAnyH_take (i := 12) (oi := ⟨some 100, _, _, _, _, _⟩) (v := .bool true) rfl (by kernel_rfl) (by kernel_rfl) (by kernel_rfl) (fun _ _ _ h => h) (Or.inl ⟨by rfl, ?_⟩) (by assumption) ?_
            · intro wS hSw
              (try dsimp only at hSw)
              go_simp
            simp only [Act.put, List.setIfInBounds_toArray, List.set_cons_zero, List.set_cons_succ]
            refine wpAnyH_take (i := 13) (oi := ⟨some 101, _, _, _, _, _⟩) (v := .bool true) rfl (by kernel_rfl) (by kernel_rfl) (by kernel_rfl) (fun _ _ _ h => h) (Or.inl ⟨by rfl, ?_⟩) (by assumption) ?_
            · intro wS hSw
              (try dsimp only at hSw)
              go_simp
            simp only [Act.put, List.setIfInBounds_toArray, List.set_cons_zero, List.set_cons_succ]
            refine wpAnyH_take (i := 14) (oi := ⟨some 102, _, _, _, _, _⟩) (v := .bool true) rfl (by kernel_rfl) (by kernel_rfl) (by kernel_rfl) (fun _ _ _ h => h) (Or.inl ⟨by rfl, ?_⟩) (by assumption) ?_
            · intro wS hSw
              (try dsimp only at hSw)
              go_simp
            simp only [Act.put, List.setIfInBounds_toArray, List.set_cons_zero, List.set_cons_succ]
            refine wpAnyH_take (i := 15) (oi := ⟨some 103, _, _, _, _, _⟩) (v := .int .i64 n) rfl (by kernel_rfl) (by kernel_rfl) (by kernel_rfl) (fun _ _ _ h => h) (Or.inl ⟨by rfl, ?_⟩) (by assumption) ?_
            · intro wS hSw
              (try dsimp only at hSw)
              go_simp
            simp only [Act.put, List.setIfInBounds_toArray, List.set_cons_zero, List.set_cons_succ]
            refine wpAnyH_take (i := 16) (oi := ⟨some 104, _, _, _, _, _⟩) (v := .bool false) rfl (by kernel_rfl) (by kernel_rfl) (by kernel_rfl) (fun _ _ _ h => h) (Or.inl ⟨by rfl, ?_⟩) (by assumption) ?_
            · intro wS hSw
              (try dsimp only at hSw)
              go_simp
            simp only [Act.put, List.setIfInBounds_toArray, List.set_cons_zero, List.set_cons_succ]
            refine wpAnyH_take (i := 17) (oi := ⟨some 105, _, _, _, _, _⟩) (v := .bool false) rfl (by kernel_rfl) (by kernel_rfl) (by kernel_rfl) (fun _ _ _ h => h) (Or.inl ⟨by rfl, ?_⟩) (by assumption) ?_
            · intro wS hSw
              (try dsimp only at hSw)
              go_simp
            simp only [Act.put, List.setIfInBounds_toArray, List.set_cons_zero, List.set_cons_succ]
            refine wpAnyH_done (by kernel_rfl) ?_ _
            have HFIN := Lib.hid (HFB.out wb hbb)
            clear hbb hHeld
            go_wp2_with fail
            refine (HD4.out _).mono ?_
            rintro e wz ⟨rfl, rfl⟩
            go_wp2_with fail
            go_ret
            rw [HC.out, HBAD.out]
            exact ⟨rfl, HFIN.out⟩
          have t7 : decide (n ≤ 999) = true := decide_eq_true (by omega)
          have HC : Hid (cmdOf line = .page w1' n.toNat) := by rw [Hid, HC3.out, HNM.out, if_pos ⟨he, by omega, by omega⟩]
          have HRW : Hid (∀ wb, Below wa.heap.size wa wb → Calls Tryz.prog 33 #[.pointer (some ⟨x, 0, none⟩), .string w1', .int .i64 n] wb fun e w' => e = .returned (.string (toldB (pageM s.rows w1' n.toNat))) ∧ Below wa.heap.size wa w') := fun wb hbb => (conrows_any B x k c s w1' n wb (HSA.out.below hbb)).mono fun e w' ⟨h1, h2⟩ => ⟨h1, hbb.trans (h2.mono hbb.size)⟩
          have HPG : Hid (conM c s (.page w1' n.toNat) = (c, s, toldB (pageM s.rows w1' n.toNat))) := rfl
          generalize toldB (pageM s.rows w1' n.toNat) = T at *
          clear he h0 h9 hrg HC3 HNM
          go_wp2_with fail
          refine wp_region_held_drew (S := fun w' => w'.cell? ⟨b, o + 2, none⟩ = some (.string w2') ∧ Below wa.heap.size wa w') (by kernel_rfl) HSA0.out (fun hHeld => ?_)
          refine wpAnyH_take (i := 0) (oi := ⟨some 88, _, _, _, _, _⟩) (v := .nilIface) rfl (by kernel_rfl) (by kernel_rfl) (by kernel_rfl) (fun _ _ _ h => h) (Or.inl ⟨by rfl, ?_⟩) (by assumption) ?_
          · intro wS hSw
            (try dsimp only at hSw)
            go_simp
          simp only [Act.put, List.setIfInBounds_toArray, List.set_cons_zero, List.set_cons_succ]
          refine wpAnyH_take (i := 1) (oi := ⟨some 89, _, _, _, _, _⟩) (v := .bool true) rfl (by kernel_rfl) (by kernel_rfl) (by kernel_rfl) (fun _ _ _ h => h) (Or.inl ⟨by rfl, ?_⟩) (by assumption) ?_
          · intro wS hSw
            (try dsimp only at hSw)
            go_simp
          simp only [Act.put, List.setIfInBounds_toArray, List.set_cons_zero, List.set_cons_succ]
          refine wpAnyH_take (i := 2) (oi := ⟨some 90, _, _, _, _, _⟩) (v := .bool true) rfl (by kernel_rfl) (by kernel_rfl) (by kernel_rfl) (fun _ _ _ h => h) (Or.inl ⟨by rfl, ?_⟩) (by assumption) ?_
          · intro wS hSw
            (try dsimp only at hSw)
            go_simp
          simp only [Act.put, List.setIfInBounds_toArray, List.set_cons_zero, List.set_cons_succ]
          refine wpAnyH_take (i := 3) (oi := ⟨some 91, _, _, _, _, _⟩) (v := .int .i64 n) rfl (by kernel_rfl) (by kernel_rfl) (by kernel_rfl) (fun _ _ _ h => h) (Or.inl ⟨by rfl, ?_⟩) (by assumption) ?_
          · intro wS hSw
            (try dsimp only at hSw)
            go_simp
          simp only [Act.put, List.setIfInBounds_toArray, List.set_cons_zero, List.set_cons_succ]
          refine wpAnyH_take (i := 5) (oi := ⟨some 93, _, _, _, _, _⟩) (v := .slice (some ⟨b, o, none⟩) 3 cp) rfl (by kernel_rfl) (by kernel_rfl) (by kernel_rfl) (fun _ _ _ h => h) (Or.inl ⟨by rfl, ?_⟩) (by assumption) ?_
          · intro wS hSw
            (try dsimp only at hSw)
            go_simp
          simp only [Act.put, List.setIfInBounds_toArray, List.set_cons_zero, List.set_cons_succ]
          refine wpAnyH_take (i := 6) (oi := ⟨some 94, _, _, _, _, _⟩) (v := .pointer (some ⟨b, o + 2, none⟩)) rfl (by kernel_rfl) (by kernel_rfl) (by kernel_rfl) (fun _ _ _ h => h) (Or.inl ⟨by rfl, ?_⟩) (by assumption) ?_
          · intro wS hSw
            (try dsimp only at hSw)
            go_simp
          simp only [Act.put, List.setIfInBounds_toArray, List.set_cons_zero, List.set_cons_succ]
          refine wpAnyH_take (i := 7) (oi := ⟨some 95, _, _, _, _, _⟩) (v := .string w2') rfl (by kernel_rfl) (by kernel_rfl) (by kernel_rfl) (fun _ _ _ h => h) (Or.inl ⟨by rfl, ?_⟩) (by assumption) ?_
          · intro wS hSw
            (try dsimp only at hSw)
            go_simp
          simp only [Act.put, List.setIfInBounds_toArray, List.set_cons_zero, List.set_cons_succ]
          refine wpAnyH_ready (rs := [4]) (by kernel_rfl) (by simp) ?_
          refine AllReadyH.cons (o := ⟨some 92, _, _, _, _, _⟩) rfl (fun K hK => ?_) AllReadyH.nil
          go_simp
          refine (HIT.out _ hHeld.2).mono ?_
          rintro e wb ⟨rfl, hbb⟩
          refine hK.out _ _ ?_ (fun hHeld => ?_)
          · exact ⟨(hbb.cell (cell_lt y2a)).trans y2a, hbb⟩
          clear hK K
          try simp only [Act.put, List.setIfInBounds_toArray, List.set_cons_zero, List.set_cons_succ]
          refine wpAnyH_take (i := 8) (oi := ⟨some 96, _, _, _, _, _⟩) (v := .bool true) rfl (by kernel_rfl) (by kernel_rfl) (by kernel_rfl) (fun _ _ _ h => h) (Or.inl ⟨by rfl, ?_⟩) (by assumption) ?_
          · intro wS hSw
            (try dsimp only at hSw)
            go_simp
          simp only [Act.put, List.setIfInBounds_toArray, List.set_cons_zero, List.set_cons_succ]
          refine wpAnyH_take (i := 9) (oi := ⟨some 97, _, _, _, _, _⟩) (v := .bool true) rfl (by kernel_rfl) (by kernel_rfl) (by kernel_rfl) (fun _ _ _ h => h) (Or.inl ⟨by rfl, ?_⟩) (by assumption) ?_
          · intro wS hSw
            (try dsimp only at hSw)
            go_simp
          simp only [Act.put, List.setIfInBounds_toArray, List.set_cons_zero, List.set_cons_succ]
          refine wpAnyH_take (i := 10) (oi := ⟨some 98, _, _, _, _, _⟩) (v := .bool true) rfl (by kernel_rfl) (by kernel_rfl) (by kernel_rfl) (fun _ _ _ h => h) (Or.inl ⟨by rfl, ?_⟩) (by assumption) ?_
          · intro wS hSw
            (try dsimp only at hSw)
            go_simp
          simp only [Act.put, List.setIfInBounds_toArray, List.set_cons_zero, List.set_cons_succ]
          refine wpAnyH_take (i := 11) (oi := ⟨some 99, _, _, _, _, _⟩) (v := .int .i64 n) rfl (by kernel_rfl) (by kernel_rfl) (by kernel_rfl) (fun _ _ _ h => h) (Or.inl ⟨by rfl, ?_⟩) (by assumption) ?_
          · intro wS hSw
            (try dsimp only at hSw)
            go_simp
          simp only [Act.put, List.setIfInBounds_toArray, List.set_cons_zero, List.set_cons_succ]
          refine wpAnyH_take (i := 12) (oi := ⟨some 100, _, _, _, _, _⟩) (v := .bool true) rfl (by kernel_rfl) (by kernel_rfl) (by kernel_rfl) (fun _ _ _ h => h) (Or.inl ⟨by rfl, ?_⟩) (by assumption) ?_
          · intro wS hSw
            (try dsimp only at hSw)
            go_simp
          simp only [Act.put, List.setIfInBounds_toArray, List.set_cons_zero, List.set_cons_succ]
          refine wpAnyH_take (i := 13) (oi := ⟨some 101, _, _, _, _, _⟩) (v := .bool true) rfl (by kernel_rfl) (by kernel_rfl) (by kernel_rfl) (fun _ _ _ h => h) (Or.inl ⟨by rfl, ?_⟩) (by assumption) ?_
          · intro wS hSw
            (try dsimp only at hSw)
            go_simp
          simp only [Act.put, List.setIfInBounds_toArray, List.set_cons_zero, List.set_cons_succ]
          refine wpAnyH_take (i := 14) (oi := ⟨some 102, _, _, _, _, _⟩) (v := .bool true) rfl (by kernel_rfl) (by kernel_rfl) (by kernel_rfl) (fun _ _ _ h => h) (Or.inl ⟨by rfl, ?_⟩) (by assumption) ?_
          · intro wS hSw
            (try dsimp only at hSw)
            go_simp
          simp only [Act.put, List.setIfInBounds_toArray, List.set_cons_zero, List.set_cons_succ]
          refine wpAnyH_take (i := 15) (oi := ⟨some 103, _, _, _, _, _⟩) (v := .int .i64 n) rfl (by kernel_rfl) (by kernel_rfl) (by kernel_rfl) (fun _ _ _ h => h) (Or.inl ⟨by rfl, ?_⟩) (by assumption) ?_
          · intro wS hSw
            (try dsimp only at hSw)
            go_simp
          simp only [Act.put, List.setIfInBounds_toArray, List.set_cons_zero, List.set_cons_succ]
          refine wpAnyH_take (i := 16) (oi := ⟨some 104, _, _, _, _, _⟩) (v := .bool true) rfl (by kernel_rfl) (by kernel_rfl) (by kernel_rfl) (fun _ _ _ h => h) (Or.inl ⟨by rfl, ?_⟩) (by assumption) ?_
          · intro wS hSw
            (try dsimp only at hSw)
            go_simp
          simp only [Act.put, List.setIfInBounds_toArray, List.set_cons_zero, List.set_cons_succ]
          refine wpAnyH_take (i := 17) (oi := ⟨some 105, _, _, _, _, _⟩) (v := .bool true) rfl (by kernel_rfl) (by kernel_rfl) (by kernel_rfl) (fun _ _ _ h => h) (Or.inl ⟨by rfl, ?_⟩) (by assumption) ?_
          · intro wS hSw
            (try dsimp only at hSw)
            go_simp
          simp only [Act.put, List.setIfInBounds_toArray, List.set_cons_zero, List.set_cons_succ]
          refine wpAnyH_done (by kernel_rfl) ?_ _
          have y1b := (hbb.cell (cell_lt y1)).trans y1
          have HR1 := Lib.hid (HRW.out wb hbb)
          clear hbb hHeld
          go_wp2_with fail
          refine HR1.out.mono ?_
          rintro e wc ⟨rfl, hbc⟩
          have HFIN := Lib.hid (HFB.out wc hbc)
          clear hbc
          go_wp2_with fail
          go_ret
          rw [HC.out, HPG.out]
          exact ⟨rfl, HFIN.out⟩
        · have HC : Hid (cmdOf line = .bad) := by
            rw [Hid, HC2.out]
            cases r'' with
            | nil =>
              rw [cmd2, if_neg (fun h => hp ⟨rfl, h⟩)]
            | cons y z => rfl
          have HFIN : Hid (SesC B w1 x (k + 1) c s ∧ Fr B AnyB w w1) := ⟨HS1.out.up, HF1.out⟩
          have hcase : ((w0 :: w1' :: w2' :: r'').length = 3 ∧ (w0.toList == [112, 97, 103, 101]) = false) ∨ 3 < (w0 :: w1' :: w2' :: r'').length := by
            cases r'' with
            | nil => exact .inl ⟨rfl, beq_eq_false_iff_ne.2 fun h => hp ⟨rfl, h⟩⟩
            | cons y z => exact .inr (by simp)
          generalize (w0 :: w1' :: w2' :: r'').length = N at *
          have g0 : 0 < N := by omega
          have n1 : ((N : Int) == 1) = false := beq_eq_false_iff_ne.2 (by omega)
          have n2 : ((N : Int) == 2) = false := beq_eq_false_iff_ne.2 (by omega)
          clear hcell hv1 hws HNO HSUB hp HC2
          rcases hcase with ⟨rfl, t4⟩ | hN
          · go_wp2_with fail
            refine (HD4.out _).mono ?_
            rintro e wz ⟨rfl, rfl⟩
            go_wp2_with fail
            go_ret
            rw [HC.out, HBAD.out]
            exact ⟨rfl, HFIN.out⟩
          · have n3 : ((N : Int) == 3) = false := beq_eq_false_iff_ne.2 (by omega)
            go_wp2_with fail
            refine (HD4.out _).mono ?_
            rintro e wz ⟨rfl, rfl⟩
            go_wp2_with fail
            go_ret
            rw [HC.out, HBAD.out]
            exact ⟨rfl, HFIN.out⟩
end Go.Proofs.YtaepdbkfaoiimabGreatDoor
/- The console: lines are answered one behind the other. Conditions: the library's variables are as the row says; no line weakens or arms. -/
set_option linter.unusedVariables false
set_option linter.unusedSimpArgs false
set_option linter.unnecessarySimpa false
namespace Go.Proofs.YtaepdbkfaoiimabGreatDoor
open Go.RowKit
attribute [local go_sem ↓] eql_err eql_nilerr neq_err neq_nilerr guard_err guard_nilerr guardn_err guardn_nilerr
/-- The formatted chip. -/
def formC : Chip := (noteR (blankM [] ((Chip.new.erase 0).1.erase 1).1).1 0 (manL 1 (blankM [] ((Chip.new.erase 0).1.erase 1).1).2.1)).1
def formB : Int := (blankM [] ((Chip.new.erase 0).1.erase 1).1).2.1
def formS : SM := ⟨manL 1 formB, 0, [], []⟩
theorem form_of {c : Chip} {b : Int} (h : FormE c b) : c = formC ∧ b = formB := by
  obtain ⟨c1, c2, c3, e1, e2, e3, e4⟩ := h
  unfold formC formB
  rw [e1]
  simp only
  rw [e2]
  simp only
  rw [e3]
  simp only
  first
    | (rw [e4]; done)
    | (rw [e4]; simp)
theorem own_fr {B b0 e size n : Nat} {M : Nat → Prop} {w w' : World} {v : Value} {xs : List Value} (h : w.ownsRow b0 e size v n xs) (hf : Fr B M w w') (hT : mutT e = false) : w'.ownsRow b0 e size v n xs := by
  refine ⟨h.1, ?_⟩
  rcases h.2 with hn | ⟨g, cap, cur, h1, hg, hh, hrest⟩
  · exact .inl hn
  · exact .inr ⟨g, cap, cur, h1, hg, (hf.block g (heap_lt hh) (.inr (.inr ⟨_, _, _, hh, hT⟩))).trans hh, hrest⟩
theorem Strs.frA {B B' : Nat} {M : Nat → Prop} {w w' : World} {v : Value} {l : List ByteArray} (h : Strs B w v l) (hf : Fr B M w w') : Strs B w' v l := h.fr hf
/-! ### how long the answers are -/
theorem joined_size {m : Nat} (xs : List ByteArray) (h : ∀ x ∈ xs, x.size ≤ m) : (joinedB xs).size ≤ (m + 1) * xs.length + 1 := by
  unfold joinedB
  split
  · show 1 ≤ _; omega
  · have := join_len (m := m) (xs.map fun x => x.data.toList) (by
      intro y hy
      obtain ⟨z, hz, rfl⟩ := List.mem_map.1 hy
      show z.data.toList.length ≤ m
      rw [Array.length_toList]
      exact h z hz)
    rw [List.length_map] at this
    show (Lib.join (xs.map fun x => x.data.toList) [32]).toArray.size ≤ _
    simp only [List.size_toArray]
    omega
theorem told_size {l : List Ent} (h : ∀ e ∈ l, faultE e = 0) (hn : l.length ≤ 40) : (toldB l).size ≤ 10000 := by
  have := joined_size (m := 25) (l.map pairB) (by
    intro x hx
    obtain ⟨e, he, rfl⟩ := List.mem_map.1 hx
    exact pair_size (h e he))
  rw [List.length_map] at this
  unfold toldB
  omega
theorem err_size {n : Nat} (h : n < 1000) : (errB n).size ≤ 9 := by
  unfold errB
  rw [ByteArray.size_append, dec_dig3 h]
  have : (dig3 n).toArray.size ≤ 3 := by
    unfold dig3
    repeat' split
    all_goals simp
  have h2 : txErr.size = 6 := rfl
  have h3 : (⟨(dig3 n).toArray⟩ : ByteArray).size = (dig3 n).toArray.size := rfl
  omega
theorem done_size {n : Nat} (h : n < 1000) : (doneB n).size ≤ 9 := by
  unfold doneB
  split
  · decide
  · exact err_size h
theorem con_size {k : Nat} {c : Chip} {s : SM} (h : Good k 0 c s) (hk : k ≤ 80) (cmd : Cmd) : (conM c s cmd).2.2.size ≤ 100000 := by
  have hpg : ∀ a n, (toldB (pageM s.rows a n)).size ≤ 100000 := fun a n => Nat.le_trans (told_size (fun e he => con_rowsf h.inv e (page_sub e he)) (Nat.le_trans (page_len _ _ _) h.inv.body.rows)) (by decide)
  have he : ∀ n, n < 1000 → (errB n).size ≤ 100000 := fun n hn => Nat.le_trans (err_size hn) (by decide)
  have hd : ∀ n, n < 1000 → (doneB n).size ≤ 100000 := fun n hn => Nat.le_trans (done_size hn) (by decide)
  cases cmd with
  | bad => exact he 4 (by decide)
  | write t =>
    unfold conM
    by_cases h0 : ofF t = 0
    · simp only [if_pos h0]
      obtain ⟨c', s', e, g, r⟩ := write_good h (by omega) (ofL t)
      rw [e]
      exact hd _ (Nat.lt_trans (checkR_lt s.rows (ofL t)) (by decide))
    · simp only [if_neg h0]
      exact he 4 (by decide)
  | rows => exact hpg _ _
  | blocks =>
    have hsr := spread_rng (c := c) (X := 1 + 12 * (k : Int)) (by omega) h.wear 22
    have ha : (itoaB (max (spreadM c 22).1 0)).size ≤ 3 := itoaB_size (by omega) (by omega)
    have hb : (itoaB (spreadM c 22).2).size ≤ 3 := itoaB_size (by omega) (by omega)
    have := joined_size (m := 4) (([0, 1, 2, 3, 4, 5].map fun i : Int => itoaB ((countK (kindM c s.m) i 24 : Nat) : Int)) ++ [txWear, itoaB (max (spreadM c 22).1 0), itoaB (spreadM c 22).2]) (by
      intro x hx
      rcases List.mem_append.1 hx with hx | hx
      · obtain ⟨i, _, rfl⟩ := List.mem_map.1 hx
        have := countK_le (kindM c s.m) i 24
        exact Nat.le_trans (itoaB_size (by omega) (by omega)) (by decide)
      · simp only [List.mem_cons, List.not_mem_nil, or_false] at hx
        rcases hx with rfl | rfl | rfl
        · decide
        · omega
        · omega)
    exact Nat.le_trans this (by simp)
  | flush =>
    obtain ⟨c', s', e, g, r, _⟩ := flush_good h (by omega)
    unfold conM
    rw [e]
    exact hd 0 (by decide)
  | compact =>
    obtain ⟨c', s', e, g, r, _⟩ := comp_good h (by omega)
    unfold conM
    rw [e]
    exact hd 0 (by decide)
  | opn => exact (show txOk.size ≤ 100000 by decide)
  | get key =>
    show (if (getE s.rows key).isSome then bq ++ ((getE s.rows key).getD Ent.zero).v else errB 5).size ≤ 100000
    cases hg : getE s.rows key with
    | none => exact he 5 (by decide)
    | some y =>
      have := (faultE_zero (con_rowsf h.inv y (List.mem_of_find?_eq_some hg))).2.2.2
      show (bq ++ y.v).size ≤ 100000
      rw [ByteArray.size_append, show bq.size = 1 from rfl]
      omega
  | page a n => exact hpg _ _
  | restart n => exact (show txOk.size ≤ 100000 by decide)
theorem outs_size {l : List ByteArray} : ∀ {k : Nat} {cs : Chip × SM}, Good k 0 cs.1 cs.2 → k + l.length ≤ 80 → ∀ z ∈ outsM cs l, z.size ≤ 100000 := by
  induction l with
  | nil => intro k cs _ _ z hz; cases hz
  | cons x l ih =>
    intro k cs h hk z hz
    simp only [List.length_cons] at hk
    rw [outsM] at hz
    rcases List.mem_cons.1 hz with rfl | hz
    · exact con_size h (by omega) _
    · exact ih (k := k + 1) (cs := ((conM cs.1 cs.2 (cmdOf x)).1, (conM cs.1 cs.2 (cmdOf x)).2.1)) (con_good h (by omega) (cmdOf x)).1 (by omega) z hz
theorem outs_len (l : List ByteArray) : ∀ cs : Chip × SM, (outsM cs l).length = l.length := by
  induction l with
  | nil => intro cs; rfl
  | cons x l ih => intro cs; rw [outsM, List.length_cons, ih, List.length_cons]
/-! ### an append to a row of texts leaves a session -/
section
variable {B x k p q t g : Nat} {w w' : World} {row : Option Nat} {c : Chip} {s : SM} {F : List Nat}
theorem blkS_grown {T : TypeId} {b : Nat} {cs : Array Value} (h : Blk w b T cs) (hT : T ≠ 9) (hg : w.grownBy w' row) (hr : (∀ g, row = some g → g < w.heap.size → B ≤ g ∧ ∃ cs fz, w.heap[g]? = some (.cells cs 9 fz))) : Blk w' b T cs := by
  refine (hg.block b h.lt fun e => ?_).trans h
  obtain ⟨_, cs', fz, hh⟩ := hr b e.symm h.lt
  unfold Blk at h
  rw [h] at hh
  injection hh with hh
  injection hh with _ e
  exact hT e
theorem rd_grown {T sz n : Nat} {v : Value} {xs : List Value} (h : Rd B T sz w v n xs) (hT : 9 ≠ T) (hg : w.grownBy w' row) (hr : (∀ g, row = some g → g < w.heap.size → B ≤ g ∧ ∃ cs fz, w.heap[g]? = some (.cells cs 9 fz))) : Rd B T sz w' v n xs :=
  h.grown hg fun g e hl => by
    obtain ⟨h1, cs, fz, hh⟩ := hr g e hl
    exact ⟨h1, cs, _, fz, hh, hT⟩
theorem chip_grown (h : ChipR B w p c) (hp : c.pend = none) (hg : w.grownBy w' row) (hr : (∀ g, row = some g → g < w.heap.size → B ≤ g ∧ ∃ cs fz, w.heap[g]? = some (.cells cs 9 fz))) : ChipR B w' p c := by
  obtain ⟨V, u, hv, hu, hwf⟩ := h
  rw [hp] at hu
  exact ⟨V, u, ⟨blkS_grown hv.blk (by decide) hg hr, fun b hb => rd_grown (hv.rows b hb) (by decide) hg hr, hv.base⟩, by rw [hp]; exact hu, hwf⟩
theorem tower_grown {l : List Ent} (h : Tower B w t l F) (hg : w.grownBy w' row) (hr : (∀ g, row = some g → g < w.heap.size → B ≤ g ∧ ∃ cs fz, w.heap[g]? = some (.cells cs 9 fz))) : Tower B w' t l F := by
  obtain ⟨ns, N, h1, h2, h3, h4, h5, h6⟩ := h
  exact ⟨ns, N, ⟨blkS_grown h1.head (by decide) hg hr, fun nd hnd => blkS_grown (h1.node nd hnd) (by decide) hg hr⟩, h2, h3, h4, h5, h6⟩
theorem store_grown (h : StoreR B w q p s F) (hg : w.grownBy w' row) (hr : (∀ g, row = some g → g < w.heap.size → B ≤ g ∧ ∃ cs fz, w.heap[g]? = some (.cells cs 9 fz))) : StoreR B w' q p s F := by
  obtain ⟨A1, c1, A2, c2, t, n, h1, h2, h3, h4, h5, h6⟩ := h
  exact ⟨A1, c1, A2, c2, t, n, blkS_grown h1 (by decide) hg hr, rd_grown h2 (by decide) hg hr, rd_grown h3 (by decide) hg hr, tower_grown h4 hg hr, h5, h6⟩
theorem calm_pend (h : Good k 0 c s) : c.pend = none := by
  have h1 := h.inv.wf.down
  rw [h.inv.up] at h1
  cases e : c.pend with
  | none => rfl
  | some p => rw [e] at h1; cases h1
theorem ses_grown (h : SesC B w x k c s) (hg : w.grownBy w' row) (hr : (∀ g, row = some g → g < w.heap.size → B ≤ g ∧ ∃ cs fz, w.heap[g]? = some (.cells cs 9 fz))) : SesC B w' x k c s := by
  obtain ⟨⟨p, q, F, h1, h2⟩, h3⟩ := h
  exact ⟨⟨p, q, F, blkS_grown h1 (by decide) hg hr, ⟨store_grown h2.st hg hr, chip_grown h2.ch (calm_pend h2.ok) hg hr, h2.ok⟩⟩, h3⟩
theorem own_kind {n : Nat} {v : Value} {xs : List Value} (h : w.ownsRow B 9 1 v n xs) : ∀ g, v.ownBlock = some g → g < w.heap.size → B ≤ g ∧ ∃ cs fz, w.heap[g]? = some (.cells cs 9 fz) := by
  intro g hgv hl
  rcases h.2 with ⟨rfl, _⟩ | ⟨g', cap, cur, rfl, hg', hh, _⟩
  · simp [Value.ownBlock] at hgv
  · simp [Value.ownBlock] at hgv
    subst hgv
    exact ⟨hg', cur, _, hh⟩
end
/-- What lines answer, on a chip that was formatted. -/
def runM (l : List ByteArray) : List ByteArray := outsM (formC, formS) l
set_option maxRecDepth 20000 in
set_option maxHeartbeats 8000000 in
theorem run_many (v : Value) (l : List ByteArray) (w : World) (hv : Strs w.heap.size w v l) (hm : 80 < l.length) :
    Calls Tryz.prog 5 #[v] w fun e w' => e = .returned (.tuple #[.slice none 0 0, errV 2]) ∧ w = w' := by
  obtain ⟨A, cp, rfl, _, _, _⟩ := hv.form
  have t1 : decide ((80 : Int) < (l.length : Int)) = true := decide_eq_true (by omega)
  clear hv
  go_enter Tryz.func5, Tryz.ntmps5
  go_wp2_with fail
  exact bodyPost_ret (v := .tuple #[.slice none 0 0, .iface 39 (.int .i64 2)]) (by simp [results, Tryz.results5, go_sem] <;> rfl) rfl ⟨rfl, rfl⟩
set_option maxRecDepth 20000 in
set_option maxHeartbeats 8000000 in
theorem run_any (v : Value) (l : List ByteArray) (w : World) (hl : LibW w.heap.size w) (hv : Strs w.heap.size w v l) (hm : l.length ≤ 80) (hno : ∀ x ∈ l, NoWA x) :
    Calls Tryz.prog 5 #[v] w fun e w' => ∃ u, e = .returned (.tuple #[u, .nilIface]) ∧ Strs w.heap.size w' u (runM l) ∧ Below w.heap.size w w' := by
  obtain ⟨A, cp, rfl, _, _, _⟩ := hv.form
  have t1 : decide ((80 : Int) < (l.length : Int)) = false := decide_eq_false (by omega)
  have HNEW := Lib.hid (cnew_any w.heap.size w (Nat.le_refl _))
  have HL := Lib.hid hl
  have HV := Lib.hid hv
  have HNO := Lib.hid hno
  clear hl hv hno
  go_enter Tryz.func5, Tryz.ntmps5
  go_wp2_with fail
  refine HNEW.out.mono ?_
  rintro e w1 ⟨p, rfl, hp, hr1, hb1⟩
  have HB1 := Lib.hid hb1
  have HFO := Lib.hid (format_more w.heap.size p w1 hr1)
  clear hr1 hb1 HNEW
  go_wp2_with fail
  refine HFO.out.mono ?_
  rintro e w2 ⟨c, b, rfl, hc2, hg, hf2, hfe⟩
  obtain ⟨rfl, rfl⟩ := form_of hfe
  have HB2 : Hid (Below w.heap.size w w2) := HB1.out.trans (hf2.below HB1.out.size)
  have hbx : Blk (w2.alloc (.cells #[.pointer (some ⟨p, 0, none⟩), .pointer none] 46)) w2.heap.size 46 #[.pointer (some ⟨p, 0, none⟩), .pointer none] := Blk.new _ _ _
  have HB3 : Hid (Below w.heap.size w (w2.alloc (.cells #[.pointer (some ⟨p, 0, none⟩), .pointer none] 46))) := HB2.out.alloc HB2.out.size _
  have hc3 : ChipR w.heap.size (w2.alloc (.cells #[.pointer (some ⟨p, 0, none⟩), .pointer none] 46)) p formC := hc2.below ((Below.refl _ _).alloc (Nat.le_refl _) _)
  have HO := Lib.hid (conopen_any w.heap.size w2.heap.size 0 p (.pointer none) formC formS _ HB2.out.size hbx hc3 hg)
  clear hc2 hg hf2 hfe HFO HB1 HB2 hbx hc3 hp
  go_wp2_with fail
  refine HO.out.mono ?_
  rintro e w3 ⟨rfl, hs3, hf3⟩
  have hB3 : w.heap.size ≤ w3.heap.size := Nat.le_trans HB3.out.size hf3.size
  have HFW : Hid (Below w.heap.size w w3) := HB3.out.trans (hf3.below HB3.out.size)
  have HS3 := Lib.hid hs3
  generalize w2.heap.size = x at *
  clear hs3 hf3 HO HB3
  have hgood := HS3.out.good
  have HST : Hid (∀ n, n ≤ l.length → Good n 0 (stM (formC, formS) (l.take n)).1 (stM (formC, formS) (l.take n)).2) := fun n hn => by
    have := (con_sts (l.take n) (k := 0) (cs := (formC, formS)) hgood (by rw [List.length_take]; omega)).1
    rw [List.length_take_of_le hn, Nat.zero_add] at this
    exact this
  have HOS : Hid (∀ z ∈ runM l, z.size ≤ 100000) := outs_size (k := 0) (cs := (formC, formS)) hgood (by omega)
  obtain ⟨i0, hinf, hz0, hz1, hz2⟩ := info_parts info_strS
  have HI := Lib.hid hinf
  have Z0 := Lib.hid hz0
  have Z1 := Lib.hid hz1
  have Z2 := Lib.hid hz2
  clear hinf hz0 hz1 hz2 hgood
  go_wp2_with fail
  go_loopw [7, 30] (fun u i wr => ∃ n : Nat, n ≤ l.length ∧ i = .int .i64 n ∧ Hid (wr.ownsRow w.heap.size 9 1 u n ((outsM (formC, formS) (l.take n)).map .string)) ∧ Hid (SesC w.heap.size wr x n (stM (formC, formS) (l.take n)).1 (stM (formC, formS) (l.take n)).2) ∧ Below w.heap.size w wr) (fun _ i _ => l.length - (intOf i).toNat)
  case atStart => exact ⟨0, Nat.zero_le _, rfl, World.ownsRow_nil _ _ _ _, HS3.out, HFW.out⟩
  case round =>
    clear HS3 HFW
    obtain ⟨n, hn, rfl, hown, hses, hbl⟩ := hrel
    have hbs := hbl.size
    by_cases hlt : n < l.length
    · obtain ⟨y, hy, htk, _⟩ := getElem?_of_lt hlt
      obtain ⟨_, _, b, o, rfl, hbw, hcell⟩ := (HV.out.below hbl).at_ (by omega)
      have d1 := hcell n y hy
      have g1 : (0 : Int) ≤ (n : Int) := by omega
      have g2 : (n : Int) < (l.length : Int) := by omega
      have HSN : Hid (stM (formC, formS) (l.take (n + 1)) = ((conM (stM (formC, formS) (l.take n)).1 (stM (formC, formS) (l.take n)).2 (cmdOf y)).1, (conM (stM (formC, formS) (l.take n)).1 (stM (formC, formS) (l.take n)).2 (cmdOf y)).2.1)) := by rw [Hid, htk, stM_snoc]
      have HON : Hid ((outsM (formC, formS) (l.take (n + 1))).map Value.string = (outsM (formC, formS) (l.take n)).map Value.string ++ [.string (conM (stM (formC, formS) (l.take n)).1 (stM (formC, formS) (l.take n)).2 (cmdOf y)).2.2]) := by rw [Hid, htk, outsM_snoc, List.map_append]; rfl
      have HSAY := Lib.hid (consay_any w.heap.size x n _ _ y wr (by omega) hbs (HNO.out y (List.mem_of_getElem? hy)) (HL.out.below hbl) hses.out)
      have HBL := Lib.hid hbl
      have HO1 := hown
      clear hcell hy htk hbl hown hses
      generalize (conM (stM (formC, formS) (l.take n)).1 (stM (formC, formS) (l.take n)).2 (cmdOf y)).2.2 = T at *
      go_wp2_with fail
      refine HSAY.out.mono ?_
      rintro e w5 ⟨rfl, hs5, hf5⟩
      have hb5 : Below w.heap.size w w5 := HBL.out.trans (hf5.below HBL.out.size)
      have hownA := Lib.hid (own_alloc (own_fr HO1.out hf5 (by decide)) (.cells #[.string T] 9))
      have hbA := Lib.hid (hb5.alloc hb5.size (.cells #[.string T] 9))
      have HSA := Lib.hid (hs5.below ((Below.refl w5.heap.size w5).alloc (Nat.le_refl _) (.cells #[.string T] 9)))
      have hbs5 := hb5.size
      clear hs5 hf5 hb5 HSAY HO1
      go_wp2_with (at_builtin; go_loud (refine wpList_append_rd _ rfl (.tmp 34) (.tmp 38) 22 rfl w.heap.size 9 i0 _ 1 16 Tryz.underlying22 HI.out Z0.out Z1.out Z2.out rfl (by decide) u7 _ _ rfl hownA.out w.heap.size 9 _ 1 _ rfl (rd_lit1S _ _ _ rfl _) (by simp [Value.oneCell']) (by unfold maxLen; omega) (by omega) (by simp; omega) ?_); intro v1 w7 hown1 hg1 hat1)
      have hb7 := below_own hbA.out (Nat.le_refl _) hownA.out hg1
      have hs7 : Hid (SesC w.heap.size w7 x (n + 1) (stM (formC, formS) (l.take (n + 1))).1 (stM (formC, formS) (l.take (n + 1))).2) := by
        rw [Hid, HSN.out]
        exact ses_grown HSA.out hg1 (own_kind hownA.out)
      have hown2 : Hid (w7.ownsRow w.heap.size 9 1 v1 (n + 1) ((outsM (formC, formS) (l.take (n + 1))).map .string)) := by
        rw [Hid, HON.out]; exact hown1
      clear hg1 hat1 hown1
      go_roundw
      case rel => exact ⟨n + 1, by omega, by go_num, hown2, hs7, hb7⟩
      case measure => simp [intOf] <;> omega
    · have hge : n = l.length := by omega
      subst hge
      rw [List.take_length] at hown
      have HFIN : Hid (Strs w.heap.size wr u7 (runM l)) := by
        refine ⟨?_, fun z hz => by have := HOS.out z hz; omega⟩
        have := Rd.of_own (B := w.heap.size) hown.out
        unfold runM
        rw [outs_len]
        exact this
      clear hown hses
      go_wp2_with fail
      exact bodyPost_ret (v := .tuple #[u7, .nilIface]) (by simp [results, Tryz.results5, go_sem] <;> rfl) rfl ⟨u7, rfl, HFIN.out, hbl⟩
end Go.Proofs.YtaepdbkfaoiimabGreatDoor
