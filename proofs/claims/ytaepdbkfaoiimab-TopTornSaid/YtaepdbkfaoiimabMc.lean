/- Several texts of this proof, one behind the other: walks and plain laws that the statements rest on. Conditions: none but those that each lemma names. -/
import Derived.Test.YtaepdbkfaoiimabMb
import Derived.Test.YtaepdbkfaoiimabChecked
import Derived.Laws.BitsAllLaws
import Derived.Laws.BitsLemmas
import Derived.LoopN
import Derived.Lib.SlBytesConst
import Derived.RangeFuncNested
import Derived.RangeFuncBound
import Derived.RangeFuncCalls
import Derived.RangeFuncLeaves
import Derived.Shelf.Abstract
import Derived.Shelf.RegionOpen
import Derived.WalkKit
import Derived.OwnWalkIn
import Derived.TacticsInMore
import Derived.LoopNIn
import Derived.LoopIn
import Derived.StillTailTactics
/- The contracts of manifest.Find and Note. Conditions: none but the sizes of any memory. -/
set_option linter.unusedVariables false
set_option linter.unusedSimpArgs false
namespace Go.Proofs.Ytaepdbkfaoiimab
open Go.RowKit

/-- A page is looked at: the newest manifest yet, and in which block. -/
def fStep (b : Int) (st : Man × Int) (s : Sheet) : Man × Int :=
  if s.t then st else match manOf s.d with
    | none => st
    | some m => if st.1.ep < m.ep then (m, b) else st
def findM (c : Chip) : Man × Int := (c.b 1).l.foldl (fStep 1) ((c.b 0).l.foldl (fStep 0) (Man.zero, -1))
def findR (c : Chip) : Man × Int × Nat := if c.down then (Man.zero, 0, 9) else if (findM c).2 < 0 then (Man.zero, 0, 4) else ((findM c).1, (findM c).2, 0)
/-- A manifest in a variable. -/
def ManB (B : Nat) (w : World) (g : Nat) (m : Man) : Prop := ∃ A1 c1 A2 c2, Blk w g 50 #[.int .i64 m.ep, .int .i64 m.log, .slice A1 m.nw.length c1, .slice A2 m.od.length c2] ∧ Ints B w (.slice A1 m.nw.length c1) m.nw ∧ Ints B w (.slice A2 m.od.length c2) m.od
theorem ManB.below {B g : Nat} {w w' : World} {m : Man} (h : ManB B w g m) (hb : Below w.heap.size w w') : ManB B w' g m := by
  obtain ⟨A1, c1, A2, c2, h1, h2, h3⟩ := h
  exact ⟨A1, c1, A2, c2, h1.below hb h1.lt, h2.below hb, h3.below hb⟩
theorem ManB.drewN {B g : Nat} {w : World} {m : Man} (h : ManB B w g m) (n : Nat) : ManB B (w.drewN n) g m := h
/-- A manifest is stored into another variable. -/
theorem ManB.store {B g : Nat} {w : World} {m : Man} {cs : Array Value} {A1 A2 : Option Addr} {c1 c2 : Nat} {a0 a1 a2 a3 : Value} (hb : Blk w g 50 #[a0, a1, a2, a3]) (hB : B ≤ g) (h2 : Ints B w (.slice A1 m.nw.length c1) m.nw) (h3 : Ints B w (.slice A2 m.od.length c2) m.od) :
    ManB B ((((w.setCell ⟨g, 0, none⟩ (.int .i64 m.ep)).setCell ⟨g, 1, none⟩ (.int .i64 m.log)).setCell ⟨g, 2, none⟩ (.slice A1 m.nw.length c1)).setCell ⟨g, 3, none⟩ (.slice A2 m.od.length c2)) g m := by
  have k : ∀ {v : Value} {l : List Int}, Ints B w v l → ∀ b0 b1 b2 b3, Ints B ((((w.setCell ⟨g, 0, none⟩ b0).setCell ⟨g, 1, none⟩ b1).setCell ⟨g, 2, none⟩ b2).setCell ⟨g, 3, none⟩ b3) v l := fun h b0 b1 b2 b3 =>
    Rd.far' (Rd.far' (Rd.far' (Rd.far' h hb hB (by decide) _) (hb.set_ 0 _) hB (by decide) _) ((hb.set_ 0 _).set_ 1 _) hB (by decide) _) (((hb.set_ 0 _).set_ 1 _).set_ 2 _) hB (by decide) _
  exact ⟨A1, c1, A2, c2, store4 hb _ _ _ _, k h2 _ _ _ _, k h3 _ _ _ _⟩
theorem eql_err (a b : Int) (w : World) : (binOp .eql 44 (.iface 107 (.int .i64 a)) (.iface 107 (.int .i64 b))).run Try.prog w = .ok (.bool (a == b)) w := by kernel_rfl
theorem eql_nilerr (b : Int) (w : World) : (binOp .eql 44 .nilIface (.iface 107 (.int .i64 b))).run Try.prog w = .ok (.bool false) w := by kernel_rfl
theorem neq_err (a b : Int) (w : World) : (binOp .neq 44 (.iface 107 (.int .i64 a)) (.iface 107 (.int .i64 b))).run Try.prog w = .ok (.bool (!(a == b))) w := by kernel_rfl
theorem neq_nilerr (b : Int) (w : World) : (binOp .neq 44 .nilIface (.iface 107 (.int .i64 b))).run Try.prog w = .ok (.bool true) w := by kernel_rfl
theorem guard_err (x y : Operand) (a b : Int) (w : World) : (eqGuard .eql 44 x y (.iface 107 (.int .i64 a)) (.iface 107 (.int .i64 b))).run Try.prog w = .ok () w := by kernel_rfl
theorem guard_nilerr (x y : Operand) (b : Int) (w : World) : (eqGuard .eql 44 x y .nilIface (.iface 107 (.int .i64 b))).run Try.prog w = .ok () w := by kernel_rfl
theorem guardn_err (x y : Operand) (a b : Int) (w : World) : (eqGuard .neq 44 x y (.iface 107 (.int .i64 a)) (.iface 107 (.int .i64 b))).run Try.prog w = .ok () w := by kernel_rfl
theorem guardn_nilerr (x y : Operand) (b : Int) (w : World) : (eqGuard .neq 44 x y .nilIface (.iface 107 (.int .i64 b))).run Try.prog w = .ok () w := by kernel_rfl
attribute [local go_sem ↓] eql_err eql_nilerr neq_err neq_nilerr guard_err guard_nilerr guardn_err guardn_nilerr
theorem take_some {l : List Sheet} {k : Nat} {s : Sheet} (h : l[k]? = some s) (f : Man × Int → Sheet → Man × Int) (a : Man × Int) : (l.take (k + 1)).foldl f a = f ((l.take k).foldl f a) s := by
  have hk : k < l.length := by
    rcases Nat.lt_or_ge k l.length with h' | h'
    · exact h'
    · rw [List.getElem?_eq_none h'] at h; cases h
  rw [List.take_succ_eq_append_getElem hk, List.foldl_append]
  rw [List.getElem?_eq_getElem hk] at h
  injection h with h
  rw [h]
  rfl
theorem take_none {l : List Sheet} {k : Nat} (h : l[k]? = none) : l.take (k + 1) = l.take k := by
  have : l.length ≤ k := by simpa using h
  rw [List.take_of_length_le (by omega), List.take_of_length_le this]
set_option maxRecDepth 20000 in
set_option maxHeartbeats 8000000 in
theorem find_any (B p : Nat) (c : Chip) (w : World) (h : ChipR B w p c) :
    Calls Try.prog 45 #[.pointer (some ⟨p, 0, none⟩)] w fun e w' => ∃ v, e = .returned (.tuple #[v, .int .i64 (findR c).2.1, errV (findR c).2.2]) ∧ ManV B w' v (findR c).1 ∧ Below w.heap.size w w' := by
  have fin : ∀ (wr : World) (tmps : Array Value) (m : Man) (at_ : Int) (f : Nat), findR c = (m, at_, f) → Below w.heap.size w wr → ManB B wr w.heap.size m → tmps[2]? = some (.pointer (some ⟨w.heap.size, 0, none⟩)) → tmps[3]? = some (.int .i64 at_) → tmps[4]? = some (errV f) →
      bodyPost Try.prog Try.f45 (fun e w' => ∃ v, e = .returned (.tuple #[v, .int .i64 (findR c).2.1, errV (findR c).2.2]) ∧ ManV B w' v (findR c).1 ∧ Below w.heap.size w w') .ret { tmps := tmps, defers := [] } wr := by
    rintro wr tmps m at_ f e hb ⟨A1, c1, A2, c2, hk, h2, h3⟩ t2 t3 t4
    have y0 := hk.cell 0
    have y1 := hk.cell 1
    have y2 := hk.cell 2
    have y3 := hk.cell 3
    simp at y0 y1 y2 y3
    rw [e]
    refine bodyPost_ret (v := .tuple #[.agg #[.int .i64 m.ep, .int .i64 m.log, .slice A1 m.nw.length c1, .slice A2 m.od.length c2], .int .i64 at_, errV f]) (by simp [results, Try.results45, go_sem, t2, t3, t4, y0, y1, y2, y3]) rfl ⟨_, rfl, ⟨_, _, rfl, h2, h3⟩, hb⟩
  have FIN := Lib.hid fin
  clear fin
  have HR := Lib.hid h
  have hB0 : B ≤ w.heap.size := by obtain ⟨V, u, hv, _⟩ := h; have := hv.base; have := hv.blk.lt; omega
  cases hd : c.down
  · have HFR : Hid (findR c = if (findM c).2 < 0 then (Man.zero, 0, 4) else ((findM c).1, (findM c).2, 0)) := by rw [Hid, findR, hd, if_neg (by simp)]
    have HRD : Hid (∀ (b k : Nat), b < 2 → k < 8 → c.read b k = match (c.b b).l[k]? with
          | none => (ByteArray.empty, 5)
          | some s => if s.t then (ByteArray.empty, 4) else (s.d, 0)) := by
      intro b k hb hk
      unfold Chip.read
      rw [hd, if_neg (by simp), if_neg (by omega), Int.toNat_natCast, Int.toNat_natCast]
      try rfl
    have HWF := Lib.hid h.wf
    clear h hd
    go_enter Try.func45, Try.ntmps45
    go_wp2_with fail
    have hz : ∀ (w : World) (g : Nat), Blk w g 50 #[.int .i64 0, .int .i64 0, .slice none 0 0, .slice none 0 0] → ManB B w g Man.zero := fun w g hb => ⟨none, 0, none, 0, hb, Rd.nil _ _ _ _, Rd.nil _ _ _ _⟩
    have HZ := Lib.hid hz
    have hb2 : Below w.heap.size w ((w.alloc (.cells #[.int .i64 0, .int .i64 0, .slice none 0 0, .slice none 0 0] 50)).alloc (.cells #[.int .i64 0, .int .i64 0, .slice none 0 0, .slice none 0 0] 50)) := ((Below.refl _ _).alloc (Nat.le_refl _) _).alloc (by simp) _
    have hr2 : Blk ((w.alloc (.cells #[.int .i64 0, .int .i64 0, .slice none 0 0, .slice none 0 0] 50)).alloc (.cells #[.int .i64 0, .int .i64 0, .slice none 0 0, .slice none 0 0] 50)) w.heap.size 50 #[.int .i64 0, .int .i64 0, .slice none 0 0, .slice none 0 0] := (Blk.new w _ _).alloc _
    have hg2 : Blk ((w.alloc (.cells #[.int .i64 0, .int .i64 0, .slice none 0 0, .slice none 0 0] 50)).alloc (.cells #[.int .i64 0, .int .i64 0, .slice none 0 0, .slice none 0 0] 50)) (w.heap.size + 1) 50 #[.int .i64 0, .int .i64 0, .slice none 0 0, .slice none 0 0] := by
      have := Blk.new (w.alloc (.cells #[.int .i64 0, .int .i64 0, .slice none 0 0, .slice none 0 0] 50)) 50 #[.int .i64 0, .int .i64 0, .slice none 0 0, .slice none 0 0]
      rw [World.size_alloc] at this
      exact this
    have HB2 := Lib.hid hb2
    have HR2 := Lib.hid hr2
    have HG2 := Lib.hid (hz _ _ hg2)
    clear hb2 hr2 hg2 hz
    go_loopw [6, 12] (fun a b wr => ∃ (bb : Nat) (st : Man × Int), bb ≤ 2 ∧ b = .int .i64 (bb : Int) ∧ a = .int .i64 st.2 ∧ Hid (st = (((List.range 2).take bb).foldl (fun st i => (c.b i).l.foldl (fStep i) st) (Man.zero, -1))) ∧ Hid (Blk wr w.heap.size 50 #[.int .i64 0, .int .i64 0, .slice none 0 0, .slice none 0 0]) ∧ Hid (ManB B wr (w.heap.size + 1) st.1) ∧ Below w.heap.size w wr) (fun _ b _ => 2 - (intOf b).toNat)
    case atStart => exact ⟨0, (Man.zero, -1), by omega, rfl, rfl, rfl, HR2.out, HG2.out, HB2.out⟩
    case round =>
      obtain ⟨bb, st, hbb, rfl, rfl, hst, hres, hbest, hbl⟩ := hrel
      by_cases hlt : bb < 2
      · obtain ⟨wo, rfl⟩ : ∃ wo : World, wo = wr := ⟨_, rfl⟩
        have t13 : decide ((bb : Int) < 2) = true := decide_eq_true (by omega)
        go_wp2_with fail
        go_loopw [6, 15] (fun a q wr => ∃ (k : Nat) (st' : Man × Int), k ≤ 8 ∧ q = .int .i64 (k : Int) ∧ a = .int .i64 st'.2 ∧ Hid (st' = ((c.b bb).l.take k).foldl (fStep bb) st) ∧ Hid (Blk wr w.heap.size 50 #[.int .i64 0, .int .i64 0, .slice none 0 0, .slice none 0 0]) ∧ Hid (ManB B wr (w.heap.size + 1) st'.1) ∧ Below w.heap.size w wr) (fun _ q _ => 8 - (intOf q).toNat)
        case atStart => exact ⟨0, st, by omega, rfl, rfl, rfl, hres.out, hbest.out, hbl⟩
        case round =>
          obtain ⟨k, st', hk, rfl, rfl, hst', hres', hbest', hbl'⟩ := hrel
          by_cases hk8 : k < 8
          · have t16 : decide ((k : Int) < 8) = true := decide_eq_true (by omega)
            have hread := HRD.out bb k hlt hk8
            have hrc := cread_any B p c bb k wr (HR.out.below hbl')
            rw [hread] at hrc
            cases hs : (c.b bb).l[k]? with
            | none =>
              rw [hs] at hrc
              rw [show errV 5 = .iface 107 (.int .i64 5) from rfl] at hrc
              have HC := Lib.hid hrc
              have HT := Lib.hid (take_none hs)
              clear hread hrc hs
              go_wp2_with (go_at_call 42; refine HC.out.mono ?_; rintro e w5 ⟨rfl, rfl⟩)
              go_roundw
              case rel => exact ⟨k + 1, st', by omega, by go_num, rfl, by rw [Hid, HT.out]; exact hst'.out, hres'.out, hbest'.out, hbl'⟩
              case measure => simp [intOf] <;> omega
            | some s =>
              have hts := take_some hs (fStep bb) st
              rw [← hst'.out] at hts
              cases ht : s.t
              · have hsz := HWF.out.size bb (by omega) s (List.mem_of_getElem? hs) ht
                rw [hs] at hrc
                simp only [ht, Bool.false_eq_true, if_false] at hrc
                rw [show errV 0 = Value.nilIface from rfl] at hrc
                have HC := Lib.hid hrc
                have HTS := Lib.hid hts
                have HHT := Lib.hid ht
                have hp := mparse_any B s.d wr (by omega)
                have HP := Lib.hid hp
                clear hread hrc hs hts ht hp
                cases hm : manOf s.d with
                | none =>
                  have he : merr s.d = 4 := by rw [merr, if_pos hm]
                  rw [he, show errV 4 = .iface 107 (.int .i64 4) from rfl, hm] at HP
                  have HF : Hid (((c.b bb).l.take (k + 1)).foldl (fStep bb) st = st') := by rw [Hid, HTS.out, fStep, HHT.out, if_neg (by simp), hm]
                  clear he hm
                  go_wp2_with (go_at_call 42; refine HC.out.mono ?_; rintro e w5 ⟨rfl, rfl⟩)
                  refine HP.out.mono ?_
                  rintro e w6 ⟨v6, rfl, ⟨vn, vo, rfl, hn, ho⟩, hb6⟩
                  obtain ⟨A1, c1, rfl, _, _, kX⟩ := hn.form
                  obtain ⟨A2, c2, rfl, _, _, kY⟩ := ho.form
                  have HR6 := Lib.hid (hres'.out.below hb6 hres'.out.lt)
                  have HG6 := Lib.hid (hbest'.out.below hb6)
                  have HB6 := Lib.hid (hbl'.trans (hb6.mono hbl'.size))
                  clear kX kY hn ho hb6
                  have HZB : Hid (Below w6.heap.size w6 (w6.alloc (.cells #[.int .i64 Man.zero.ep, .int .i64 Man.zero.log, .slice A1 Man.zero.nw.length c1, .slice A2 Man.zero.od.length c2] 50))) := (Below.refl _ _).alloc (Nat.le_refl _) _
                  go_wp2_with fail
                  go_roundw
                  case rel => exact ⟨k + 1, st', by omega, by go_num, rfl, HF.out.symm, HR6.out.below HZB.out HR6.out.lt, HG6.out.below HZB.out, HB6.out.trans (HZB.out.mono HB6.out.size)⟩
                  case measure => simp [intOf] <;> omega
                | some m =>
                  have he : merr s.d = 0 := by rw [merr, if_neg (by rw [hm]; simp)]
                  rw [he, show errV 0 = Value.nilIface from rfl, hm] at HP
                  have HF0 : Hid (((c.b bb).l.take (k + 1)).foldl (fStep bb) st = if st'.1.ep < m.ep then (m, (bb : Int)) else st') := by
                    rw [Hid, HTS.out, fStep, HHT.out, if_neg (by simp), hm]
                  clear he hm
                  go_wp2_with (go_at_call 42; refine HC.out.mono ?_; rintro e w5 ⟨rfl, rfl⟩)
                  refine HP.out.mono ?_
                  rintro e w6 ⟨v6, rfl, ⟨vn, vo, rfl, hn, ho⟩, hb6⟩
                  simp only [Option.getD_some] at hn ho ⊢
                  obtain ⟨A1, c1, rfl, _, _, kX⟩ := hn.form
                  obtain ⟨A2, c2, rfl, _, _, kY⟩ := ho.form
                  have HR6 := Lib.hid (hres'.out.below hb6 hres'.out.lt)
                  obtain ⟨A3, c3, A4, c4, hg, hg2, hg3⟩ := hbest'.out.below hb6
                  have HB6 := Lib.hid (hbl'.trans (hb6.mono hbl'.size))
                  have HN6 := Lib.hid hn
                  have HO6 := Lib.hid ho
                  have HG := Lib.hid hg
                  have HG2 := Lib.hid hg2
                  have HG3 := Lib.hid hg3
                  have hgl := hg.lt
                  have y0 := hg.cell 0
                  have y1 := hg.cell 1
                  have y2 := hg.cell 2
                  have y3 := hg.cell 3
                  simp at y0 y1 y2 y3
                  have f0 := hg.frozen 0
                  have f1 := hg.frozen 1
                  have f2 := hg.frozen 2
                  have f3 := hg.frozen 3
                  clear kX kY hn ho hb6 hg hg2 hg3
                  by_cases hlt2 : st'.1.ep < m.ep
                  · have t44 : decide (st'.1.ep < m.ep) = true := decide_eq_true hlt2
                    have HF : Hid (((c.b bb).l.take (k + 1)).foldl (fStep bb) st = (m, (bb : Int))) := by rw [Hid, HF0.out, if_pos hlt2]
                    clear hlt2
                    go_wp2_with fail
                    go_roundw
                    case rel =>
                      have hB1 : B ≤ w.heap.size + 1 := by omega
                      have hs1 := ManB.store (cs := #[]) HG.out hB1 HN6.out HO6.out
                      have hb1 := below4 (g := w.heap.size + 1) HB6.out (by omega) (.int .i64 m.ep) (.int .i64 m.log) (.slice A1 m.nw.length c1) (.slice A2 m.od.length c2)
                      have hr1 := blk_far4 (g' := w.heap.size + 1) HR6.out (by omega) (.int .i64 m.ep) (.int .i64 m.log) (.slice A1 m.nw.length c1) (.slice A2 m.od.length c2)
                      exact ⟨k + 1, (m, (bb : Int)), by omega, by go_num, rfl, HF.out.symm, hr1.alloc _, hs1.below ((Below.refl _ _).alloc (Nat.le_refl _) _), hb1.alloc hb1.size _⟩
                    case measure => simp [intOf] <;> omega
                  · have t44 : decide (st'.1.ep < m.ep) = false := decide_eq_false hlt2
                    have HF : Hid (((c.b bb).l.take (k + 1)).foldl (fStep bb) st = st') := by rw [Hid, HF0.out, if_neg hlt2]
                    clear hlt2
                    go_wp2_with fail
                    go_roundw
                    case rel => exact ⟨k + 1, st', by omega, by go_num, rfl, HF.out.symm, HR6.out.alloc _, ManB.below ⟨A3, c3, A4, c4, HG.out, HG2.out, HG3.out⟩ ((Below.refl _ _).alloc (Nat.le_refl _) _), HB6.out.alloc HB6.out.size _⟩
                    case measure => simp [intOf] <;> omega
              · rw [hs] at hrc
                simp only [ht, if_true] at hrc
                rw [show errV 4 = .iface 107 (.int .i64 4) from rfl] at hrc
                have HC := Lib.hid hrc
                have HT : Hid (((c.b bb).l.take (k + 1)).foldl (fStep bb) st = st') := by rw [Hid, hts, fStep, ht, if_pos rfl]
                clear hread hrc hs hts ht
                go_wp2_with (go_at_call 42; refine HC.out.mono ?_; rintro e w5 ⟨rfl, rfl⟩)
                go_roundw
                case rel => exact ⟨k + 1, st', by omega, by go_num, rfl, HT.out.symm, hres'.out, hbest'.out, hbl'⟩
                case measure => simp [intOf] <;> omega
          · have hk8' : k = 8 := by omega
            subst hk8'
            have hlen := HWF.out.len bb (by omega)
            have t16 : decide (((8 : Nat) : Int) < 8) = false := by decide
            have HF : Hid (st' = (((List.range 2).take (bb + 1)).foldl (fun st i => (c.b i).l.foldl (fStep i) st) (Man.zero, -1))) := by
              have h1 := hst'.out
              rw [List.take_of_length_le hlen] at h1
              have e : (List.range 2).take (bb + 1) = (List.range 2).take bb ++ [bb] := by
                have : bb = 0 ∨ bb = 1 := by omega
                rcases this with rfl | rfl <;> rfl
              rw [Hid, e, List.foldl_append, ← hst.out, h1]
              rfl
            go_wp2_with fail
            go_roundw
            case rel => exact ⟨bb + 1, st', by omega, by go_num, rfl, HF.out, hres'.out, hbest'.out, hbl'⟩
            case measure => simp [intOf] <;> omega
      · have hb2 : bb = 2 := by omega
        subst hb2
        have HST : Hid (st = findM c) := hst.out
        have hr := hres.out
        have r0 := hr.cell 0
        have r1 := hr.cell 1
        have r2 := hr.cell 2
        have r3 := hr.cell 3
        simp at r0 r1 r2 r3
        have e0 := hr.frozen 0
        have e1 := hr.frozen 1
        have e2 := hr.frozen 2
        have e3 := hr.frozen 3
        obtain ⟨A3, c3, A4, c4, hg, hg2, hg3⟩ := hbest.out
        have HG := Lib.hid hg
        have HG2 := Lib.hid hg2
        have HG3 := Lib.hid hg3
        have y0 := hg.cell 0
        have y1 := hg.cell 1
        have y2 := hg.cell 2
        have y3 := hg.cell 3
        simp at y0 y1 y2 y3
        have HRR := Lib.hid hr
        clear hr hg hg2 hg3 hst
        by_cases hneg : st.2 < 0
        · have t51 : decide (st.2 < 0) = true := decide_eq_true hneg
          have HF : Hid (findR c = (Man.zero, 0, 4)) := by rw [Hid, HFR.out, ← HST.out, if_pos hneg]
          clear hneg
          go_wp2_with fail
          exact FIN.out _ _ Man.zero 0 4 HF.out (below4 hbl (Nat.le_refl _) _ _ _ _) (HZ.out _ _ (store4 HRR.out _ _ _ _)) rfl rfl rfl
        · have t51 : decide (st.2 < 0) = false := decide_eq_false hneg
          have HF : Hid (findR c = (st.1, st.2, 0)) := by rw [Hid, HFR.out, ← HST.out, if_neg hneg]
          clear hneg
          go_wp2_with fail
          exact FIN.out _ _ st.1 st.2 0 HF.out (below4 hbl (Nat.le_refl _) _ _ _ _) (ManB.store (cs := #[]) HRR.out hB0 HG2.out HG3.out) rfl rfl rfl
  · have hread : c.read 0 0 = (ByteArray.empty, 9) := by unfold Chip.read; rw [hd, if_pos rfl]
    have HF : Hid (findR c = (Man.zero, 0, 9)) := by rw [Hid, findR, hd, if_pos rfl]
    have hb2 : Below w.heap.size w ((w.alloc (.cells #[.int .i64 0, .int .i64 0, .slice none 0 0, .slice none 0 0] 50)).alloc (.cells #[.int .i64 0, .int .i64 0, .slice none 0 0, .slice none 0 0] 50)) := ((Below.refl _ _).alloc (Nat.le_refl _) _).alloc (by simp) _
    have hr2 : Blk ((w.alloc (.cells #[.int .i64 0, .int .i64 0, .slice none 0 0, .slice none 0 0] 50)).alloc (.cells #[.int .i64 0, .int .i64 0, .slice none 0 0, .slice none 0 0] 50)) w.heap.size 50 #[.int .i64 0, .int .i64 0, .slice none 0 0, .slice none 0 0] := (Blk.new w _ _).alloc _
    have hrc := cread_any B p c 0 0 _ (h.below hb2)
    rw [hread, show errV (ByteArray.empty, 9).2 = .iface 107 (.int .i64 9) from rfl] at hrc
    have HC := Lib.hid hrc
    have HB2 := Lib.hid hb2
    have HR2 := Lib.hid hr2
    have r0 := hr2.cell 0
    have r1 := hr2.cell 1
    have r2 := hr2.cell 2
    have r3 := hr2.cell 3
    clear h hd hread hrc hb2
    go_enter Try.func45, Try.ntmps45
    go_wp2_with fail
    refine wp_loop_rounds 1 ?_
    rw [rounds_succ]
    go_wp2_with fail
    refine wp_loop_rounds 1 ?_
    rw [rounds_succ]
    go_wp2_with (go_at_call 42; refine HC.out.mono ?_; rintro e w5 ⟨rfl, rfl⟩)
    exact FIN.out _ _ Man.zero 0 9 HF.out HB2.out ⟨none, 0, none, 0, HR2.out, Rd.nil _ _ _ _, Rd.nil _ _ _ _⟩ rfl rfl rfl
/-- A manifest is noted: the chip, in which block it is, what is wrong. -/
def noteR (c : Chip) (a : Int) (m : Man) : Chip × Int × Nat :=
  if m.fault ≠ 0 then (c, 0, m.fault)
  else if (c.b a.toNat).l.length = 8 then
    if (c.erase (1 - a)).2 ≠ 0 then ((c.erase (1 - a)).1, 0, (c.erase (1 - a)).2)
    else if ((c.erase (1 - a)).1.write (1 - a) m.bytes).2 ≠ 0 then (((c.erase (1 - a)).1.write (1 - a) m.bytes).1, 0, ((c.erase (1 - a)).1.write (1 - a) m.bytes).2)
    else (((c.erase (1 - a)).1.write (1 - a) m.bytes).1, 1 - a, 0)
  else if (c.write a m.bytes).2 ≠ 0 then ((c.write a m.bytes).1, 0, (c.write a m.bytes).2) else ((c.write a m.bytes).1, a, 0)
theorem mbytes_size {m : Man} (h1 : m.nw.length ≤ 1000) (h2 : m.od.length ≤ 1000) : m.bytes.size ≤ 9223372036854775807 := by
  unfold Man.bytes
  rw [strOfNums_size]
  simp
  omega
set_option maxRecDepth 20000 in
set_option maxHeartbeats 8000000 in
theorem note_any (B p : Nat) (c : Chip) (a : Int) (v : Value) (m : Man) (w : World) (h : ChipR B w p c) (ha : a = 0 ∨ a = 1) (hm : ManV B w v m) (h1 : m.nw.length ≤ 1000) (h2 : m.od.length ≤ 1000) :
    Calls Try.prog 44 #[.pointer (some ⟨p, 0, none⟩), .int .i64 a, v] w fun e w' => e = .returned (.tuple #[.int .i64 (noteR c a m).2.1, errV (noteR c a m).2.2]) ∧ ChipR B w' p (noteR c a m).1 ∧ Fr B (· = p) w w' := by
  have fin : ∀ (wr : World) (tmps : Array Value) (a' : Int) (f : Nat) (c' : Chip), noteR c a m = (c', a', f) → ChipR B wr p c' → Fr B (· = p) w wr → tmps[6]? = some (.int .i64 a') → tmps[7]? = some (errV f) →
      bodyPost Try.prog Try.f44 (fun e w' => e = .returned (.tuple #[.int .i64 (noteR c a m).2.1, errV (noteR c a m).2.2]) ∧ ChipR B w' p (noteR c a m).1 ∧ Fr B (· = p) w w') .ret { tmps := tmps, defers := [] } wr := by
    rintro wr tmps a' f c' e hc hf t6 t7
    rw [e]
    exact bodyPost_ret (v := .tuple #[.int .i64 a', errV f]) (by simp [results, Try.results44, go_sem, t6, t7]) rfl ⟨rfl, hc, hf⟩
  have FIN := Lib.hid fin
  clear fin
  obtain ⟨vn, vo, rfl, hn, ho⟩ := hm
  obtain ⟨A1, c1, rfl, k1, k2, kX⟩ := hn.form
  obtain ⟨A2, c2, rfl, k3, k4, kY⟩ := ho.form
  have hb0 : Below w.heap.size w (w.alloc (.cells #[.int .i64 m.ep, .int .i64 m.log, .slice A1 m.nw.length c1, .slice A2 m.od.length c2] 50)) := (Below.refl _ _).alloc (Nat.le_refl _) _
  have HBY := Lib.hid (mbytes_any B (.agg #[.int .i64 m.ep, .int .i64 m.log, .slice A1 m.nw.length c1, .slice A2 m.od.length c2]) m _ ⟨_, _, rfl, hn.below hb0, ho.below hb0⟩ h1 h2)
  have HR0 := Lib.hid (h.below hb0)
  have HF0 : Hid (Fr B (· = p) w (w.alloc (.cells #[.int .i64 m.ep, .int .i64 m.log, .slice A1 m.nw.length c1, .slice A2 m.od.length c2] 50))) := Fr.of_below hb0
  have hmsz := mbytes_size h1 h2
  clear kX kY hn ho hb0 h
  by_cases hf : m.fault = 0
  · have hms : mbytesS m = m.bytes := if_pos hf
    rw [hf, hms, show errV 0 = Value.nilIface from rfl] at HBY
    have HN : Hid (noteR c a m = if (c.b a.toNat).l.length = 8 then
        if (c.erase (1 - a)).2 ≠ 0 then ((c.erase (1 - a)).1, 0, (c.erase (1 - a)).2)
        else if ((c.erase (1 - a)).1.write (1 - a) m.bytes).2 ≠ 0 then (((c.erase (1 - a)).1.write (1 - a) m.bytes).1, 0, ((c.erase (1 - a)).1.write (1 - a) m.bytes).2)
        else (((c.erase (1 - a)).1.write (1 - a) m.bytes).1, 1 - a, 0)
      else if (c.write a m.bytes).2 ≠ 0 then ((c.write a m.bytes).1, 0, (c.write a m.bytes).2) else ((c.write a m.bytes).1, a, 0)) := by rw [Hid, noteR, if_neg (by simpa using hf)]
    clear hf hms
    go_enter Try.func44, Try.ntmps44
    go_wp2_with fail
    refine HBY.out.mono ?_
    rintro e w1 ⟨rfl, hb1⟩
    have HR1 := Lib.hid (HR0.out.below hb1)
    have HF1 := Lib.hid (HF0.out.trans (Fr.of_below hb1) (fun _ _ => trivial))
    have HNX := Lib.hid (next_any B p c a w1 HR1.out (by omega) (by omega))
    clear hb1 HBY
    by_cases h8 : (c.b a.toNat).l.length = 8
    · rw [h8] at HNX
      rw [if_pos h8] at HN
      have HEX := Lib.hid (cerase_any B p c (1 - a) w1 HR1.out)
      have g1 : wrap64 (1 - a) = 1 - a := w64 _ (by omega) (by omega)
      clear h8
      by_cases he : (c.erase (1 - a)).2 = 0
      · rw [if_neg (by simpa using he)] at HN
        rw [he, show errV 0 = Value.nilIface from rfl] at HEX
        clear he
        go_wp2_with (go_at_call 34; refine HNX.out.mono ?_; rintro e w2 ⟨rfl, rfl⟩)
        refine HEX.out.mono ?_
        rintro e w2 ⟨rfl, hr2, hf2⟩
        have HRX := Lib.hid hr2
        have HFX := Lib.hid (HF1.out.trans hf2 (fun _ _ => trivial))
        clear hr2 hf2 HEX HNX
        have HWX := Lib.hid (cwrite_any B p (c.erase (1 - a)).1 (1 - a) m.bytes w2 HRX.out hmsz)
        by_cases hw : (((c.erase (1 - a)).1).write (1 - a) m.bytes).2 = 0
        · rw [if_neg (by simpa using hw)] at HN
          rw [hw, show errV 0 = Value.nilIface from rfl] at HWX
          clear hw
          go_wp2_with fail
          refine HWX.out.mono ?_
          rintro e w3 ⟨rfl, hr3, hf3⟩
          have HR3 := Lib.hid hr3
          have HF3 := Lib.hid (HFX.out.trans hf3 (fun _ _ => trivial))
          clear hr3 hf3 HWX
          go_wp2_with fail
          exact FIN.out _ _ (1 - a) 0 _ HN.out HR3.out HF3.out rfl rfl
        · rw [if_pos hw] at HN
          have hwe : errV (((c.erase (1 - a)).1).write (1 - a) m.bytes).2 = .iface 107 (.int .i64 (((c.erase (1 - a)).1).write (1 - a) m.bytes).2) := if_neg hw
          rw [hwe] at HWX
          have HE := Lib.hid hwe
          clear hw hwe
          go_wp2_with fail
          refine HWX.out.mono ?_
          rintro e w3 ⟨rfl, hr3, hf3⟩
          have HR3 := Lib.hid hr3
          have HF3 := Lib.hid (HFX.out.trans hf3 (fun _ _ => trivial))
          clear hr3 hf3 HWX
          go_wp2_with fail
          exact FIN.out _ _ 0 _ _ HN.out HR3.out HF3.out rfl (by rw [HE.out]; rfl)
      · have hee : errV (c.erase (1 - a)).2 = .iface 107 (.int .i64 (c.erase (1 - a)).2) := if_neg he
        rw [if_pos he] at HN
        rw [hee] at HEX
        have HE := Lib.hid hee
        clear he hee
        go_wp2_with (go_at_call 34; refine HNX.out.mono ?_; rintro e w2 ⟨rfl, rfl⟩)
        refine HEX.out.mono ?_
        rintro e w2 ⟨rfl, hr2, hf2⟩
        have HR2 := Lib.hid hr2
        have HF2 := Lib.hid (HF1.out.trans hf2 (fun _ _ => trivial))
        clear hr2 hf2 HEX HNX
        go_wp2_with fail
        exact FIN.out _ _ 0 _ _ HN.out HR2.out HF2.out rfl (by rw [HE.out]; rfl)
    · rw [if_neg h8] at HN
      have t8 : (((c.b a.toNat).l.length : Int) == 8) = false := by rw [beq_eq_false_iff_ne]; omega
      have HRX := Lib.hid HR1.out
      have HFX := Lib.hid HF1.out
      clear h8
      have HWX := Lib.hid (cwrite_any B p c a m.bytes w1 HRX.out hmsz)
      by_cases hw : ((c).write a m.bytes).2 = 0
      · rw [if_neg (by simpa using hw)] at HN
        rw [hw, show errV 0 = Value.nilIface from rfl] at HWX
        clear hw
        go_wp2_with (go_at_call 34; refine HNX.out.mono ?_; rintro e w2 ⟨rfl, rfl⟩)
        refine HWX.out.mono ?_
        rintro e w3 ⟨rfl, hr3, hf3⟩
        have HR3 := Lib.hid hr3
        have HF3 := Lib.hid (HFX.out.trans hf3 (fun _ _ => trivial))
        clear hr3 hf3 HWX
        go_wp2_with fail
        exact FIN.out _ _ a 0 _ HN.out HR3.out HF3.out rfl rfl
      · rw [if_pos hw] at HN
        have hwe : errV ((c).write a m.bytes).2 = .iface 107 (.int .i64 ((c).write a m.bytes).2) := if_neg hw
        rw [hwe] at HWX
        have HE := Lib.hid hwe
        clear hw hwe
        go_wp2_with (go_at_call 34; refine HNX.out.mono ?_; rintro e w2 ⟨rfl, rfl⟩)
        refine HWX.out.mono ?_
        rintro e w3 ⟨rfl, hr3, hf3⟩
        have HR3 := Lib.hid hr3
        have HF3 := Lib.hid (HFX.out.trans hf3 (fun _ _ => trivial))
        clear hr3 hf3 HWX
        go_wp2_with fail
        exact FIN.out _ _ 0 _ _ HN.out HR3.out HF3.out rfl (by rw [HE.out]; rfl)
  · have he : errV m.fault = .iface 107 (.int .i64 m.fault) := if_neg hf
    have HN : Hid (noteR c a m = (c, 0, m.fault)) := if_pos hf
    rw [he] at HBY
    have HE := Lib.hid he
    clear hf he
    go_enter Try.func44, Try.ntmps44
    go_wp2_with fail
    refine HBY.out.mono ?_
    rintro e w1 ⟨rfl, hb1⟩
    have HR1 := Lib.hid (HR0.out.below hb1)
    have HF1 := Lib.hid (HF0.out.trans (Fr.of_below hb1) (fun _ _ => trivial))
    clear hb1 HBY
    go_wp2_with fail
    exact FIN.out _ _ 0 m.fault c HN.out HR1.out HF1.out rfl (by rw [HE.out]; rfl)
end Go.Proofs.Ytaepdbkfaoiimab
/- Entries are read as they were written, also behind noughts: the plain law. Conditions: those that each law names. -/
set_option linter.unusedVariables false
set_option linter.unusedSimpArgs false
namespace Go.Proofs.Ytaepdbkfaoiimab
open Go.RowKit

def entL (e : Ent) : List UInt8 := [UInt8.ofNat (gB e.g).toNat, UInt8.ofNat e.k.size, UInt8.ofNat e.v.size] ++ (e.k.data.toList ++ e.v.data.toList)
theorem data_append_ (a b : ByteArray) : (a ++ b).data.toList = a.data.toList ++ b.data.toList := by
  rw [ByteArray.data_append, Array.toList_append]
theorem entB_data (e : Ent) : (entB e).data.toList = entL e := by
  unfold entB entL
  rw [data_append_, data_append_, strOfNums_data]
  simp
theorem bytesL_data (n : Nat) (l : List Ent) : (bytesL n l).data.toList = UInt8.ofNat n :: l.flatMap entL := by
  induction l using snoc_ind with
  | h0 => simp [bytesL, strOfNums_data]
  | h1 l x ih => rw [bytesL_snoc, data_append_, ih, entB_data]; simp
theorem bt_list {s : ByteArray} {a b : List UInt8} (h : s.data.toList = a ++ b) (j : Nat) : bt s (a.length + j) = (b.getD j 0).toNat := by
  unfold bt
  rw [h, List.getD_eq_getElem?_getD, List.getElem?_append_right (by omega), Nat.add_sub_cancel_left, List.getD_eq_getElem?_getD]
theorem len_data (s : ByteArray) : s.data.toList.length = s.size := Array.length_toList
theorem extract_list (s : ByteArray) (a b : Nat) : (s.extract a b).data.toList = (s.data.toList.drop a).take (b - a) := by
  rw [ByteArray.data_extract, Array.toList_extract, List.extract_eq_take_drop]
theorem ba_eq {a b : ByteArray} (h : a.data.toList = b.data.toList) : a = b := ByteArray.ext (Array.toList_inj.1 h)
theorem entL_len (e : Ent) : (entL e).length = 3 + e.k.size + e.v.size := by simp [entL]; omega
/-- An entry that lies at a place. -/
theorem ent_at {s : ByteArray} {a r : List UInt8} {e : Ent} (h : s.data.toList = a ++ (entL e ++ r)) (hk : e.k.size ≤ 8) (hv : e.v.size ≤ 16) :
    badAt s a.length = false ∧ entAt s a.length = e ∧ bt s (a.length + 1) = e.k.size ∧ bt s (a.length + 2) = e.v.size := by
  have b0 := bt_list h 0
  have b1 := bt_list h 1
  have b2 := bt_list h 2
  have e0 : (entL e ++ r).getD 0 0 = UInt8.ofNat (gB e.g).toNat := rfl
  have e1 : (entL e ++ r).getD 1 0 = UInt8.ofNat e.k.size := rfl
  have e2 : (entL e ++ r).getD 2 0 = UInt8.ofNat e.v.size := rfl
  have f0 : (UInt8.ofNat (gB e.g).toNat).toNat = (gB e.g).toNat := by cases e.g <;> rfl
  have f1 : (UInt8.ofNat e.k.size).toNat = e.k.size := by simp; omega
  have f2 : (UInt8.ofNat e.v.size).toNat = e.v.size := by simp; omega
  rw [e0, f0, Nat.add_zero] at b0
  rw [e1, f1] at b1
  rw [e2, f2] at b2
  have hg : (gB e.g).toNat ≤ 1 := by cases e.g <;> decide
  have hsz : a.length + 3 + e.k.size + e.v.size ≤ s.size := by
    have := congrArg List.length h
    rw [len_data, List.length_append, List.length_append, entL_len] at this
    omega
  refine ⟨?_, ?_, b1, b2⟩
  · simp only [badAt, b0, b1, b2, Bool.or_eq_false_iff, decide_eq_false_iff_not]
    omega
  · have hd : ∀ j, s.data.toList.drop (a.length + j) = (entL e ++ r).drop j := fun j => by
      rw [h, ← List.drop_drop]; simp
    have hkk : s.extract (a.length + 3) (a.length + 3 + bt s (a.length + 1)) = e.k := by
      apply ba_eq
      rw [extract_list, b1, hd 3, show a.length + 3 + e.k.size - (a.length + 3) = e.k.size by omega]
      show ((e.k.data.toList ++ e.v.data.toList) ++ r).take e.k.size = _
      rw [List.append_assoc, List.take_append_of_le_length (by simp), List.take_of_length_le (by simp)]
    have hvv : s.extract (a.length + 3 + bt s (a.length + 1)) (a.length + 3 + bt s (a.length + 1) + bt s (a.length + 2)) = e.v := by
      apply ba_eq
      rw [extract_list, b1, b2, show a.length + 3 + e.k.size + e.v.size - (a.length + 3 + e.k.size) = e.v.size by omega, Nat.add_assoc, hd (3 + e.k.size)]
      have : (entL e ++ r).drop (3 + e.k.size) = e.v.data.toList ++ r := by
        rw [← List.drop_drop]
        show ((e.k.data.toList ++ e.v.data.toList) ++ r).drop e.k.size = _
        rw [List.append_assoc, List.drop_append_of_le_length (by simp), List.drop_of_length_le (by simp)]
        rfl
      rw [this, List.take_append_of_le_length (by simp), List.take_of_length_le (by simp)]
    have hgg : decide (bt s a.length = 1) = e.g := by rw [b0]; cases e.g <;> rfl
    unfold entAt
    rw [hkk, hvv, hgg]
theorem pN_bytes {s : ByteArray} {n : Nat} {l : List Ent} {z : List UInt8} (h : s.data.toList = UInt8.ofNat n :: (l.flatMap entL ++ z)) (hf : ∀ e ∈ l, faultE e = 0) :
    ∀ i, i ≤ l.length → pN s i = some (l.take i, 1 + ((l.take i).flatMap entL).length)
  | 0, _ => by simp [pN]
  | i + 1, hi => by
    rw [pN, pN_bytes h hf i (by omega)]
    obtain ⟨e, he, htk, hdr⟩ := getElem?_of_lt (l := l) (k := i) (by omega)
    have hz := faultE_zero (hf e (List.mem_of_getElem? he))
    have hl : s.data.toList = (UInt8.ofNat n :: (l.take i).flatMap entL) ++ (entL e ++ ((l.drop (i + 1)).flatMap entL ++ z)) := by
      rw [h]
      conv => lhs; rw [← List.take_append_drop i l, hdr]
      simp
    obtain ⟨h1, h2, h3, h4⟩ := ent_at hl hz.2.2.1 hz.2.2.2
    have hlen : (UInt8.ofNat n :: (l.take i).flatMap entL).length = 1 + ((l.take i).flatMap entL).length := by rw [List.length_cons, Nat.add_comm]
    rw [hlen] at h1 h2 h3 h4
    unfold pStep
    dsimp only
    rw [h1, h2, h3, h4, hf e (List.mem_of_getElem? he)]
    simp only [Bool.false_or, ne_eq, not_true_eq_false, decide_false, Bool.false_eq_true, if_false]
    rw [htk]
    simp [entL_len]
    omega
/-- **Entries are read as they were written, also behind noughts.** -/
theorem parse_bytes (l : List Ent) (hf : ∀ e ∈ l, faultE e = 0) (hn : l.length < 256) {s : ByteArray} {k : Nat} (h : s.data.toList = (bytesL l.length l).data.toList ++ List.replicate k 0) : parseR s = some l := by
  rw [bytesL_data] at h
  have h' : s.data.toList = UInt8.ofNat l.length :: (l.flatMap entL ++ List.replicate k 0) := by rw [h]; rfl
  have hs : s.size ≠ 0 := by rw [← len_data, h']; simp
  have hb : bt s 0 = l.length := by
    have := bt_list (a := []) (b := UInt8.ofNat l.length :: (l.flatMap entL ++ List.replicate k 0)) (by rw [h']; rfl) 0
    simp at this
    rw [this]
    omega
  unfold parseR
  rw [if_neg hs, hb, pN_bytes h' hf _ (Nat.le_refl _), List.take_length]
  simp only
  rw [if_pos]
  have : s.data.toList.drop (1 + (l.flatMap entL).length) = List.replicate k 0 := by
    rw [h', Nat.add_comm, List.drop_succ_cons, List.drop_append_of_le_length (by omega), List.drop_of_length_le (by omega)]
    rfl
  rw [this]
  simp
/-- n noughts. -/
def zer (n : Nat) : ByteArray := ⟨(List.replicate n 0).toArray⟩
theorem zer_size (n : Nat) : (zer n).size = n := by simp [zer, ByteArray.size]
theorem zer_zero (s : ByteArray) : s ++ zer 0 = s := by
  apply ba_eq
  rw [data_append_]
  simp [zer]
theorem zer_succ (s : ByteArray) (n : Nat) : (s ++ zer n) ++ ⟨#[0]⟩ = s ++ zer (n + 1) := by
  apply ba_eq
  rw [data_append_, data_append_, data_append_, List.append_assoc]
  congr 1
  simp [zer, List.replicate_succ']
end Go.Proofs.Ytaepdbkfaoiimab
/- LightManifest, number, SameNumbers, SameManifest; a manifest is read as it was written. Conditions: none but those that each law names. -/
set_option linter.unusedVariables false
set_option linter.unusedSimpArgs false
namespace Go.Proofs.Ytaepdbkfaoiimab
open Go.RowKit

set_option maxHeartbeats 1000000 in
theorem samenum_any (B : Nat) (a b : Value) (la lb : List Int) (w : World) (ha : Ints B w a la) (hb : Ints B w b lb) :
    Calls Try.prog 61 #[a, b] w fun e w' => e = .returned (.bool (decide (la = lb))) ∧ ∃ n, w.drewN n = w' := by
  obtain ⟨A, c, rfl, hc, hc2, hcell⟩ := ha.form
  obtain ⟨A', c', rfl, hc', hc2', hcell'⟩ := hb.form
  have HA := Lib.hid hcell
  have HB := Lib.hid hcell'
  clear hcell hcell' ha hb
  by_cases hl : la.length = lb.length
  · have t1 : ((la.length : Int) != (lb.length : Int)) = false := by rw [hl]; simp
    have HL := Lib.hid hl
    clear hl
    go_enter Try.func61, Try.ntmps61
    go_wp2_with fail
    go_loopw [5] (fun i wr => ∃ k n : Nat, k ≤ la.length ∧ i = .int .i64 k ∧ w.drewN n = wr ∧ Hid (la.take k = lb.take k)) (fun i _ => la.length - (intOf i).toNat)
    case atStart => exact ⟨0, 0, Nat.zero_le _, rfl, rfl, rfl⟩
    case round =>
      obtain ⟨k, n, hk, rfl, rfl, htk⟩ := hrel
      by_cases hlt : k < la.length
      · have hlt' : k < lb.length := by have := HL.out; omega
        obtain ⟨x, hx, hx2, _⟩ := getElem?_of_lt hlt
        obtain ⟨y, hy, hy2, _⟩ := getElem?_of_lt hlt'
        obtain ⟨b, o, rfl, hb, c1⟩ := HA.out k x hx
        obtain ⟨b', o', rfl, hb', d1⟩ := HB.out k y hy
        have X2 := Lib.hid hx2
        have Y2 := Lib.hid hy2
        have X1 := Lib.hid hx
        have Y1 := Lib.hid hy
        clear hx hx2 hy hy2
        have g1 : (0 : Int) ≤ (k : Int) := by omega
        have g2 : (k : Int) < (la.length : Int) := by omega
        have g3 : (k : Int) < (lb.length : Int) := by omega
        by_cases hxy : x = y
        · have hd : (x != y) = false := by rw [hxy]; simp
          have HX := Lib.hid hxy
          clear hxy
          go_wp2_with fail
          go_quiet (fail)
          go_wp2_with fail
          go_roundw
          case rel => exact ⟨k + 1, _, by omega, by go_num, rfl, by rw [Hid, X2.out, Y2.out, htk.out, HX.out]⟩
          case measure => simp [intOf] <;> omega
        · have hd : (x != y) = true := by rw [bne_iff_ne]; exact hxy
          have HX := Lib.hid hxy
          clear hxy
          go_wp2_with fail
          go_quiet (fail)
          go_wp2_with fail
          go_ret
          refine ⟨ret_bool ?_, n + nq, by simp [World.drewN_drewN]⟩
          symm
          apply decide_eq_false
          intro e
          have h1 := X1.out
          have h2 := Y1.out
          rw [e, h2] at h1
          exact HX.out (Option.some.inj h1).symm
      · have hge : la.length ≤ k := by omega
        go_wp2_with fail
        go_ret
        refine ⟨ret_bool ?_, _, rfl⟩
        have h1 := htk.out
        have h2 := HL.out
        rw [List.take_of_length_le hge, List.take_of_length_le (by omega)] at h1
        rw [h1]; simp
  · have t1 : ((la.length : Int) != (lb.length : Int)) = true := by rw [bne_iff_ne]; omega
    have HL := Lib.hid hl
    clear hl
    go_enter Try.func61, Try.ntmps61
    go_wp2_with fail
    go_ret
    refine ⟨ret_bool ?_, 0, rfl⟩
    symm
    apply decide_eq_false
    intro e
    exact HL.out (by rw [e])

def lightM (m : Man) : Bool := decide (m.nw.length ≤ 30) && decide (m.od.length ≤ 30)
theorem lightM_any (B : Nat) (v : Value) (m : Man) (w : World) (h : ManV B w v m) :
    Calls Try.prog 27 #[v] w fun e w' => e = .returned (.bool (lightM m)) ∧ Below w.heap.size w w' := by
  obtain ⟨vn, vo, rfl, hn, ho⟩ := h
  obtain ⟨A1, c1, rfl, k1, k2, kX⟩ := hn.form
  obtain ⟨A2, c2, rfl, k3, k4, kY⟩ := ho.form
  clear kX kY hn ho
  by_cases b1 : m.nw.length ≤ 30
  · have t1 : decide ((m.nw.length : Int) ≤ 30) = true := decide_eq_true (by omega)
    go_enter Try.func27, Try.ntmps27
    go_wp2_with fail
    go_ret
    exact ⟨ret_bool (by unfold lightM; rw [Bool.eq_iff_iff]; simp <;> omega), (Below.refl _ _).alloc (Nat.le_refl _) _⟩
  · have t1 : decide ((m.nw.length : Int) ≤ 30) = false := decide_eq_false (by omega)
    go_enter Try.func27, Try.ntmps27
    go_wp2_with fail
    go_ret
    exact ⟨ret_bool (by unfold lightM; rw [Bool.eq_iff_iff]; simp <;> omega), (Below.refl _ _).alloc (Nat.le_refl _) _⟩
theorem assert_num (v : Value) (w : World) : (Instr.typeAssert (.iface 107 v) 44 107 true).run Try.prog w = .ok (.tuple #[v, .bool true]) w := by kernel_rfl
attribute [local go_sem] assert_num
set_option maxRecDepth 20000 in
theorem number_any (n : Nat) (w : World) : Calls Try.prog 28 #[errV n] w fun e w' => e = .returned (.int .i64 n) ∧ w = w' := by
  unfold errV
  split
  · rename_i h
    subst h
    go_enter Try.func28, Try.ntmps28
    go_wp2_with fail
    go_ret
    exact ⟨rfl, rfl⟩
  · rename_i h
    clear h
    go_enter Try.func28, Try.ntmps28
    go_wp2_with fail
    go_ret
    exact ⟨rfl, rfl⟩
def sameM (m n : Man) : Bool := decide (m.ep = n.ep) && decide (m.log = n.log) && decide (m.nw = n.nw) && decide (m.od = n.od)
theorem sameM_refl (m : Man) : sameM m m = true := by simp [sameM]
set_option maxRecDepth 20000 in
set_option maxHeartbeats 4000000 in
theorem sameman_any (B : Nat) (a b : Value) (m n : Man) (w : World) (ha : ManV B w a m) (hb : ManV B w b n) :
    Calls Try.prog 31 #[a, b] w fun e w' => e = .returned (.bool (sameM m n)) ∧ Below w.heap.size w w' := by
  obtain ⟨vn, vo, rfl, hn, ho⟩ := ha
  obtain ⟨A1, c1, rfl, k1, k2, kX⟩ := hn.form
  obtain ⟨A2, c2, rfl, k3, k4, kY⟩ := ho.form
  obtain ⟨un, uo, rfl, hn', ho'⟩ := hb
  obtain ⟨A3, c3, rfl, k5, k6, kZ⟩ := hn'.form
  obtain ⟨A4, c4, rfl, k7, k8, kW⟩ := ho'.form
  clear kX kY kZ kW
  have hbl : Below w.heap.size w ((w.alloc (.cells #[.int .i64 m.ep, .int .i64 m.log, .slice A1 m.nw.length c1, .slice A2 m.od.length c2] 50)).alloc (.cells #[.int .i64 n.ep, .int .i64 n.log, .slice A3 n.nw.length c3, .slice A4 n.od.length c4] 50)) :=
    ((Below.refl _ _).alloc (Nat.le_refl _) _).alloc (by simp) _
  have HN := Lib.hid (hn.below hbl)
  have HO := Lib.hid (ho.below hbl)
  have HN' := Lib.hid (hn'.below hbl)
  have HO' := Lib.hid (ho'.below hbl)
  have HBL := Lib.hid hbl
  have q1 := (Blk.new w 50 #[.int .i64 m.ep, .int .i64 m.log, .slice A1 m.nw.length c1, .slice A2 m.od.length c2]).alloc (.cells #[.int .i64 n.ep, .int .i64 n.log, .slice A3 n.nw.length c3, .slice A4 n.od.length c4] 50)
  have q2 := Blk.new (w.alloc (.cells #[.int .i64 m.ep, .int .i64 m.log, .slice A1 m.nw.length c1, .slice A2 m.od.length c2] 50)) 50 #[.int .i64 n.ep, .int .i64 n.log, .slice A3 n.nw.length c3, .slice A4 n.od.length c4]
  rw [World.size_alloc] at q2
  have Q1 := Lib.hid q1
  have Q2 := Lib.hid q2
  clear hn ho hn' ho' hbl q1 q2
  go_enter Try.func31, Try.ntmps31
  go_wp2_with fail
  refine (samenum_any B _ _ _ _ _ HN.out HN'.out).mono ?_
  rintro e w1 ⟨rfl, n1, rfl⟩
  have y2 := (Q1.out.drewN n1).cell 3
  have z2 := (Q2.out.drewN n1).cell 3
  simp at y2 z2
  go_wp2_with fail
  refine (samenum_any B _ _ _ _ _ (HO.out.drewN n1) (HO'.out.drewN n1)).mono ?_
  rintro e w1 ⟨rfl, n2, rfl⟩
  have b0 := ((Q1.out.drewN n1).drewN n2).cell 0
  have b1 := ((Q1.out.drewN n1).drewN n2).cell 1
  have d0 := ((Q2.out.drewN n1).drewN n2).cell 0
  have d1 := ((Q2.out.drewN n1).drewN n2).cell 1
  simp at b0 b1 d0 d1
  clear y2 z2
  have HB2 := Lib.hid (below_drewN' HBL.out (n1 + n2))
  have HE : Hid (sameM m n = (decide (m.ep = n.ep) && decide (m.log = n.log) && decide (m.nw = n.nw) && decide (m.od = n.od))) := rfl
  cases e0 : decide (m.ep = n.ep) <;> cases e1 : decide (m.log = n.log) <;> cases e2 : decide (m.nw = n.nw) <;> cases e3 : decide (m.od = n.od)
  all_goals
    rw [e0, e1, e2, e3] at HE
    have t0 : (m.ep == n.ep) = decide (m.ep = n.ep) := by rw [Bool.eq_iff_iff]; simp
    have t1 : (m.log == n.log) = decide (m.log = n.log) := by rw [Bool.eq_iff_iff]; simp
    rw [e0] at t0
    rw [e1] at t1
    clear e0 e1 e2 e3
    go_wp2_with fail
    go_ret
    exact ⟨by rw [HE.out]; rfl, HB2.out⟩

/-! ### a manifest is read as it was written, also behind noughts -/
theorem u8_of {x : Int} (h0 : 0 ≤ x) (h1 : x < 256) : ((UInt8.ofNat x.toNat).toNat : Int) = x := by
  simp
  omega
theorem map_range_eq {l : List Int} {f : Nat → Int} (h : ∀ i x, l[i]? = some x → f i = x) : (List.range l.length).map f = l := by
  refine List.ext_getElem? fun i => ?_
  rw [List.getElem?_map]
  rcases Nat.lt_or_ge i l.length with hi | hi
  · rw [List.getElem?_range hi, List.getElem?_eq_getElem hi]
    exact congrArg some (h i _ (List.getElem?_eq_getElem hi))
  · rw [List.getElem?_eq_none (by simpa using hi), List.getElem?_eq_none hi]; rfl
theorem man_bytes {m : Man} (hf : m.fault = 0) {s : ByteArray} {k : Nat} (h : s.data.toList = m.bytes.data.toList ++ List.replicate k 0) : manOf s = some m := by
  obtain ⟨z1, z2, z3, z4⟩ := fault_zero.1 hf
  have hal := all_len hf
  have hlen : m.nw.length + m.od.length ≤ 23 := by simp [Man.all] at hal; omega
  have hlog := z3 m.log (by simp [Man.all])
  have hel : ∀ b ∈ m.nw ++ m.od, 2 ≤ b ∧ b < 24 := fun b hb => z3 b (by simp only [Man.all, List.mem_cons]; exact .inr hb)
  have hd : s.data.toList = ([77, m.ep % 256, m.ep / 256 % 256, m.ep / 65536, m.log % 256, (m.nw.length : Int) % 256, (m.od.length : Int) % 256].map fun n => UInt8.ofNat n.toNat) ++ (((m.nw ++ m.od).map (fun b : Int => UInt8.ofNat (b % 256).toNat)) ++ List.replicate k 0) := by
    rw [h, Man.bytes, strOfNums_data, List.map_append, List.map_map, List.append_assoc]
    rfl
  have hb : ∀ j, bt s (7 + j) = ((((m.nw ++ m.od).map (fun b : Int => UInt8.ofNat (b % 256).toNat)) ++ List.replicate k 0).getD j 0).toNat := fun j => bt_list hd j
  have hel2 : ∀ j x, (m.nw ++ m.od)[j]? = some x → (bt s (7 + j) : Int) = x := by
    intro j x hx
    have hx2 := hel x (List.mem_of_getElem? hx)
    have hj : j < (m.nw ++ m.od).length := by
      rcases Nat.lt_or_ge j (m.nw ++ m.od).length with h | h
      · exact h
      · rw [List.getElem?_eq_none h] at hx; cases hx
    rw [hb j, List.getD_eq_getElem?_getD, List.getElem?_append_left (by simpa using hj), List.getElem?_map, hx]
    show ((UInt8.ofNat (x % 256).toNat).toNat : Int) = x
    rw [u8_of (by omega) (by omega)]
    omega
  have h7 : ∀ (j : Nat) (x : Int), [77, m.ep % 256, m.ep / 256 % 256, m.ep / 65536, m.log % 256, (m.nw.length : Int) % 256, (m.od.length : Int) % 256][j]? = some x → 0 ≤ x → x < 256 → (bt s j : Int) = x := by
    intro j x hx h0 h1
    have := bt_list (a := []) (b := s.data.toList) (s := s) (by simp) j
    simp only [List.length_nil, Nat.zero_add] at this
    rw [this, List.getD_eq_getElem?_getD, hd, List.getElem?_append_left (by
      rcases Nat.lt_or_ge j 7 with h | h
      · simpa using h
      · rw [List.getElem?_eq_none (by simpa using h)] at hx; cases hx), List.getElem?_map, hx]
    exact u8_of h0 h1
  have b0 := h7 0 77 rfl (by omega) (by omega)
  have b1 := h7 1 (m.ep % 256) rfl (by omega) (by omega)
  have b2 := h7 2 (m.ep / 256 % 256) rfl (by omega) (by omega)
  have b3 := h7 3 (m.ep / 65536) rfl (by omega) (by omega)
  have b4 := h7 4 (m.log % 256) rfl (by omega) (by omega)
  have b5 := h7 5 ((m.nw.length : Int) % 256) rfl (by omega) (by omega)
  have b6 := h7 6 ((m.od.length : Int) % 256) rfl (by omega) (by omega)
  have n5 : bt s 5 = m.nw.length := by omega
  have n6 : bt s 6 = m.od.length := by omega
  have hsz : 7 + m.nw.length + m.od.length ≤ s.size := by
    have := congrArg List.length hd
    rw [len_data] at this
    simp at this
    omega
  have hm : manAt s = m := by
    have e1 : ((bt s 1 : Int) + 256 * bt s 2 + 65536 * bt s 3) = m.ep := by omega
    have e2 : (bt s 4 : Int) = m.log := by omega
    have e3 : (List.range (bt s 5)).map (fun i => (bt s (7 + i) : Int)) = m.nw := by
      rw [n5]
      refine map_range_eq fun i x hx => hel2 i x ?_
      rw [List.getElem?_append_left]
      · exact hx
      · rcases Nat.lt_or_ge i m.nw.length with h | h
        · exact h
        · rw [List.getElem?_eq_none h] at hx; cases hx
    have e4 : (List.range (bt s 6)).map (fun i => (bt s (7 + bt s 5 + i) : Int)) = m.od := by
      rw [n6, n5]
      refine map_range_eq fun i x hx => ?_
      rw [Nat.add_assoc]
      refine hel2 _ x ?_
      rw [List.getElem?_append_right (by omega), Nat.add_sub_cancel_left]
      exact hx
    unfold manAt
    rw [e1, e2, e3, e4]
  unfold manOf
  rw [if_neg (by omega), hm, if_pos hf]
end Go.Proofs.Ytaepdbkfaoiimab
/- The contracts of package filter: spots, Of, May. Conditions: the texts are no longer than any memory. -/
set_option linter.unusedVariables false
set_option linter.unusedSimpArgs false
namespace Go.Proofs.Ytaepdbkfaoiimab
open Go.RowKit

def spStep (p : Int × Int) (c : UInt8) : Int × Int := ((p.1 * 31 + (c.toNat : Int)) % 10007, (p.2 * 17 + (c.toNat : Int) + 5) % 7919)
def spFold (l : List UInt8) : Int × Int := l.foldl spStep (7, 3)
theorem spFold_bd (l : List UInt8) : 0 ≤ (spFold l).1 ∧ (spFold l).1 < 10007 ∧ 0 ≤ (spFold l).2 ∧ (spFold l).2 < 7919 := by
  rcases List.eq_nil_or_concat l with rfl | ⟨l', c, rfl⟩
  · decide
  · simp only [spFold, List.concat_eq_append, List.foldl_append, List.foldl_cons, List.foldl_nil, spStep]; omega
theorem spFold_snoc (l : List UInt8) (c : UInt8) : spFold (l ++ [c]) = spStep (spFold l) c := by simp [spFold]
theorem take_snoc (s : ByteArray) (k : Nat) (h : k < s.size) : s.data.toList.take (k + 1) = s.data.toList.take k ++ [s[k]] := by
  rw [List.take_succ_eq_append_getElem (by simpa using h)]; rfl
theorem spStep_wrap (x y : Int) (c : UInt8) (hx : 0 ≤ x ∧ x < 10007) (hy : 0 ≤ y ∧ y < 7919) :
    ((wrap64 (x * 31 + wrap64 ↑c.toNat)).tmod 10007, (wrap64 (wrap64 (y * 17 + wrap64 ↑c.toNat) + 5)).tmod 7919) = spStep (x, y) c := by
  have hc : c.toNat < 256 := UInt8.toNat_lt c
  have e0 : wrap64 (c.toNat : Int) = c.toNat := w64 _ (by omega) (by omega)
  rw [e0, w64 (x * 31 + c.toNat) (by omega) (by omega), w64 (y * 17 + c.toNat) (by omega) (by omega), w64 (y * 17 + c.toNat + 5) (by omega) (by omega),
    Int.tmod_eq_emod_of_nonneg (by omega), Int.tmod_eq_emod_of_nonneg (by omega)]
  rfl
/-- The two spots of a text. -/
def spA (s : ByteArray) : Nat := ((spFold s.data.toList).1 % 64).toNat
def spB (s : ByteArray) : Nat := ((spFold s.data.toList).2 % 64).toNat
theorem spA_lt (s : ByteArray) : spA s < 64 := by unfold spA; omega
theorem spB_lt (s : ByteArray) : spB s < 64 := by unfold spB; omega
theorem spA_eq (s : ByteArray) : (spFold s.data.toList).1 % 64 = (spA s : Int) := by unfold spA; omega
theorem spB_eq (s : ByteArray) : (spFold s.data.toList).2 % 64 = (spB s : Int) := by unfold spB; omega

set_option maxHeartbeats 400000 in
theorem spots_any (s : ByteArray) (w : World) (hs : s.size ≤ 9223372036854775807) :
    Calls Try.prog 99 #[.string s] w fun e w' => e = .returned (.tuple #[.int .i64 (spA s), .int .i64 (spB s)]) ∧ w = w' := by
  rw [← spA_eq, ← spB_eq]
  go_enter Try.func99, Try.ntmps99
  go_wp2
  go_loop [4, 5, 9] (fun a b i => ∃ k : Nat, k ≤ s.size ∧ i = .int .i64 k ∧ ∃ x y : Int, a = .int .i64 x ∧ b = .int .i64 y ∧ Hid ((x, y) = spFold (s.data.toList.take k))) (fun _ _ i => s.size - (intOf i).toNat)
  case atStart => exact ⟨0, Nat.zero_le _, rfl, 7, 3, rfl, rfl, rfl⟩
  case round =>
    obtain ⟨k, hk, rfl, x, y, rfl, rfl, hd⟩ := hrel
    obtain ⟨h1, h2, h3, h4⟩ : 0 ≤ x ∧ x < 10007 ∧ 0 ≤ y ∧ y < 7919 := by
      have := spFold_bd (s.data.toList.take k); rw [← hd.out] at this; exact this
    by_cases hlt : k < s.size
    · have hts := Lib.hid (take_snoc s k hlt)
      go_wp2
      go_round
      case rel => exact ⟨k + 1, by omega, by go_num, _, _, rfl, rfl, by rw [Hid, hts.out, spFold_snoc, ← hd.out]; exact spStep_wrap x y s[k] ⟨h1, h2⟩ ⟨h3, h4⟩⟩
      case measure => simp [intOf]; omega
    · have hge : s.size ≤ k := by omega
      go_wp2
      go_ret2
      have e : s.data.toList.take k = s.data.toList := List.take_of_length_le (by simp; omega)
      have hd' := hd.out
      rw [e] at hd'
      rw [← hd']
      exact ⟨rfl, rfl⟩

/-- The bits of a text's spots. -/
def spBits (s : ByteArray) : Nat := 2 ^ spA s ||| 2 ^ spB s
def fOf (l : List ByteArray) : Nat := l.foldl (fun f s => f ||| spBits s) 0
theorem two_lt (a : Nat) (h : a < 64) : 2 ^ a < 18446744073709551616 := Nat.pow_lt_pow_of_lt (a := 2) (n := a) (m := 64) (by decide) h
theorem or_lt64 {a b : Nat} (ha : a < 18446744073709551616) (hb : b < 18446744073709551616) : a ||| b < 18446744073709551616 := Nat.or_lt_two_pow (n := 64) ha hb
theorem spBits_lt (s : ByteArray) : spBits s < 18446744073709551616 := or_lt64 (two_lt _ (spA_lt s)) (two_lt _ (spB_lt s))
theorem fOf_snoc (l : List ByteArray) (s : ByteArray) : fOf (l ++ [s]) = fOf l ||| spBits s := by simp [fOf]
theorem foldl_or_lt (l : List ByteArray) : ∀ n, n < 18446744073709551616 → l.foldl (fun f s => f ||| spBits s) n < 18446744073709551616 := by
  induction l with
  | nil => intro n h; exact h
  | cons s l ih => intro n h; exact ih _ (or_lt64 h (spBits_lt s))
theorem fOf_lt (l : List ByteArray) : fOf l < 18446744073709551616 := foldl_or_lt l 0 (by decide)
theorem shl_wrap (a : Nat) (h : a < 64) : IntKind.u64.wrap (2 ^ min (a : Int).toNat IntKind.u64.bits) = ((2 ^ a : Nat) : Int) := by
  have h1 : min (a : Int).toNat IntKind.u64.bits = a := by simp [IntKind.bits]; omega
  have h2 := two_lt a h
  have h3 : ((2 : Int) ^ a) = ((2 ^ a : Nat) : Int) := by simp
  rw [h1, h3]
  generalize 2 ^ a = m at *
  simp [IntKind.wrap, IntKind.bits, IntKind.signed]
  omega
/-- May: has f both bits? -/
def mayB (f : Nat) (s : ByteArray) : Bool := f.testBit (spA s) && f.testBit (spB s)
theorem and_bit (f a : Nat) (hf : f < 18446744073709551616) : (bits BinOp.and IntKind.u64 ((f : Int) / 2 ^ a) 1 == 1) = f.testBit a := by
  have h1 : ((f : Int) / 2 ^ a) = ((f / 2 ^ a : Nat) : Int) := by simp
  have h2 : f / 2 ^ a < 18446744073709551616 := Nat.lt_of_le_of_lt (Nat.div_le_self _ _) hf
  rw [h1, show (1 : Int) = ((1 : Nat) : Int) from rfl, Go.u64_and_nat _ _ h2 (by decide)]
  rw [Nat.and_one_is_mod, Nat.testBit_eq_decide_div_mod_eq]
  generalize f / 2 ^ a = m
  rcases Nat.mod_two_eq_zero_or_one m with h | h <;> simp [h]
theorem and_bitA (f : Nat) (s : ByteArray) (hf : f < 18446744073709551616) : (bits BinOp.and IntKind.u64 ((f : Int) / 2 ^ min (spA s) 64) 1 == 1) = f.testBit (spA s) := by
  rw [Nat.min_eq_left (Nat.le_of_lt (spA_lt s))]; exact and_bit f _ hf
theorem and_bitB (f : Nat) (s : ByteArray) (hf : f < 18446744073709551616) : (bits BinOp.and IntKind.u64 ((f : Int) / 2 ^ min (spB s) 64) 1 == 1) = f.testBit (spB s) := by
  rw [Nat.min_eq_left (Nat.le_of_lt (spB_lt s))]; exact and_bit f _ hf
theorem or_val (x : Nat) (s : ByteArray) (hx : x < 18446744073709551616) :
    Value.int .u64 (bits .or .u64 (x : Int) (bits .or .u64 (IntKind.u64.wrap (2 ^ min (spA s) 64)) (IntKind.u64.wrap (2 ^ min (spB s) 64)))) = .int .u64 ((x ||| spBits s : Nat) : Int) := by
  have h1 := shl_wrap (spA s) (spA_lt s)
  have h2 := shl_wrap (spB s) (spB_lt s)
  simp only [Int.toNat_natCast, IntKind.bits] at h1 h2
  rw [h1, h2, Go.u64_or_nat _ _ (two_lt _ (spA_lt s)) (two_lt _ (spB_lt s)), Go.u64_or_nat _ _ hx (or_lt64 (two_lt _ (spA_lt s)) (two_lt _ (spB_lt s)))]
  rfl

set_option maxHeartbeats 400000 in
theorem of_any (B : Nat) (v : Value) (l : List ByteArray) (w : World) (hl : Strs B w v l) :
    Calls Try.prog 72 #[v] w fun e w' => e = .returned (.int .u64 (fOf l : Nat)) ∧ ∃ n, w.drewN n = w' := by
  obtain ⟨A, c, rfl, hc, hc2, hcell⟩ := hl.form
  have hsz := hl.2
  have HC := Lib.hid hcell
  have HS := Lib.hid hsz
  have hlen := hl.len
  clear hl hcell hsz
  go_enter Try.func72, Try.ntmps72
  go_wp2
  go_loopw [3, 10] (fun f i wr => ∃ k n : Nat, k ≤ l.length ∧ i = .int .i64 k ∧ w.drewN n = wr ∧ ∃ x : Nat, f = .int .u64 x ∧ Hid (x = fOf (l.take k)) ∧ x < 18446744073709551616) (fun _ i _ => l.length - (intOf i).toNat)
  case atStart => exact ⟨0, 0, Nat.zero_le _, rfl, rfl, 0, rfl, rfl, by decide⟩
  case round =>
    obtain ⟨k, n, hk, rfl, rfl, x, rfl, hx, hx2⟩ := hrel
    by_cases hlt : k < l.length
    · obtain ⟨s, hs, htk, _⟩ := getElem?_of_lt hlt
      obtain ⟨b, o, rfl, hb, hcell⟩ := HC.out k s hs
      have hs2 := HS.out s (List.mem_of_getElem? hs)
      have HT := Lib.hid htk
      have HH := Lib.hid (spots_any s (w.drewN n) hs2)
      clear htk hs
      go_wp2_with (go_at_call 99; refine HH.out.mono ?_; rintro e w' ⟨rfl, rfl⟩)
      have g1 : (0 : Int) ≤ (spA s : Int) := by omega
      have g2 : (0 : Int) ≤ (spB s : Int) := by omega
      go_quiet (fail)
      go_wp2
      go_roundw
      case rel => exact ⟨k + 1, _, by omega, by go_num, rfl, _, or_val x s hx2, by rw [Hid, HT.out, fOf_snoc, ← hx.out], or_lt64 hx2 (spBits_lt s)⟩
      case measure => simp [intOf]; omega
    · have hge : l.length ≤ k := by omega
      go_wp2
      go_ret
      have e : l.take k = l := List.take_of_length_le hge
      have hx' := hx.out
      rw [e] at hx'
      exact ⟨by rw [hx']; rfl, _, rfl⟩

set_option maxHeartbeats 400000 in
theorem may_any (f : Nat) (s : ByteArray) (w : World) (hs : s.size ≤ 9223372036854775807) (hf : f < 18446744073709551616) :
    Calls Try.prog 76 #[.int .u64 f, .string s] w fun e w' => e = .returned (.bool (mayB f s)) ∧ w = w' := by
  have HH := Lib.hid (spots_any s w hs)
  have g1 : (0 : Int) ≤ (spA s : Int) := by omega
  have g2 : (0 : Int) ≤ (spB s : Int) := by omega
  have e1 := Lib.hid (and_bitA f s hf)
  have e2 := Lib.hid (and_bitB f s hf)
  go_enter Try.func76, Try.ntmps76
  go_wp2_with (go_at_call 99; refine HH.out.mono ?_; rintro e w' ⟨rfl, rfl⟩)
  · have h : bits BinOp.and IntKind.u64 ((f : Int) / 2 ^ min (spA s) 64) 1 = 1 := by assumption
    go_ret
    exact ⟨ret_bool (by simp [mayB, ← e1.out, ← e2.out, h]), rfl⟩
  · have h : ¬ bits BinOp.and IntKind.u64 ((f : Int) / 2 ^ min (spA s) 64) 1 = 1 := by assumption
    go_ret
    exact ⟨ret_bool (by simp [mayB, ← e1.out, ← e2.out, h]), rfl⟩
end Go.Proofs.Ytaepdbkfaoiimab
/- The plain model of a table: its pages, what is wrong with entries. Conditions: none. -/
set_option linter.unusedVariables false
set_option linter.unusedSimpArgs false
namespace Go.Proofs.Ytaepdbkfaoiimab
open Go.RowKit

/-- A filter as bytes. -/
def bitsB (f : Nat) : ByteArray := strOfNums (70 :: (List.range 8).map (fun i => ((f / 2 ^ (8 * i) % 256 : Nat) : Int)))
def chunks2 : List Ent → List (List Ent)
  | [] => []
  | [a] => [[a]]
  | a :: b :: l => [a, b] :: chunks2 l
/-- What the pages of a table are written with. -/
def rawPages (l : List Ent) : List ByteArray := bitsB (fOf (l.map Ent.k)) :: (chunks2 l).map (fun p => bytesL p.length p)
def tabPages (l : List Ent) : List Sheet := (rawPages l).map (fun d => ⟨pad d, false⟩)
/-- What is wrong with entries that rise, from the one ahead of them on. -/
def chkT : Option ByteArray → List Ent → Nat
  | _, [] => 0
  | p, e :: l => if faultE e ≠ 0 then faultE e else if (match p with | none => false | some k => leB e.k k) then 3 else chkT (some e.k) l
def tabF (l : List Ent) : Nat := if l.length = 0 ∨ 14 < l.length then 2 else chkT none l
theorem bitsB_size (f : Nat) : (bitsB f).size = 9 := by unfold bitsB; rw [strOfNums_size]; simp
theorem bitsB_at (f i : Nat) (h : i < 8) : bt (pad (bitsB f)) (1 + i) = f / 2 ^ (8 * i) % 256 := by
  have hd : (pad (bitsB f)).data.toList = [70] ++ (((List.range 8).map (fun i => UInt8.ofNat (((f / 2 ^ (8 * i) % 256 : Nat) : Int)).toNat)) ++ List.replicate (64 - (bitsB f).size) 0) := by
    simp only [pad, bitsB, strOfNums_data, List.map_cons, List.map_map]
    rfl
  have := bt_list hd i
  rw [show ([70] : List UInt8).length = 1 from rfl] at this
  rw [this, List.getD_eq_getElem?_getD, List.getElem?_append_left (by simpa using h), List.getElem?_map, List.getElem?_range h]
  show (UInt8.ofNat (((f / 2 ^ (8 * i) % 256 : Nat) : Int)).toNat).toNat = _
  rw [Int.toNat_natCast]
  simp
theorem bitsB_head (f : Nat) : bt (pad (bitsB f)) 0 = 70 := by
  have hd : (pad (bitsB f)).data.toList = [] ++ (UInt8.ofNat 70 :: (((List.range 8).map (fun i => UInt8.ofNat (((f / 2 ^ (8 * i) % 256 : Nat) : Int)).toNat)) ++ List.replicate (64 - (bitsB f).size) 0)) := by
    simp only [pad, bitsB, strOfNums_data, List.map_cons, List.map_map]
    rfl
  have := bt_list hd 0
  simpa using this
/-- The low bits and the next eight. -/
theorem or_step (f k : Nat) : (f % 2 ^ (8 * k)) ||| ((f / 2 ^ (8 * k) % 256) * 2 ^ (8 * k)) = f % 2 ^ (8 * (k + 1)) := by
  have hlt : f % 2 ^ (8 * k) < 2 ^ (8 * k) := Nat.mod_lt _ (Nat.pow_pos (by decide))
  rw [Nat.or_comm, Nat.mul_comm, ← Nat.two_pow_add_eq_or_of_lt hlt]
  have e : 2 ^ (8 * (k + 1)) = 2 ^ (8 * k) * 256 := by rw [Nat.mul_add, Nat.pow_add]
  rw [e, Nat.mod_mul]
  omega
end Go.Proofs.Ytaepdbkfaoiimab
/- The lowest bits of an int are its rest. Plain laws; conditions: none. -/
set_option linter.unusedVariables false
set_option linter.unusedSimpArgs false
namespace Go.Proofs.Ytaepdbkfaoiimab
open Go.RowKit

theorem and_low (n : Int) (m j : Nat) (hm : m + 1 = 2 ^ j) (hj : j ≤ 8) : bits BinOp.and IntKind.i64 n (m : Int) = n % (2 ^ j : Nat) := by
  have h64 : (2 : Int) ^ IntKind.i64.bits = 18446744073709551616 := by decide
  have h64n : (2 : Nat) ^ IntKind.i64.bits = 18446744073709551616 := by decide
  have h2 : 2 ^ j ≤ 2 ^ 8 := Nat.pow_le_pow_right (by decide) hj
  have h2' : (2 : Nat) ^ 8 = 256 := by decide
  unfold bits
  simp only [BitVec.toNat_and, BitVec.toNat_ofInt]
  have e1 : ((m : Int) % ((2 ^ IntKind.i64.bits : Nat) : Int)).toNat = m := by rw [h64n]; omega
  have e2 : m = 2 ^ j - 1 := by omega
  rw [e1, e2, Nat.and_two_pow_sub_one_eq_mod, IntKind.wrap_i64]
  have e3 : ((n % ((2 ^ IntKind.i64.bits : Nat) : Int)).toNat : Int) = n % 18446744073709551616 := by rw [h64n]; omega
  have e4 : (((n % ((2 ^ IntKind.i64.bits : Nat) : Int)).toNat % 2 ^ j : Nat) : Int) = n % (2 ^ j : Nat) := by
    rw [Int.natCast_emod, e3]
    exact Int.emod_emod_of_dvd _ (by
      have : ((2 ^ j : Nat) : Int) ∣ ((2 ^ 64 : Nat) : Int) := Int.natCast_dvd_natCast.2 (Nat.pow_dvd_pow 2 (by omega))
      exact this)
  rw [e4]
  have hpos : 0 < 2 ^ j := Nat.pow_pos (by decide)
  have := Int.emod_nonneg n (b := ((2 ^ j : Nat) : Int)) (by omega)
  have := Int.emod_lt_of_pos n (b := ((2 ^ j : Nat) : Int)) (by omega)
  omega
theorem and63 (n : Int) : bits BinOp.and IntKind.i64 n 63 = n % 64 := and_low n 63 6 (by decide) (by decide)
theorem and31 (n : Int) : bits BinOp.and IntKind.i64 n 31 = n % 32 := and_low n 31 5 (by decide) (by decide)
theorem and15 (n : Int) : bits BinOp.and IntKind.i64 n 15 = n % 16 := and_low n 15 4 (by decide) (by decide)
theorem and7 (n : Int) : bits BinOp.and IntKind.i64 n 7 = n % 8 := and_low n 7 3 (by decide) (by decide)
theorem and3 (n : Int) : bits BinOp.and IntKind.i64 n 3 = n % 4 := and_low n 3 2 (by decide) (by decide)
theorem and1 (n : Int) : bits BinOp.and IntKind.i64 n 1 = n % 2 := and_low n 1 1 (by decide) (by decide)
end Go.Proofs.Ytaepdbkfaoiimab
/- The contracts of package table: bits, unbits, keys, Check, page, All. Conditions: none but those that each names. -/
set_option linter.unusedVariables false
set_option linter.unusedSimpArgs false
namespace Go.Proofs.Ytaepdbkfaoiimab
open Go.RowKit
attribute [local go_sem] bt_idx bt_wrap bt_extract

theorem below_drewN {B : Nat} {a w : World} (h : Below B a w) (n : Nat) : Below B a (w.drewN n) := ⟨h.os, h.tape, h.output, h.size, h.block⟩
section
variable {P : Program} {w : World}
/-- A row that is owned, or one that is full and only read. -/
def Apd (w : World) (base : Nat) (e : TypeId) (size : Nat) (v : Value) (n : Nat) (xs : List Value) : Prop :=
  w.ownsRow base e size v n xs ∨ (0 < n ∧ (∃ g, v = .slice (some ⟨g, 0, none⟩) n n ∧ base ≤ g) ∧ Rd 0 e size w v n xs)
theorem Apd.alloc {base e size n : Nat} {v : Value} {xs : List Value} (h : Apd w base e size v n xs) (o : Obj) : Apd (w.alloc o) base e size v n xs := by
  rcases h with h | ⟨h1, h2, h3⟩
  · exact .inl (own_alloc h o)
  · exact .inr ⟨h1, h2, h3.below ((Below.refl _ _).alloc (Nat.le_refl _) o)⟩
theorem Apd.rd {base e size n B : Nat} {v : Value} {xs : List Value} (h : Apd w base e size v n xs) : Rd B e size w v n xs := by
  rcases h with h | ⟨h1, h2, h3⟩
  · exact Rd.of_own h
  · exact h3.mono (Nat.zero_le _)
theorem Apd.ge {base e size n : Nat} {v : Value} {xs : List Value} (h : Apd w base e size v n xs) : ∀ k, v.ownBlock = some k → base ≤ k := by
  rcases h with h | ⟨h1, ⟨g, rfl, hg⟩, h3⟩
  · exact own_ge h
  · intro k hk; cases hk; exact hg
theorem apd_mark (w : World) (T : TypeId) (x : Value) (fz : Nat × Nat) : Apd (w.alloc (.cells #[x] T fz)) w.heap.size T 1 (.slice (some ⟨w.heap.size, 0, none⟩) 1 1) 1 [x] := by
  refine .inr ⟨Nat.one_pos, ⟨_, rfl, Nat.le_refl _⟩, rfl, _, 1, rfl, Nat.le_refl _, by decide, fun _ => ⟨_, 0, rfl, .inr ⟨_, _, heap_alloc_new w _⟩, heap_lt (heap_alloc_new w _), fun j u hu => ?_⟩⟩
  have hh := heap_alloc_new w (.cells #[x] T fz)
  have hc : (w.alloc (.cells #[x] T fz)).cell? ⟨w.heap.size, 0 + j, none⟩ = (#[x] : Array Value)[j]? := by
    unfold World.cell?
    rw [hh]
    simp
  rw [hc]
  simpa using hu
theorem run_append_apd (base : Nat) (t ty e : TypeId) (i : TypeInfo) (z : Value) (size bytes : Nat) (ht : P.underlying t = some (.slice e)) (hi : P.info? e = some i) (hz : i.zero = some z)
    (hsize : i.size = size) (hby : i.bytes = bytes) (hzs : z.cells.size = size) (hsz : 0 < size)
    (v : Value) (n : Nat) (xs : List Value) (hown : Apd w base e size v n xs)
    (B T : Nat) (x : Value) (m : Nat) (news : List Value) (hm : 0 < m) (hr : Rd B T size w x m news) (h1 : ∀ u ∈ news, u.oneCell' = true)
    (h63 : n + m ≤ maxLen) (hbytes : (n + m) * bytes ≤ 140737488355328) (hbase : base ≤ w.heap.size) :
    ∃ v' w', (Builtin.append_ #[t, t] ty #[v, x]).run P w = .ok v' w' ∧ w'.ownsRow base e size v' (n + m) (xs ++ news) ∧ w.grownBy w' v.ownBlock := by
  rcases hown with hown | ⟨h0, ⟨g, rfl, hg⟩, hrd⟩
  · obtain ⟨v', w', e1, e2, e3, e4⟩ := run_append_rd w base t ty e i z size bytes ht hi hz hsize hby hzs hsz v n xs hown B T x m news hr h1 h63 hbytes hbase
    exact ⟨v', w', e1, e2, e3⟩
  · subst hsize
    subst hby
    have hlen : (xs ++ news).length = (n + m) * i.size := by rw [List.length_append, hrd.1, hr.1, Nat.add_mul]
    have hsmall : n + m ≤ 9223372036854775807 := by simp only [maxLen] at h63; omega
    obtain ⟨b, o, eA, _, _, hcc⟩ := rd_at' hrd h0
    cases eA
    obtain ⟨A, c, rfl⟩ := rd_form' hr
    obtain ⟨b2, o2, rfl, _, _, hcc2⟩ := rd_at' hr hm
    have hr := run_append_grow (P := P) w t ty e i z ht hi hz ⟨g, 0, none⟩ n n xs hrd.1 (fun j u hu => by rw [addr_add]; exact hcc j u hu) ⟨b2, o2, none⟩ m c news hr.1 (fun j u hu => by rw [addr_add]; exact hcc2 j u hu) (by omega) (by omega) (growslice_fits (by omega) hbytes)
    have hge := grownCap_ge w (n + m) n e
    have hcm : grownCap w (n + m) n e ≤ maxLen := grownCap_le_maxLen w (n + m) n e h63
    refine ⟨_, _, hr, ⟨hlen, .inr ⟨w.heap.size, _, _, rfl, hbase, heap_alloc_new w.drew _, hge, hcm, ?_, ?_⟩⟩, ⟨rfl, rfl, rfl, by simp, fun k hk _ => by rw [Below.heap_alloc w.drew _ k hk]; rfl⟩⟩
    · have hxl := hlen
      rw [List.length_append] at hxl
      simp only [Array.size_append, List.size_toArray, size_zeroCells, hzs, hxl, ← Nat.add_mul]
      congr 1
      omega
    · simp only [Array.toList_append, List.append_assoc]
      rw [← List.append_assoc, ← hlen]
      exact List.take_left
theorem wpList_append_apd {ops : Array Oper} {rest : List Oper} {o : Oper} {a : Act} {Q : Exit → Act → World → Prop} (hgd : o.guard = none) (s x : Operand) (t : TypeId)
    (ho : o.op = .call { callee := .builtin .append, args := #[s, x], argTypes := #[t, t] })
    (base : Nat) (e : TypeId) (i : TypeInfo) (z : Value) (size bytes : Nat) (ht : P.underlying t = some (.slice e)) (hi : P.info? e = some i) (hz : i.zero = some z)
    (hsize : i.size = size) (hby : i.bytes = bytes) (hzs : z.cells.size = size) (hsz : 0 < size)
    (v : Value) (n : Nat) (xs : List Value) (hs : a.eval s = v) (hown : Apd w base e size v n xs)
    (B T : Nat) (vx : Value) (m : Nat) (news : List Value) (hm : 0 < m) (hx : a.eval x = vx) (hr : Rd B T size w vx m news) (h1 : ∀ u ∈ news, u.oneCell' = true)
    (h63 : n + m ≤ maxLen) (hbytes : (n + m) * bytes ≤ 140737488355328) (hbase : base ≤ w.heap.size)
    (h : ∀ v' w', w'.ownsRow base e size v' (n + m) (xs ++ news) → w.grownBy w' v.ownBlock → wpList P ops Q rest (a.put o.dst v') w') : wpList P ops Q (o :: rest) a w :=
  wpList_plain hgd fun _ hK => by
    obtain ⟨v', w', hrun, h2, h3⟩ := run_append_apd (P := P) base t o.type e i z size bytes ht hi hz hsize hby hzs hsz v n xs hown B T vx m news hm hr h1 h63 hbytes hbase
    unfold Oper.wp execOp
    simp only [ho, resolve, invoke, builtin, Sem.run_bind, Sem.run_pure, Result.andThen_ok, List.map_toArray, List.map_cons, List.map_nil, hs, hx, hrun]
    exact hK _ _ (h v' w' h2 h3)
end
theorem below_apd {n : Nat} {w0 w w1 : World} {e : TypeId} {size k : Nat} {v : Value} {xs : List Value} (hb : Below n w0 w) (hn : n ≤ w0.heap.size) (h : Apd w n e size v k xs) (hg : w.grownBy w1 v.ownBlock) : Below n w0 w1 :=
  hb.grown hg (Nat.le_trans hn hb.size) h.ge
theorem or_u64 (a b : Nat) (k : Nat) (ha : a < 18446744073709551616) (hb : b * 2 ^ (8 * k) < 18446744073709551616) :
    Value.int .u64 (bits .or .u64 (a : Int) (IntKind.u64.wrap ((b : Int) * 2 ^ (8 * k)))) = .int .u64 ((a ||| (b * 2 ^ (8 * k)) : Nat) : Int) := by
  have h3 : (b : Int) * 2 ^ (8 * k) = ((b * 2 ^ (8 * k) : Nat) : Int) := by simp
  have h4 : IntKind.u64.wrap ((b * 2 ^ (8 * k) : Nat) : Int) = ((b * 2 ^ (8 * k) : Nat) : Int) := by
    generalize b * 2 ^ (8 * k) = x at *
    have h2 : ((x : Nat) : Int) < 18446744073709551616 := by omega
    have h1 : (0 : Int) ≤ ((x : Nat) : Int) := by omega
    simp [IntKind.wrap, IntKind.bits, IntKind.signed]
    omega
  rw [h3, h4, Go.u64_or_nat _ _ ha hb]
set_option maxRecDepth 20000 in
set_option maxHeartbeats 4000000 in
theorem bits_any (f : Nat) (hf : f < 18446744073709551616) (w : World) :
    Calls Try.prog 71 #[.int .u64 f] w fun e w' => e = .returned (.string (bitsB f)) ∧ Below w.heap.size w w' := by
  have HF : Hid (f < 18446744073709551616) := hf
  clear hf
  have kc := fun (w : World) (C : Array Value) (n c : Nat) => Lib.run_convert_bytes_const (P := Try.prog) w 105 5 C n c Try.underlying105 Try.underlying5
  go_enter Try.func71, Try.ntmps71
  go_wp2_with fail
  have HROW := Lib.hid (apd_mark w 5 (.int .u8 70) (1, 2))
  go_loopw [3, 7] (fun u i wr => ∃ k : Nat, k ≤ 8 ∧ i = .int .i64 (k : Int) ∧ Hid (Apd wr w.heap.size 5 1 u (1 + k) (Value.int .u8 70 :: (List.range k).map (fun i => Value.int .u8 ((f / 2 ^ (8 * i) % 256 : Nat) : Int)))) ∧ Below w.heap.size w wr) (fun _ i _ => 8 - (intOf i).toNat)
  case atStart => exact ⟨0, by omega, rfl, HROW.out, (Below.refl _ _).alloc (Nat.le_refl _) _⟩
  case round =>
    obtain ⟨k, hk, rfl, hown, hbl⟩ := hrel
    by_cases hlt : k < 8
    · have t8 : decide ((k : Int) < 8) = true := decide_eq_true (by omega)
      have hbs := hbl.size
      have g0 : (0 : Int) ≤ 8 * (k : Int) := by omega
      obtain ⟨i0, hi, hz0, hz1, hz2⟩ := info_parts info_u8
      have e8 : ((f / 2 ^ (8 * k) % 256 : Nat) : Int) = (f : Int) / 2 ^ (8 * k) % 256 := by simp
      have hown' := Lib.hid (hown.out.alloc (.cells #[.int .u8 ((f : Int) / 2 ^ (8 * k) % 256)] 5))
      have hone := Lib.hid (Rd.of_own (B := 0) (own_one (base := 0) (Blk.new wr 5 #[.int .u8 ((f : Int) / 2 ^ (8 * k) % 256)]) (by omega)))
      have HB' := Lib.hid (hbl.alloc hbl.size (.cells #[.int .u8 ((f : Int) / 2 ^ (8 * k) % 256)] 5))
      have E8 := Lib.hid e8
      clear e8
      go_wp2_with (at_builtin; go_loud (refine wpList_append_apd rfl (.tmp 10) (.tmp 16) 105 rfl w.heap.size 5 i0 _ 1 1 Try.underlying105 hi hz0 hz1 hz2 rfl (by decide) _ _ _ rfl hown'.out 0 5 _ 1 _ Nat.one_pos rfl hone.out (by simp [Value.oneCell']) (by unfold maxLen; omega) (by omega) (by simp; omega) ?_); intro v4 w4 hown4 hg4)
      have HB4 := Lib.hid (below_apd HB'.out (Nat.le_refl _) hown'.out hg4)
      have HO4 : Hid (Apd w4 w.heap.size 5 1 v4 (1 + (k + 1)) (Value.int .u8 70 :: (List.range (k + 1)).map (fun i => Value.int .u8 ((f / 2 ^ (8 * i) % 256 : Nat) : Int)))) := by
        rw [Hid, List.range_succ, List.map_append, ← Nat.add_assoc]
        simp only [List.map_cons, List.map_nil]
        rw [E8.out]
        exact .inl hown4
      clear hi hz0 hz1 hz2 hg4 hown4
      go_roundw
      case rel => exact ⟨k + 1, by omega, by go_num, HO4.out, HB4.out⟩
      case measure => simp [intOf] <;> omega
    · have hk8 : k = 8 := by omega
      subst hk8
      have t8 : decide (((8 : Nat) : Int) < 8) = false := by decide
      have hrd := hown.out.rd (B := w.heap.size)
      obtain ⟨A5, c5, rfl⟩ := rd_form' hrd
      obtain ⟨b5, o5, rfl, _, _, hc5⟩ := rd_at' hrd (by omega)
      have hcv := run_convert_bytes_arg (P := Try.prog) wr 105 5 Try.underlying105 Try.underlying5 b5 o5 (1 + 8) c5 (70 :: (List.range 8).map (fun i => ((f / 2 ^ (8 * i) % 256 : Nat) : Int))) (by simp) (fun i hi => by
        refine hc5 i _ ?_
        have e : (Value.int .u8 70 :: (List.range 8).map (fun i => Value.int .u8 ((f / 2 ^ (8 * i) % 256 : Nat) : Int))) = (70 :: (List.range 8).map (fun i => ((f / 2 ^ (8 * i) % 256 : Nat) : Int))).map (.int .u8) := by simp
        rw [e, List.getElem?_map, List.getD_eq_getElem?_getD, List.getElem?_eq_getElem (by simp; omega)]
        rfl) 9 Try.underlying9
      rw [show strOfNums (70 :: (List.range 8).map (fun i => ((f / 2 ^ (8 * i) % 256 : Nat) : Int))) = bitsB f from rfl] at hcv
      clear hc5 hrd hown
      go_wp2_with fail
      go_ret
      exact ⟨rfl, hbl⟩
set_option maxRecDepth 20000 in
set_option maxHeartbeats 4000000 in
theorem unbits_any (f : Nat) (hf : f < 18446744073709551616) (w : World) :
    Calls Try.prog 75 #[.string (pad (bitsB f))] w fun e w' => e = .returned (.tuple #[.int .u64 f, .bool true]) ∧ ∃ n, w.drewN n = w' := by
  have hsz : (pad (bitsB f)).size = 64 := pad_size (by rw [bitsB_size]; omega)
  have HAT : Hid (∀ i, i < 8 → bt (pad (bitsB f)) (1 + i) = f / 2 ^ (8 * i) % 256) := fun i hi => bitsB_at f i hi
  have HHD : Hid (bt (pad (bitsB f)) 0 = 70) := bitsB_head f
  have HF : Hid (f < 18446744073709551616) := hf
  generalize pad (bitsB f) = s at *
  clear hf
  go_enter Try.func75, Try.ntmps75
  go_wp2_with fail
  go_loop [4, 6] (fun u i => ∃ k : Nat, k ≤ 8 ∧ i = .int .i64 (k : Int) ∧ u = .int .u64 ((f % 2 ^ (8 * k) : Nat) : Int)) (fun _ i => 8 - (intOf i).toNat)
  case atStart => exact ⟨0, by omega, rfl, by rw [Nat.mul_zero, Nat.pow_zero, Nat.mod_one]; rfl⟩
  case round =>
    obtain ⟨k, hk, rfl, rfl⟩ := hrel
    by_cases hlt : k < 8
    · have t8 : decide ((k : Int) < 8) = true := decide_eq_true (by omega)
      have g0 : (0 : Int) ≤ 8 * (k : Int) := by omega
      have i0 : (0 : Int) ≤ 1 + (k : Int) := by omega
      have i1 : 1 + (k : Int) < (s.size : Int) := by omega
      have i3 : 1 + k < s.size := by omega
      have l7 := bt_lt s (1 + k)
      go_wp2_with fail
      have l6 : f % 2 ^ (8 * k) < 18446744073709551616 := Nat.lt_of_le_of_lt (Nat.mod_le _ _) HF.out
      have HSUM : Hid (Value.int .u64 (bits .or .u64 (f % 2 ^ (8 * k) : Int) (IntKind.u64.wrap ((bt s (1 + k) : Int) * 2 ^ (8 * k)))) = .int .u64 ((f % 2 ^ (8 * (k + 1)) : Nat) : Int)) := by
        have hb : f / 2 ^ (8 * k) % 256 * 2 ^ (8 * k) < 18446744073709551616 := by
          have h1 : f / 2 ^ (8 * k) % 256 * 2 ^ (8 * k) ≤ f / 2 ^ (8 * k) * 2 ^ (8 * k) := Nat.mul_le_mul_right _ (Nat.mod_le _ _)
          exact Nat.lt_of_le_of_lt (Nat.le_trans h1 (Nat.div_mul_le_self _ _)) HF.out
        have h1 := or_u64 (f % 2 ^ (8 * k)) (f / 2 ^ (8 * k) % 256) k l6 hb
        rw [or_step] at h1
        rw [Hid, HAT.out k hlt, ← h1]
        simp
      go_roundw
      case rel => exact ⟨k + 1, by omega, by go_num, HSUM.out⟩
      case measure => simp [intOf] <;> omega
    · have hk8 : k = 8 := by omega
      subst hk8
      have t8 : decide (((8 : Nat) : Int) < 8) = false := by decide
      have HL : Hid ((f % 2 ^ (8 * 8) : Nat) = f) := Nat.mod_eq_of_lt HF.out
      have z0 : 0 < s.size := by omega
      have hb0 : ((bt s 0 : Nat) : Int) = 70 := by rw [HHD.out]; rfl
      go_wp2_with fail
      go_quiet (fail)
      go_wp2
      go_ret2
      have e : (f : Int) % 18446744073709551616 = f := by have := HF.out; omega
      rw [e]
      exact ⟨rfl, _, rfl⟩
theorem info_str : (Try.prog.info? 9).map (fun i => (i.zero, i.size, i.bytes)) = some (some (.string ByteArray.empty), 1, 16) := by kernel_rfl
theorem rd_lit1s (B : Nat) (w : World) (g : Nat) (hg : w.heap.size = g) (s : ByteArray) : Rd B 9 1 (w.alloc (.cells #[.string s] 9)) (.slice (some ⟨g, 0, none⟩) 1 1) 1 [.string s] := by
  subst hg
  exact Rd.of_own (own_one (base := 0) (Blk.new w 9 #[.string s]) (by omega))
set_option maxRecDepth 20000 in
set_option maxHeartbeats 4000000 in
theorem keys_any (B : Nat) (v : Value) (l : List Ent) (w : World) (h : Ents B w v l) (hn : l.length ≤ 1000000) :
    Calls Try.prog 73 #[v] w fun e w' => ∃ u, e = .returned u ∧ Strs B w' u (l.map Ent.k) ∧ Below w.heap.size w w' := by
  obtain ⟨A, c, rfl, hc, hc2, hcell⟩ := h.form
  have HC := Lib.hid hcell
  have HO : Hid (∀ e ∈ l, EntOk e) := h.2
  clear hcell h
  go_enter Try.func73, Try.ntmps73
  go_wp2_with fail
  go_loopw [3, 8] (fun u i wr => ∃ k : Nat, k ≤ l.length ∧ i = .int .i64 k ∧ Hid (wr.ownsRow w.heap.size 9 1 u k ((l.take k).map (fun e => Value.string e.k))) ∧ Below w.heap.size w wr) (fun _ i _ => l.length - (intOf i).toNat)
  case atStart => exact ⟨0, Nat.zero_le _, rfl, World.ownsRow_nil _ _ _ _, Below.refl _ _⟩
  case round =>
    obtain ⟨k, hk, rfl, hown, hbl⟩ := hrel
    by_cases hlt : k < l.length
    · obtain ⟨x, hx, htk, _⟩ := getElem?_of_lt hlt
      obtain ⟨b, o, rfl, hb, c1, c2, c3⟩ := HC.out k x hx
      have d1 := (hbl.cell (p := ⟨b, o + k * 3, none⟩) hb).trans c1
      have d2 := (hbl.cell (p := ⟨b, o + k * 3 + 1, none⟩) hb).trans c2
      have d3 := (hbl.cell (p := ⟨b, o + k * 3 + 2, none⟩) hb).trans c3
      have HT := Lib.hid htk
      clear htk hx c1 c2 c3
      obtain ⟨i0, hi, hz0, hz1, hz2⟩ := info_parts info_str
      have hbs := hbl.size
      have hown' := Lib.hid (own_alloc (own_alloc hown.out (.cells #[.string x.k, .string x.v, .bool x.g] 25)) (.cells #[.string x.k] 9))
      have HB0 := Lib.hid ((hbl.alloc hbs (.cells #[.string x.k, .string x.v, .bool x.g] 25)).alloc (by simp; omega) (.cells #[.string x.k] 9))
      have HL := Lib.hid (rd_lit1s B (wr.alloc (.cells #[.string x.k, .string x.v, .bool x.g] 25)) (wr.heap.size + 1) (by simp) x.k)
      go_wp2_with (at_builtin; go_loud (refine wpList_append_rd _ rfl (.tmp 12) (.tmp 15) 128 rfl w.heap.size 9 i0 _ 1 16 Try.underlying128 hi hz0 hz1 hz2 rfl (by decide) u3 _ _ rfl hown'.out B 9 _ 1 _ rfl HL.out (by simp [Value.oneCell']) (by unfold maxLen; omega) (by omega) (by simp; omega) ?_); intro v1 w1 hown1 hg1 hat1)
      have hb1 := below_own HB0.out (Nat.le_refl _) hown'.out hg1
      have hown2 : Hid (w1.ownsRow w.heap.size 9 1 v1 (k + 1) ((l.take (k + 1)).map (fun e => Value.string e.k))) := by
        rw [Hid, HT.out, List.map_append]; exact hown1
      clear hi hz0 hz1 hz2 hg1 hat1 hown1
      go_roundw
      case rel => exact ⟨k + 1, by omega, by go_num, hown2, hb1⟩
      case measure => simp [intOf] <;> omega
    · have hge : k = l.length := by omega
      subst hge
      go_wp2_with fail
      go_ret
      have hr := Rd.of_own (B := B) hown.out
      rw [List.take_length] at hr
      refine ⟨_, rfl, ⟨?_, fun s hs => ?_⟩, hbl⟩
      · rw [List.length_map, List.map_map]; exact hr
      · obtain ⟨e, he, rfl⟩ := List.mem_map.1 hs
        exact (HO.out e he).1
/-- The key ahead of place k. -/
def prevK (l : List Ent) (k : Nat) : Option ByteArray := if k = 0 then none else (l[k - 1]?).map Ent.k
theorem chkt_step {l : List Ent} {k : Nat} {y : Ent} (hy : l[k]? = some y) (h0 : faultE y = 0) (h1 : (match prevK l k with | none => false | some p => leB y.k p) = false) :
    chkT (prevK l k) (l.drop k) = chkT (prevK l (k + 1)) (l.drop (k + 1)) := by
  have hk : k < l.length := by
    rcases Nat.lt_or_ge k l.length with h | h
    · exact h
    · rw [List.getElem?_eq_none h] at hy; cases hy
  have hyk := hy
  rw [List.getElem?_eq_getElem hk] at hy
  have hy := Option.some.inj hy
  rw [List.drop_eq_getElem_cons hk, hy]
  show (if faultE y ≠ 0 then faultE y else if (match prevK l k with | none => false | some p => leB y.k p) then 3 else chkT (some y.k) (l.drop (k + 1))) = _
  rw [if_neg (by simp [h0]), h1, if_neg (by simp)]
  simp [prevK, hyk]
theorem chkt_fault {l : List Ent} {k : Nat} {y : Ent} (hy : l[k]? = some y) (h0 : faultE y ≠ 0) : chkT (prevK l k) (l.drop k) = faultE y := by
  have hk : k < l.length := by
    rcases Nat.lt_or_ge k l.length with h | h
    · exact h
    · rw [List.getElem?_eq_none h] at hy; cases hy
  rw [List.getElem?_eq_getElem hk] at hy
  have hy := Option.some.inj hy
  rw [List.drop_eq_getElem_cons hk, hy]
  exact if_pos h0
theorem chkt_three {l : List Ent} {k : Nat} {y : Ent} (hy : l[k]? = some y) (h0 : faultE y = 0) (h1 : (match prevK l k with | none => false | some p => leB y.k p) = true) : chkT (prevK l k) (l.drop k) = 3 := by
  have hk : k < l.length := by
    rcases Nat.lt_or_ge k l.length with h | h
    · exact h
    · rw [List.getElem?_eq_none h] at hy; cases hy
  rw [List.getElem?_eq_getElem hk] at hy
  have hy := Option.some.inj hy
  rw [List.drop_eq_getElem_cons hk, hy]
  show (if faultE y ≠ 0 then faultE y else if (match prevK l k with | none => false | some p => leB y.k p) then 3 else chkT (some y.k) (l.drop (k + 1))) = _
  rw [if_neg (by simp [h0]), h1, if_pos rfl]
set_option maxRecDepth 20000 in
set_option maxHeartbeats 4000000 in
theorem tcheck_any (B : Nat) (v : Value) (l : List Ent) (w : World) (h : Ents B w v l) :
    Calls Try.prog 48 #[v] w fun e w' => e = .returned (errV (tabF l)) ∧ Below w.heap.size w w' := by
  obtain ⟨A, c, rfl, hc, hc2, hcell⟩ := h.form
  have HC := Lib.hid hcell
  clear hcell h
  by_cases hz : l.length = 0 ∨ 14 < l.length
  · have HF : Hid (tabF l = 2) := if_pos hz
    by_cases h0 : l.length = 0
    · have z0 : (((l.length : Nat) : Int) == 0) = true := by rw [h0]; rfl
      go_enter Try.func48, Try.ntmps48
      go_wp2_with fail
      go_ret
      exact ⟨by rw [HF.out]; rfl, Below.refl _ _⟩
    · have z0 : (((l.length : Nat) : Int) == 0) = false := beq_eq_false_iff_ne.2 (by omega)
      have z1 : decide ((14 : Int) < ((l.length : Nat) : Int)) = true := decide_eq_true (by omega)
      go_enter Try.func48, Try.ntmps48
      go_wp2_with fail
      go_ret
      exact ⟨by rw [HF.out]; rfl, Below.refl _ _⟩
  · have HF : Hid (tabF l = chkT none l) := if_neg hz
    have z0 : (((l.length : Nat) : Int) == 0) = false := beq_eq_false_iff_ne.2 (by omega)
    have z1 : decide ((14 : Int) < ((l.length : Nat) : Int)) = false := decide_eq_false (by omega)
    go_enter Try.func48, Try.ntmps48
    have hl14 : l.length ≤ 14 := by omega
    go_wp2_with fail
    go_loopw [3, 17] (fun u i wr => ∃ k : Nat, k ≤ l.length ∧ i = .int .i64 k ∧ Hid (chkT none l = chkT (prevK l k) (l.drop k)) ∧ Below w.heap.size w wr) (fun _ i _ => l.length - (intOf i).toNat)
    case atStart => exact ⟨0, Nat.zero_le _, rfl, rfl, Below.refl _ _⟩
    case round =>
      obtain ⟨k, hk, rfl, hch, hbl⟩ := hrel
      by_cases hlt : k < l.length
      · obtain ⟨y, hy, hty, _⟩ := getElem?_of_lt hlt
        obtain ⟨b, o, hA, hb, c1, c2, c3⟩ := HC.out k y hy
        have d1 := (hbl.cell (p := ⟨b, o + k * 3, none⟩) hb).trans c1
        have d2 := (hbl.cell (p := ⟨b, o + k * 3 + 1, none⟩) hb).trans c2
        have d3 := (hbl.cell (p := ⟨b, o + k * 3 + 2, none⟩) hb).trans c3
        have HY := Lib.hid hy
        clear c1 c2 c3 hy hty
        have t1 : decide ((k : Int) < ((l.length : Nat) : Int)) = true := decide_eq_true (by omega)
        have g1 : (0 : Int) ≤ (k : Int) := by omega
        have g2 : (k : Int) < (l.length : Int) := by omega
        have HB1 := Lib.hid (hbl.alloc hbl.size (.cells #[.string y.k, .string y.v, .bool y.g] 25))
        have HK := Lib.hid (Blk.new wr 25 #[.string y.k, .string y.v, .bool y.g])
        have HCK := Lib.hid (check_any y (wr.alloc (.cells #[.string y.k, .string y.v, .bool y.g] 25)))
        by_cases hf : faultE y = 0
        · rw [show errV (faultE y) = Value.nilIface from by rw [hf]; rfl] at HCK
          have HF0 := Lib.hid hf
          have HBL := Lib.hid hbl
          clear hf hbl
          subst hA
          go_wp2_with (go_at_call 58; refine HCK.out.mono ?_; rintro e2 w2 ⟨rfl, hb2⟩; have HK2 := Lib.hid (HK.out.below hb2 (by simp)); have HB2 := Lib.hid (HB1.out.trans (hb2.mono HB1.out.size)); have q0 := HK2.out.cell 0; have q1 := HK2.out.cell 1; have q2 := HK2.out.cell 2; simp at q0 q1 q2; clear hb2)
          rcases Nat.eq_zero_or_pos k with rfl | hp
          · have t9 : decide ((0 : Int) < ((0 : Nat) : Int)) = false := by decide
            go_quiet (fail)
            go_wp2_with fail
            go_roundw
            case rel => exact ⟨1, by omega, by go_num, hch.out.trans (chkt_step HY.out HF0.out rfl), below_drewN HB2.out _⟩
            case measure => simp [intOf] <;> omega
          · obtain ⟨j, rfl⟩ : ∃ j, k = j + 1 := ⟨k - 1, by omega⟩
            obtain ⟨pv, hpv⟩ : ∃ pv, l[j]? = some pv := ⟨_, List.getElem?_eq_getElem (by omega)⟩
            obtain ⟨b', o', hA', hb', c1, c2, c3⟩ := HC.out j pv hpv
            have hA' := Option.some.inj hA'
            injection hA' with eb eo
            subst eb; subst eo
            have d4 := (HB2.out.cell (p := ⟨b, o + j * 3, none⟩) hb').trans c1
            have HPV := Lib.hid hpv
            clear c1 c2 c3 hpv
            have t9 : decide ((0 : Int) < ((j + 1 : Nat) : Int)) = true := decide_eq_true (by omega)
            have t8 : (((j + 1 : Nat) : Int)) - 1 = (j : Int) := by omega
            have g3 : (0 : Int) ≤ (j : Int) := by omega
            have g4 : (j : Int) < (l.length : Int) := by omega
            have hpr : Hid ((match prevK l (j + 1) with | none => false | some p => leB y.k p) = (Op.bytesLess y.k.toList pv.k.toList || y.k.toList == pv.k.toList)) := by
              have e : prevK l (j + 1) = some pv.k := by simp [prevK, HPV.out]
              rw [Hid, e]
              rfl
            have HG : Hid ((match prevK l (j + 1) with | none => false | some p => leB y.k p) = true → tabF l = 3) := fun h => by rw [HF.out, hch.out, chkt_three HY.out HF0.out h]
            have HN : Hid ((match prevK l (j + 1) with | none => false | some p => leB y.k p) = false → chkT none l = chkT (prevK l (j + 1 + 1)) (l.drop (j + 1 + 1))) := fun h => by rw [hch.out, chkt_step HY.out HF0.out h]
            clear hch
            go_quiet (fail)
            cases hL : (Op.bytesLess y.k.toList pv.k.toList || y.k.toList == pv.k.toList)
            · have hn := Lib.hid (HN.out (hpr.out.trans hL))
              go_wp2_with fail
              go_roundw
              case rel => exact ⟨j + 1 + 1, by omega, by go_num, hn, below_drewN HB2.out _⟩
              case measure => simp [intOf] <;> omega
            · have hn := Lib.hid (HG.out (hpr.out.trans hL))
              go_wp2_with fail
              go_ret
              exact ⟨by rw [hn.out]; rfl, below_drewN HB2.out _⟩
        · have he : errV (faultE y) = .iface 107 (.int .i64 (faultE y)) := by unfold errV; rw [if_neg hf]
          rw [he] at HCK
          have HE : Hid (tabF l = faultE y) := by rw [Hid, HF.out, hch.out, chkt_fault HY.out hf]
          have HE2 := Lib.hid he
          clear hf hbl he
          subst hA
          go_wp2_with (go_at_call 58; refine HCK.out.mono ?_; rintro e2 w2 ⟨rfl, hb2⟩; have HB2 := Lib.hid (HB1.out.trans (hb2.mono HB1.out.size)); clear hb2)
          go_ret
          exact ⟨by rw [HE.out, HE2.out]; rfl, HB2.out⟩
      · have hkl : k = l.length := by omega
        subst hkl
        have t1 : decide (((l.length : Nat) : Int) < ((l.length : Nat) : Int)) = false := decide_eq_false (by omega)
        have HE : Hid (tabF l = 0) := by rw [Hid, HF.out, hch.out, List.drop_length]; rfl
        go_wp2_with fail
        go_ret
        exact ⟨by rw [HE.out]; rfl, hbl⟩
end Go.Proofs.Ytaepdbkfaoiimab
/- The contracts of table.page and table.All. Conditions: none but those that each names. -/
set_option linter.unusedVariables false
set_option linter.unusedSimpArgs false
namespace Go.Proofs.Ytaepdbkfaoiimab
open Go.RowKit
attribute [local go_sem ↓] eql_err eql_nilerr neq_err neq_nilerr guard_err guard_nilerr guardn_err guardn_nilerr
theorem ents_nil (B : Nat) (w : World) : Ents B w (.slice none 0 0) [] := ⟨Rd.nil _ _ _ _, fun e he => by simp at he⟩
theorem read_size {c : Chip} (h : CWf c) (b q : Int) : (c.read b q).1.size ≤ 9223372036854775807 := by
  unfold Chip.read
  split
  · decide
  · split
    · decide
    · rename_i hb
      split
      · decide
      · rename_i s hs
        split
        · decide
        · rename_i ht
          have := h.size b.toNat (by omega) s (List.mem_of_getElem? hs) (by simpa using ht)
          show s.d.size ≤ _
          omega
/-- What a page of a table has, as it is read: its entries, its error. -/
def pageR (r : ByteArray × Nat) : List Ent × Nat :=
  if r.2 = 5 then ([], 0) else if r.2 ≠ 0 then ([], r.2) else ((parseR r.1).getD [], perr r.1)
set_option maxRecDepth 20000 in
set_option maxHeartbeats 1000000 in
theorem page_any (B p : Nat) (c : Chip) (b q : Int) (w : World) (h : ChipR B w p c) :
    Calls Try.prog 77 #[.pointer (some ⟨p, 0, none⟩), .int .i64 b, .int .i64 q] w fun e w' => ∃ v, e = .returned (.tuple #[v, errV (pageR (c.read b q)).2]) ∧ Ents B w' v (pageR (c.read b q)).1 ∧ Below w.heap.size w w' := by
  have HR := Lib.hid (cread_any B p c b q w h)
  have hsz : (c.read b q).1.size ≤ 9223372036854775807 := read_size h.wf b q
  generalize hr : c.read b q = r at *
  clear hr h
  obtain ⟨s, n⟩ := r
  by_cases h5 : n = 5
  · subst h5
    have HE : Hid (pageR (s, 5) = ([], 0)) := rfl
    rw [show errV ((s, 5) : ByteArray × Nat).2 = Value.iface 107 (.int .i64 5) from rfl] at HR
    have fin : ∀ (tmps : Array Value), tmps[6]? = some (.slice none 0 0) → tmps[7]? = some .nilIface →
        bodyPost Try.prog Try.f77 (fun e w' => ∃ v, e = .returned (.tuple #[v, errV (pageR (s, 5)).2]) ∧ Ents B w' v (pageR (s, 5)).1 ∧ Below w.heap.size w w') .ret { tmps := tmps, defers := [] } w := by
      intro tmps h6 h7
      exact bodyPost_ret (v := .tuple #[.slice none 0 0, .nilIface]) (by simp [results, Try.results77, go_sem, h6, h7]) rfl ⟨_, rfl, ents_nil _ _, Below.refl _ _⟩
    have FIN := Lib.hid fin
    clear fin
    go_enter Try.func77, Try.ntmps77
    go_wp2_with (go_at_call 42; refine HR.out.mono ?_; rintro e2 w2 ⟨rfl, rfl⟩)
    exact FIN.out _ rfl rfl
  · by_cases h0 : n = 0
    · subst h0
      have HE : Hid (pageR (s, 0) = ((parseR s).getD [], perr s)) := rfl
      rw [show errV ((s, 0) : ByteArray × Nat).2 = Value.nilIface from rfl] at HR
      have HP := Lib.hid (parse_any B s w hsz)
      have fin : ∀ (tmps : Array Value) (v : Value) (w2 : World), Ents B w2 v ((parseR s).getD []) → Below w.heap.size w w2 → tmps[6]? = some v → tmps[7]? = some (errV (perr s)) →
          bodyPost Try.prog Try.f77 (fun e w' => ∃ v, e = .returned (.tuple #[v, errV (pageR (s, 0)).2]) ∧ Ents B w' v (pageR (s, 0)).1 ∧ Below w.heap.size w w') .ret { tmps := tmps, defers := [] } w2 := by
        intro tmps v w2 hv hb h6 h7
        rw [HE.out]
        exact bodyPost_ret (v := .tuple #[v, errV (perr s)]) (by simp [results, Try.results77, go_sem, h6, h7]) rfl ⟨_, rfl, hv, hb⟩
      have FIN := Lib.hid fin
      clear fin
      go_enter Try.func77, Try.ntmps77
      go_wp2_with (first
        | (go_at_call 42; refine HR.out.mono ?_; rintro e2 w2 ⟨rfl, rfl⟩)
        | (go_at_call 25; refine HP.out.mono ?_; rintro e2 w2 ⟨v2, rfl, hv2, hb2⟩; have HV2 := Lib.hid hv2; have HB2 := Lib.hid hb2; clear hv2 hb2))
      exact FIN.out _ _ _ HV2.out HB2.out rfl rfl
    · have e : errV ((s, n) : ByteArray × Nat).2 = .iface 107 (.int .i64 n) := by unfold errV; rw [if_neg h0]
      have HE : Hid (pageR (s, n) = ([], n)) := by rw [Hid, pageR, if_neg h5, if_pos h0]
      rw [e] at HR
      have g5 : (((n : Nat) : Int) == 5) = false := beq_eq_false_iff_ne.2 (by omega)
      have fin : ∀ (tmps : Array Value), tmps[6]? = some (.slice none 0 0) → tmps[7]? = some (.iface 107 (.int .i64 n)) →
          bodyPost Try.prog Try.f77 (fun e w' => ∃ v, e = .returned (.tuple #[v, errV (pageR (s, n)).2]) ∧ Ents B w' v (pageR (s, n)).1 ∧ Below w.heap.size w w') .ret { tmps := tmps, defers := [] } w := by
        intro tmps h6 h7
        rw [HE.out]
        exact bodyPost_ret (v := .tuple #[.slice none 0 0, .iface 107 (.int .i64 n)]) (by simp [results, Try.results77, go_sem, h6, h7]) rfl ⟨_, by rw [← e], ents_nil _ _, Below.refl _ _⟩
      have FIN := Lib.hid fin
      clear fin e h0 h5
      go_enter Try.func77, Try.ntmps77
      go_wp2_with (go_at_call 42; refine HR.out.mono ?_; rintro e2 w2 ⟨rfl, rfl⟩)
      exact FIN.out _ rfl rfl
theorem chkT_all {p : Option ByteArray} {l : List Ent} (h : chkT p l = 0) : ∀ e ∈ l, faultE e = 0 := by
  induction l generalizing p with
  | nil => intro e he; simp at he
  | cons a l ih =>
    have h : (if faultE a ≠ 0 then faultE a else if (match p with | none => false | some k => leB a.k k) then 3 else chkT (some a.k) l) = 0 := h
    generalize hm : (match p with | none => false | some k => leB a.k k) = mm at h
    by_cases h1 : faultE a ≠ 0
    · rw [if_pos h1] at h; exact absurd h h1
    · rw [if_neg h1] at h
      cases mm
      · rw [if_neg (by simp)] at h
        intro e he
        rcases List.mem_cons.1 he with rfl | he
        · exact Classical.byContradiction h1
        · exact ih h e he
      · rw [if_pos rfl] at h; cases h
theorem chkT_rises {p : Option ByteArray} {l : List Ent} (h : chkT p l = 0) : Rises l ∧ ∀ k, p = some k → ∀ e ∈ l, ltB k e.k = true := by
  induction l generalizing p with
  | nil => exact ⟨List.Pairwise.nil, fun k _ e he => by simp at he⟩
  | cons a l ih =>
    have h : (if faultE a ≠ 0 then faultE a else if (match p with | none => false | some k => leB a.k k) then 3 else chkT (some a.k) l) = 0 := h
    generalize hm : (match p with | none => false | some k => leB a.k k) = mm at h
    by_cases h1 : faultE a ≠ 0
    · rw [if_pos h1] at h; exact absurd h h1
    · rw [if_neg h1] at h
      cases mm
      · rw [if_neg (by simp)] at h
        obtain ⟨i1, i2⟩ := ih h
        refine ⟨rises_cons.2 ⟨fun y hy => i2 _ rfl y hy, i1⟩, fun k hk e he => ?_⟩
        subst hk
        have hka : ltB k a.k = true := by
          have hm : leB a.k k = false := hm
          rw [leB_eq] at hm
          simpa using hm
        rcases List.mem_cons.1 he with rfl | he
        · exact hka
        · exact ltB_trans hka (i2 _ rfl e he)
      · rw [if_pos rfl] at h; cases h
theorem tabF_parts {l : List Ent} (h : tabF l = 0) : 0 < l.length ∧ l.length ≤ 14 ∧ chkT none l = 0 := by
  unfold tabF at h
  split at h
  · cases h
  · exact ⟨by omega, by omega, h⟩
theorem chunks2_flatten : (l : List Ent) → (chunks2 l).flatten = l
  | [] => rfl
  | [a] => rfl
  | a :: b :: l => by rw [chunks2, List.flatten_cons, chunks2_flatten l]; rfl
theorem chunks2_len : (l : List Ent) → (chunks2 l).length = (l.length + 1) / 2
  | [] => by simp [chunks2]
  | [a] => by simp [chunks2]
  | a :: b :: l => by rw [chunks2, List.length_cons, chunks2_len l]; simp only [List.length_cons]; omega
theorem chunks2_mem : {l : List Ent} → {p : List Ent} → p ∈ chunks2 l → p.length ≤ 2 ∧ ∀ e ∈ p, e ∈ l
  | [], p, h => by cases h
  | [a], p, h => by
    have := List.mem_singleton.1 h
    subst this
    exact ⟨by simp, fun e he => he⟩
  | a :: b :: l, p, h => by
    rw [chunks2] at h
    rcases List.mem_cons.1 h with rfl | h
    · exact ⟨by simp, fun e he => by simp at he; rcases he with rfl | rfl <;> simp⟩
    · have := chunks2_mem h
      exact ⟨this.1, fun e he => List.mem_cons_of_mem _ (List.mem_cons_of_mem _ (this.2 e he))⟩
/-- What stands in a block of a chip is what a table of these entries is written with. -/
structure TabAt (c : Chip) (b : Nat) (l : List Ent) : Prop where
  pages : (c.b b).l = tabPages l
  ok : tabF l = 0
theorem tab_read0 {c : Chip} {b : Nat} {l : List Ent} (hb : b < 24) (hd : c.down = false) (h : TabAt c b l) : c.read b 0 = (pad (bitsB (fOf (l.map Ent.k))), 0) := by
  unfold Chip.read
  rw [hd, if_neg (by simp), if_neg (by omega), Int.toNat_natCast, h.pages]
  rfl
theorem pad_data {d : ByteArray} : (pad d).data.toList = d.data.toList ++ List.replicate (64 - d.size) 0 := rfl
theorem tab_pageR {c : Chip} {b k : Nat} {l : List Ent} (hb : b < 24) (hk : k < 7) (hd : c.down = false) (h : TabAt c b l) : pageR (c.read b ((1 : Int) + (k : Int))) = (((chunks2 l)[k]?).getD [], 0) := by
  have e : c.read b ((1 : Int) + (k : Int)) = match (chunks2 l)[k]? with | none => (ByteArray.empty, 5) | some p => (pad (bytesL p.length p), 0) := by
    unfold Chip.read
    rw [hd, if_neg (by simp), if_neg (by omega), Int.toNat_natCast, h.pages, show ((1 : Int) + (k : Int)).toNat = k + 1 from by omega]
    simp only [tabPages, rawPages, List.map_cons, List.getElem?_cons_succ, List.map_map, List.getElem?_map]
    cases (chunks2 l)[k]? <;> rfl
  rw [e]
  cases hp : (chunks2 l)[k]? with
  | none => rfl
  | some q =>
    have hm := chunks2_mem (List.mem_of_getElem? hp)
    have hall := chkT_all (tabF_parts h.ok).2.2
    have := parse_bytes q (fun x hx => hall x (hm.2 x hx)) (by omega) (s := pad (bytesL q.length q)) (k := 64 - (bytesL q.length q).size) pad_data
    have he : perr (pad (bytesL q.length q)) = 0 := by unfold perr; rw [this]; rfl
    show pageR (pad (bytesL q.length q), 0) = (q, 0)
    rw [pageR, if_neg (by simp), if_neg (by simp), this, he]
    rfl
theorem taball_down (B p b : Nat) (c : Chip) (w : World) (h : ChipR B w p c) (hd : c.down = true) :
    Calls Try.prog 49 #[.pointer (some ⟨p, 0, none⟩), .int .i64 b] w fun e w' => e = .returned (.tuple #[.slice none 0 0, errV 9]) ∧ w = w' := by
  have HR := Lib.hid (cread_any B p c b 0 w h)
  have e : c.read b 0 = (ByteArray.empty, 9) := by unfold Chip.read; rw [hd, if_pos rfl]
  rw [e, show errV ((ByteArray.empty, 9) : ByteArray × Nat).2 = Value.iface 107 (.int .i64 9) from rfl] at HR
  clear e h hd
  have fin : ∀ (tmps : Array Value), tmps[4]? = some (.slice none 0 0) → tmps[5]? = some (.iface 107 (.int .i64 9)) →
      bodyPost Try.prog Try.f49 (fun e w' => e = .returned (.tuple #[.slice none 0 0, errV 9]) ∧ w = w') .ret { tmps := tmps, defers := [] } w := by
    intro tmps h4 h5
    exact bodyPost_ret (v := .tuple #[.slice none 0 0, .iface 107 (.int .i64 9)]) (by simp [results, Try.results49, go_sem, h4, h5]) rfl ⟨rfl, rfl⟩
  have FIN := Lib.hid fin
  clear fin
  go_enter Try.func49, Try.ntmps49
  go_wp2_with (go_at_call 42; refine HR.out.mono ?_; rintro e2 w2 ⟨rfl, rfl⟩)
  exact FIN.out _ rfl rfl
theorem ents_one (l : List Ent) : ∀ u ∈ l.flatMap Ent.cells, u.oneCell' = true := by
  intro u hu
  obtain ⟨e, _, he⟩ := List.mem_flatMap.1 hu
  exact ent_one e u he
theorem take_flat {ps : List (List Ent)} {k : Nat} : (ps.take (k + 1)).flatten = (ps.take k).flatten ++ (ps[k]?).getD [] := by
  rcases Nat.lt_or_ge k ps.length with h | h
  · rw [List.take_succ_eq_append_getElem h, List.flatten_append, List.getElem?_eq_getElem h]; simp
  · rw [List.take_of_length_le (by omega), List.take_of_length_le h, List.getElem?_eq_none h]; simp
theorem flat_le {ps : List (List Ent)} {k : Nat} : (ps.take k).flatten.length ≤ ps.flatten.length := by
  conv => rhs; rw [← List.take_append_drop k ps, List.flatten_append, List.length_append]
  omega
set_option maxRecDepth 20000 in
set_option maxHeartbeats 4000000 in
theorem taball_any (B p b : Nat) (c : Chip) (l : List Ent) (w : World) (h : ChipR B w p c) (hb : b < 24) (hd : c.down = false) (ht : TabAt c b l) :
    Calls Try.prog 49 #[.pointer (some ⟨p, 0, none⟩), .int .i64 b] w fun e w' => ∃ v, e = .returned (.tuple #[v, .nilIface]) ∧ Ents B w' v l ∧ Below w.heap.size w w' := by
  have hbb : B ≤ w.heap.size := by obtain ⟨V, u, hv, _⟩ := h; have := hv.base; have := hv.blk.lt; omega
  have HR := Lib.hid (cread_any B p c b 0 w h)
  rw [tab_read0 hb hd ht, show errV ((pad (bitsB (fOf (l.map Ent.k))), 0) : ByteArray × Nat).2 = Value.nilIface from rfl] at HR
  have HU := Lib.hid (fun w => unbits_any (fOf (l.map Ent.k)) (fOf_lt _) w)
  generalize pad (bitsB (fOf (l.map Ent.k))) = s0 at *
  generalize fOf (l.map Ent.k) = f0 at *
  have hpart := tabF_parts ht.ok
  have hfl := chunks2_flatten l
  have hcl := chunks2_len l
  have HPG : Hid (∀ k : Nat, k < 7 → ∀ w', Below w.heap.size w w' → Calls Try.prog 77 #[.pointer (some ⟨p, 0, none⟩), .int .i64 b, .int .i64 ((1 : Int) + (k : Int))] w' fun e w2 => ∃ v, e = .returned (.tuple #[v, .nilIface]) ∧ Ents w.heap.size w2 v (((chunks2 l)[k]?).getD []) ∧ Below w'.heap.size w' w2) := by
    intro k hk w' hb'
    refine (page_any B p c b ((1 : Int) + (k : Int)) w' (h.below hb')).mono ?_
    rintro e w2 ⟨v, rfl, hv, hb2⟩
    rw [tab_pageR hb hk hd ht] at hv ⊢
    exact ⟨v, rfl, ⟨hv.1.mono hbb, hv.2⟩, hb2⟩
  have HCK := Lib.hid (fun w' v (hv : Ents B w' v l) => tcheck_any B v l w' hv)
  rw [ht.ok, show errV 0 = Value.nilIface from rfl] at HCK
  have HFL := Lib.hid hfl
  generalize chunks2 l = ps at *
  clear ht hd h
  have fin : ∀ (tmps : Array Value) (v : Value) (w2 : World), Ents B w2 v l → Below w.heap.size w w2 → tmps[4]? = some v → tmps[5]? = some .nilIface →
      bodyPost Try.prog Try.f49 (fun e w' => ∃ v, e = .returned (.tuple #[v, .nilIface]) ∧ Ents B w' v l ∧ Below w.heap.size w w') .ret { tmps := tmps, defers := [] } w2 := by
    intro tmps v w2 hv hb h4 h5
    exact bodyPost_ret (v := .tuple #[v, .nilIface]) (by simp [results, Try.results49, go_sem, h4, h5]) rfl ⟨_, rfl, hv, hb⟩
  have FIN := Lib.hid fin
  clear fin hfl
  go_enter Try.func49, Try.ntmps49
  go_wp2_with (first
    | (go_at_call 42; refine HR.out.mono ?_; rintro e2 w2 ⟨rfl, rfl⟩)
    | (go_at_call 75; refine (HU.out _).mono ?_; rintro e2 w2 ⟨rfl, n2, rfl⟩))
  go_loopw [10, 11] (fun u i wr => ∃ k : Nat, k ≤ 7 ∧ i = .int .i64 ((1 : Int) + (k : Int)) ∧ Hid (wr.ownsRow w.heap.size 25 3 u ((ps.take k).flatten).length ((ps.take k).flatten.flatMap Ent.cells)) ∧ Hid (∀ e ∈ (ps.take k).flatten, EntOk e) ∧ Below w.heap.size w wr) (fun _ i _ => 8 - (intOf i).toNat)
  case atStart => exact ⟨0, by omega, rfl, World.ownsRow_nil _ _ _ _, fun e he => by simp at he, below_drewN (Below.refl _ _) _⟩
  case round =>
    obtain ⟨k, hk, rfl, hown, hok, hbl⟩ := hrel
    have hfk := flat_le (ps := ps) (k := k)
    rw [HFL.out] at hfk
    by_cases hlt : k < 7
    · have t1 : decide ((1 : Int) + (k : Int) < 8) = true := decide_eq_true (by omega)
      obtain ⟨i0, hi, hz0, hz1, hz2⟩ := info_parts info_entry
      have HB := Lib.hid hbl
      have HP1 := Lib.hid (HPG.out k hlt wr hbl)
      have HT := Lib.hid (take_flat (ps := ps) (k := k))
      generalize (ps[k]?).getD [] = q at *
      have hq := flat_le (ps := ps) (k := k + 1)
      rw [HFL.out, HT.out, List.length_append] at hq
      clear hbl
      go_wp2_with (first
        | (go_at_call 77; refine HP1.out.mono ?_; rintro e2 w2 ⟨v2, rfl, hv2, hb2⟩; have HV2 := Lib.hid hv2; have HB2 := Lib.hid (HB.out.trans (hb2.mono HB.out.size)); have HO2 := Lib.hid (own_below hown.out hb2); clear hv2 hb2; have hs2 := HB2.out.size)
        | (at_builtin; go_loud (refine wpList_append_rd _ rfl (.tmp 45) (.tmp 46) 22 rfl w.heap.size 25 i0 _ 3 40 Try.underlying22 hi hz0 hz1 hz2 rfl (by decide) u10 _ _ rfl HO2.out w.heap.size 25 v2 _ _ rfl HV2.out.1 (ents_one _) (by unfold maxLen; omega) (by omega) (by omega) ?_); intro v4 w4 hown4 hg4 hat4))
      have HO4 : Hid (w4.ownsRow w.heap.size 25 3 v4 ((ps.take (k + 1)).flatten).length ((ps.take (k + 1)).flatten.flatMap Ent.cells)) := by
        rw [Hid, HT.out, List.length_append, List.flatMap_append]
        exact hown4
      have HE4 : Hid (∀ e ∈ (ps.take (k + 1)).flatten, EntOk e) := by
        intro e he
        rw [HT.out] at he
        rcases List.mem_append.1 he with he | he
        · exact hok.out e he
        · exact HV2.out.2 e he
      have HB4 := Lib.hid (below_own HB2.out (Nat.le_refl _) HO2.out hg4)
      clear hi hz0 hz1 hz2 hg4 hat4 hown4
      go_roundw
      case rel => exact ⟨k + 1, by omega, by go_num, HO4, HE4, HB4.out⟩
      case measure => simp [intOf] <;> omega
    · have hk7 : k = 7 := by omega
      subst hk7
      have t1 : decide ((1 : Int) + ((7 : Nat) : Int) < 8) = false := by decide
      have hall : Hid ((ps.take 7).flatten = l) := by rw [Hid, List.take_of_length_le (by omega), HFL.out]
      have HV : Hid (Ents B wr u10 l) := by
        refine ⟨?_, fun e he => hok.out e (by rw [hall.out]; exact he)⟩
        have := Rd.of_own (B := B) hown.out
        rw [hall.out] at this
        exact this
      have HCK2 := Lib.hid (HCK.out wr u10 HV.out)
      go_wp2_with (go_at_call 48; refine HCK2.out.mono ?_; rintro e2 w2 ⟨rfl, hb2⟩; have HB2 := Lib.hid (hbl.trans (hb2.mono hbl.size)); have HV2 := Lib.hid (HV.out.below hb2); clear hb2)
      exact FIN.out _ _ _ HV2.out HB2.out rfl rfl
end Go.Proofs.Ytaepdbkfaoiimab
/- slices.Chunk of entries: its closure's contract, for every body of a loop. Conditions: the step is above nought. -/
set_option linter.unusedVariables false
set_option linter.unusedSimpArgs false
namespace Go.Proofs.Ytaepdbkfaoiimab
open Go.RowKit Go.Shelf
attribute [local go_sem] Oper.semAt_some

/-- A chunk's number. -/
abbrev Ck (nn len : Nat) := { k : Nat // nn * k < len }
def ckUpto (nn len k : Nat) : List (Ck nn len) := (List.range k).filterMap fun j => if h : nn * j < len then some ⟨j, h⟩ else none
theorem ckUpto_succ {nn len k : Nat} (h : nn * k < len) : ckUpto nn len (k + 1) = ckUpto nn len k ++ [⟨k, h⟩] := by
  simp [ckUpto, List.range_succ, h]
theorem ckUpto_le (nn len k : Nat) : (ckUpto nn len k).length ≤ k := by
  have := List.length_filterMap_le (fun j => if h : nn * j < len then some (⟨j, h⟩ : Ck nn len) else none) (List.range k)
  simpa [ckUpto] using this
def ckVal (nn len g o : Nat) (k : Ck nn len) : Array Value := #[.slice (some ⟨g, o + nn * k.1 * 3, none⟩) (min nn (len - nn * k.1)) (min nn (len - nn * k.1))]
def KpC (Bs Bn : Nat) (W W' : World) : Prop := W'.heap[Bs]? = W.heap[Bs]? ∧ W'.heap[Bn]? = W.heap[Bn]?
theorem blk_of_heap {w w' : World} {b T : Nat} {cs : Array Value} (h : Blk w b T cs) (e : w'.heap[b]? = w.heap[b]?) : Blk w' b T cs := e.trans h

set_option maxRecDepth 100000 in
set_option maxHeartbeats 2000000 in
theorem chunk1_in (n : Nat) (hn : 1 ≤ n) (l Bs Bn g o len cap nn : Nat) (A : Option Addr) (hA : 0 < len → A = some ⟨g, o, none⟩) (hn0 : 0 < nn) (hn1 : nn ≤ 1000000) (hl1 : len ≤ 1000000) (hcap : len ≤ cap) (hcap2 : cap ≤ 9223372036854775807) (J Jx : List (Ck nn len) → World → Prop)
    (hY : ∀ pre x W, J pre W → pre.length < len → YieldAt Fence.wide (n - 1) Try.prog l (ckVal nn len g o x) W fun e W' =>
      (e = .returned (.bool true) ∧ J (pre ++ [x]) W' ∧ KpC Bs Bn W W') ∨ (e = .returned (.bool false) ∧ Jx (pre ++ [x]) W'))
    (hJd : ∀ pre W k, J pre W → J pre (W.drewN k))
    (W : World) (hBs : Blk W Bs 22 #[.slice A len cap]) (hBn : Blk W Bn 3 #[.int .i64 nn]) (h0 : J [] W) :
    CallsIn Fence.wide n Try.prog 100 #[.func (.yield l) #[] #[], .pointer (some ⟨Bs, 0, none⟩), .pointer (some ⟨Bn, 0, none⟩)] W fun e W' => (∃ v, e = .returned v) ∧
      ((∃ ys, (∃ k, len ≤ nn * k ∧ ys = ckUpto nn len k) ∧ J ys W') ∨ (∃ pre, (∃ k, pre = ckUpto nn len k) ∧ Jx pre W')) := by
  refine callsIn_of_wp Try.func100 rfl trivial ?_ rfl
  simp only [Try.ntmps100, List.size_toArray, List.length_cons, List.length_nil, Nat.reduceAdd, Nat.reduceSub, Array.replicate_succ, Array.replicate_zero, List.push_toArray, List.append_toArray, List.nil_append, List.cons_append]
  gi_wp2
  gi_loopw [4] (fun i wr => ∃ k m : Nat, nn * k = m ∧ i = .int .i64 (m : Int) ∧ (0 < k → nn * (k - 1) < len) ∧ J (ckUpto nn len k) wr ∧ Blk wr Bs 22 #[.slice A len cap] ∧ Blk wr Bn 3 #[.int .i64 nn])
    (fun i _ => len + nn - (intOf i).toNat)
  case atStart => exact ⟨0, 0, by simp, rfl, by omega, h0, hBs, hBn⟩
  case round =>
    obtain ⟨k, m, hkm, rfl, hk, hJs, hbs, hbn⟩ := hrel
    have q0 := hbs.cell 0
    have q1 := hbn.cell 0
    simp at q0 q1
    by_cases hlt : m < len
    · obtain rfl := hA (by omega)
      have t1 : decide ((m : Int) < ((len : Nat) : Int)) = true := decide_eq_true (by omega)
      have s0 : (0 : Int) ≤ (m : Int) := by omega
      have s1 : (m : Int) ≤ (len : Int) := by omega
      have s2 : (len : Int) ≤ (cap : Int) := by omega
      gi_wp2
      refine wpIn_wide.2 ?_
      go_quiet (fail)
      have hJ2 := hJd _ _ nq hJs
      obtain ⟨e, hee⟩ : ∃ e : Nat, min nn (len - m) = e := ⟨_, rfl⟩
      have he1 : 1 ≤ e := by omega
      have he2 : e ≤ len - m := by omega
      rw [show min (nn : Int) ((len - m : Nat) : Int) = (e : Int) from by omega]
      have r1 : (m : Int) ≤ (m : Int) + (e : Int) := by omega
      have r2 : (m : Int) + (e : Int) ≤ (cap : Int) := by omega
      have r0 : (0 : Int) ≤ (m : Int) + (e : Int) := by omega
      have r3 : ((m : Int) + (e : Int)).toNat = m + e := by omega
      have r4 : m + e - m = e := by omega
      have q0' : (wr.drewN nq).cell? ⟨Bs, 0, none⟩ = some (.slice (some ⟨g, o, none⟩) len cap) := q0
      have q1' : (wr.drewN nq).cell? ⟨Bn, 0, none⟩ = some (.int .i64 nn) := q1
      have hmk : nn * k < len := by omega
      have hln : (ckUpto nn len k).length < len := by
        have h1 := ckUpto_le nn len k
        have h2 : k ≤ nn * k := Nat.le_mul_of_pos_left k hn0
        omega
      obtain ⟨fn, tmps, assign, body, hy, hR⟩ := hY _ ⟨k, hmk⟩ _ hJ2 hln
      have hval : ckVal nn len g o ⟨k, hmk⟩ = #[.slice (some ⟨g, o + m * 3, none⟩) e e] := by
        unfold ckVal
        simp only [hkm, hee]
      rw [hval] at hy
      gi_wp2
      refine hR.mono ?_
      rintro e2 W3 (⟨rfl, hJ3, hk3⟩ | ⟨rfl, hJx3⟩)
      · have hbs3 := blk_of_heap (w := wr.drewN nq) (w' := W3) hbs hk3.1
        have hbn3 := blk_of_heap (w := wr.drewN nq) (w' := W3) hbn hk3.2
        have q2 := hbn3.cell 0
        simp at q2
        gi_wp2
        go_roundw
        case rel => exact ⟨k + 1, m + nn, by rw [Nat.mul_add, hkm, Nat.mul_one], by go_num, fun _ => hmk, by rw [ckUpto_succ hmk]; exact hJ3, hbs3, hbn3⟩
        case measure => simp [intOf] <;> omega
      · gi_wp2
        refine bodyPost_ret (results_none rfl _ _ _) rfl ?_
        exact ⟨⟨_, rfl⟩, .inr ⟨_, ⟨k + 1, rfl⟩, by rw [ckUpto_succ hmk]; exact hJx3⟩⟩
    · have t1 : decide ((m : Int) < ((len : Nat) : Int)) = false := decide_eq_false (by omega)
      gi_wp2
      go_end0
      exact ⟨⟨_, rfl⟩, .inl ⟨_, ⟨k, by omega, rfl⟩, hJs⟩⟩
theorem chunk_stops (n : Nat) (hn : 1 ≤ n) (Bs Bn g o len cap nn : Nat) (A : Option Addr) (hA : 0 < len → A = some ⟨g, o, none⟩) (hn0 : 0 < nn) (hn1 : nn ≤ 1000000) (hl1 : len ≤ 1000000) (hcap : len ≤ cap) (hcap2 : cap ≤ 9223372036854775807)
    (w : World) (hBs : Blk w Bs 22 #[.slice A len cap]) (hBn : Blk w Bn 3 #[.int .i64 nn]) :
    SeqStopsK Fence.wide n Try.prog 100 #[.pointer (some ⟨Bs, 0, none⟩), .pointer (some ⟨Bn, 0, none⟩)] (ckVal nn len g o) (KpC Bs Bn)
      (fun ys => ∃ k, len ≤ nn * k ∧ ys = ckUpto nn len k) (fun pre => ∃ k, pre = ckUpto nn len k) len w := fun l J Jx W hW hJ hJx hY h0 =>
  chunk1_in n hn l Bs Bn g o len cap nn A hA hn0 hn1 hl1 hcap hcap2 J Jx hY (fun pre W k h => hJ pre W (W.drewN k) none h ⟨rfl, rfl, rfl, Nat.le_refl _, fun _ _ _ => rfl⟩ (fun r e => by cases e)) W (hBs.below hW hBs.lt) (hBn.below hW hBn.lt) h0
theorem chunk_any (A : Option Addr) (len cap : Nat) (nn : Nat) (hn0 : 0 < nn) (w : World) :
    Calls Try.prog 74 #[.slice A len cap, .int .i64 nn] w fun e w' => e = .returned (.func (.func 100) #[] #[.pointer (some ⟨w.heap.size, 0, none⟩), .pointer (some ⟨w.heap.size + 1, 0, none⟩)]) ∧
      w' = (w.alloc (.cells #[.slice A len cap] 22)).alloc (.cells #[.int .i64 nn] 3) := by
  have t1 : decide ((nn : Int) < 1) = false := decide_eq_false (by omega)
  go_enter Try.func74, Try.ntmps74
  go_wp2_with fail
  go_ret
  exact ⟨rfl, rfl⟩
/-- What a chunk has. -/
def ckList (nn : Nat) (l : List Ent) (k : Nat) : List Ent := (l.drop (nn * k)).take nn
end Go.Proofs.Ytaepdbkfaoiimab
/- The contract of table.Write. Conditions: the entries are those of a table. -/
set_option linter.unusedVariables false
set_option linter.unusedSimpArgs false
namespace Go.Proofs.Ytaepdbkfaoiimab
open Go.RowKit Go.Shelf
attribute [local go_sem] Oper.semAt_some
attribute [local go_sem ↓] eql_err eql_nilerr neq_err neq_nilerr guard_err guard_nilerr guardn_err guardn_nilerr

/-- One page more is written, unless there was an error. -/
def pStepW (b : Int) (st : Chip × Nat) (d : ByteArray) : Chip × Nat := if st.2 = 0 then st.1.write b d else st
def tabWrite (c : Chip) (b : Int) (l : List Ent) : Chip × Nat := (rawPages l).foldl (pStepW b) (c.erase b)
theorem fr_grown {B : Nat} {w w' : World} {row : Option Nat} (h : w.grownBy w' row) (hr : ∀ r, row = some r → B ≤ r ∧ ∃ o : Obj, w.heap[r]? = some o ∧ o.isCells = false) : Fr B (fun k => row = some k) w w' := by
  refine ⟨h.os, h.tape, h.output, h.size, fun k hk hc => h.block k hk fun e => ?_⟩
  obtain ⟨h1, o, h2, h3⟩ := hr k e.symm
  rcases hc with hc | hc | ⟨cs, T, fz, hh, _⟩
  · omega
  · exact hc e.symm
  · rw [hh] at h2
    cases h2
    cases h3
theorem keeps_fr {B p : Nat} {w w' : World} (h : Fr B (· = p) w w') (hp : ∃ cs T fz, w.heap[p]? = some (.cells cs T fz)) : KeepsOthers w w' :=
  ⟨h.size, fun k o hk ho => (h.block k (heap_lt hk) (.inr (.inl fun e => by
    obtain ⟨cs, T, fz, hp⟩ := hp
    rw [e, hp] at hk
    cases hk
    cases ho))).trans hk⟩
theorem blk_grown {B g T : Nat} {cs : Array Value} {w w' : World} {row : Option Nat} (hb : Blk w g T cs) (h : w.grownBy w' row) (hr : ∀ r, row = some r → B ≤ r ∧ ∃ o : Obj, w.heap[r]? = some o ∧ o.isCells = false) : Blk w' g T cs :=
  (h.block g hb.lt fun e => by
    obtain ⟨h1, o, h2, h3⟩ := hr g e.symm
    rw [show w.heap[g]? = some (.cells cs T (0, 0)) from hb] at h2
    cases h2
    cases h3).trans hb
theorem ents_chunk {B : Nat} {w : World} {g o cap nn k : Nat} {l : List Ent} (h : Ents B w (.slice (some ⟨g, o, none⟩) l.length cap) l) :
    Ents B w (.slice (some ⟨g, o + nn * k * 3, none⟩) (min nn (l.length - nn * k)) (min nn (l.length - nn * k))) (ckList nn l k) := by
  have hlen : (ckList nn l k).length = min nn (l.length - nn * k) := by simp [ckList]
  refine ⟨⟨?_, _, _, by rw [hlen], Nat.le_refl _, ?_, fun hp => ?_⟩, fun e he => h.2 e (List.mem_of_mem_drop (List.mem_of_mem_take he))⟩
  · rw [flat3_len]
  · have := h.1.len
    omega
  · obtain ⟨b', o', e, hk, hb, hc⟩ := rd_at' h.1 (by omega)
    injection e with e
    injection e with eb eo
    subst eb; subst eo
    refine ⟨_, _, rfl, hk, hb, fun j u hu => ?_⟩
    have hfm : ∀ (m : Nat) (l : List Ent), (l.drop m).flatMap Ent.cells = (l.flatMap Ent.cells).drop (m * 3) := by
      intro m
      induction m with
      | zero => intro l; simp
      | succ m ih =>
        intro l
        cases l with
        | nil => simp
        | cons a l => rw [List.drop_succ_cons, ih, List.flatMap_cons, Nat.succ_mul, Nat.add_comm (m * 3) 3, ← List.drop_drop]; rfl
    have hft : ∀ (m : Nat) (l : List Ent), (l.take m).flatMap Ent.cells = (l.flatMap Ent.cells).take (m * 3) := by
      intro m
      induction m with
      | zero => intro l; simp
      | succ m ih =>
        intro l
        cases l with
        | nil => simp
        | cons a l =>
          rw [List.take_succ_cons, List.flatMap_cons, ih, List.flatMap_cons, Nat.succ_mul, Nat.add_comm (m * 3) 3, List.take_append, show (Ent.cells a).length = 3 from rfl, List.take_of_length_le (l := Ent.cells a) (show 3 ≤ 3 + m * 3 by omega), show 3 + m * 3 - 3 = m * 3 from by omega]
    rw [ckList, hft, hfm, List.getElem?_take] at hu
    split at hu
    · rw [List.getElem?_drop] at hu
      rw [Nat.add_assoc]
      exact hc _ u hu
    · cases hu
theorem bytes_chunk {l q : List Ent} (hl : tabF l = 0) (hq : ∀ e ∈ q, e ∈ l) (h2 : q.length ≤ 2) : bytesS q = bytesL q.length q ∧ bytesF q = 0 := by
  have hall := chkT_all (tabF_parts hl).2.2
  have hq0 : ∀ e ∈ q, faultE e = 0 := fun e he => hall e (hq e he)
  have hff := ff_zero.2 hq0
  have hsz := bytesL_size q.length q hq0
  have hF : bytesF q = 0 := by rw [bytesF, if_pos hff, if_neg (by omega)]
  exact ⟨by rw [bytesS, hF]; rfl, hF⟩

/-- A store into a variable of an error leaves a chip as it is. -/
theorem chipR_far {B p x : Nat} {c : Chip} {W : World} {cs : Array Value} (h : ChipR B W p c) (hx : Blk W x 44 cs) (hB : B ≤ x) (y : Value) : ChipR B (W.setCell ⟨x, 0, none⟩ y) p c := by
  have far : ∀ {k T : Nat} {cs : Array Value}, Blk W k T cs → T ≠ 44 → Blk (W.setCell ⟨x, 0, none⟩ y) k T cs := fun {k T cs} hb hT => hb.far (fun e => by
    have e : k = x := e
    subst e
    have := hx
    rw [Blk, show W.heap[k]? = some (.cells _ T (0, 0)) from hb] at this
    cases this
    exact hT rfl) _
  obtain ⟨V, u, hv, hu, hw⟩ := h
  refine ⟨V, u, ⟨far hv.blk (by decide), fun b hb => (hv.rows b hb).far hx hB (by decide) _, hv.base⟩, ?_, hw⟩
  generalize c.pend = o at hu ⊢
  match o, hu with
  | none, hu => exact hu
  | some (.wr b d), ⟨qh, qd, bx, bn, bd, h1, h2, h3, h4, h5, h6⟩ => exact ⟨qh, qd, bx, bn, bd, h1, far h2 (by decide), far h3 (by decide), far h4 (by decide), far h5 (by decide), far h6 (by decide)⟩
  | some (.er b), ⟨qh, qd, bx, h1, h2, h3, h4⟩ => exact ⟨qh, qd, bx, h1, far h2 (by decide), far h3 (by decide), far h4 (by decide)⟩
/-- Within table.Write: what lies where. -/
structure TwS (B p : Nat) (b : Int) (v : Value) (l : List Ent) (w : World) (x7 : Nat) (n : Nat) (c : Chip) (W : World) : Prop where
  b3 : Blk W w.heap.size 62 #[.pointer (some ⟨p, 0, none⟩)]
  b4 : Blk W (w.heap.size + 1) 3 #[.int .i64 b]
  b6 : Blk W (w.heap.size + 1 + 1) 44 #[.nilIface]
  b7 : Blk W x7 44 #[errV n]
  lt : w.heap.size + 1 + 1 < x7
  rep : ChipR B W p c
  ents : Ents B W v l
  fr : Fr B (· = p) w W
  hp : p < w.heap.size
  hB : B ≤ w.heap.size
section
variable {B p : Nat} {b : Int} {v : Value} {l : List Ent} {w : World} {x7 : Nat} {n : Nat} {c : Chip} {W W' : World}
theorem TwS.keep (h : TwS B p b v l w x7 n c W) {M : Nat → Prop} (hf : Fr B M W W') (hM : ∀ k, M k → w.heap.size ≤ k ∧ (W.heap.size ≤ k ∨ ∃ o : Obj, W.heap[k]? = some o ∧ o.isCells = false)) : TwS B p b v l w x7 n c W' := by
  have hnc : ∀ {k T : Nat} {cs : Array Value}, Blk W k T cs → ¬ M k := fun {k T cs} hb hm => by
    rcases (hM k hm).2 with h1 | ⟨o, h1, h2⟩
    · have := hb.lt; omega
    · rw [show W.heap[k]? = some (.cells cs T (0, 0)) from hb] at h1
      cases h1
      cases h2
  have hpM : ¬ M p := by obtain ⟨V, u, hv, _⟩ := h.rep; exact hnc hv.blk
  exact ⟨h.b3.fr hf (.inr (.inl (hnc h.b3))), h.b4.fr hf (.inr (.inl (hnc h.b4))), h.b6.fr hf (.inr (.inl (hnc h.b6))), h.b7.fr hf (.inr (.inl (hnc h.b7))), h.lt, h.rep.keep hf hpM, h.ents.fr hf,
    h.fr.trans' hf (fun k hk hm => by have := (hM k hm).1; omega), h.hp, h.hB⟩
theorem TwS.below (h : TwS B p b v l w x7 n c W) (hb : Below W.heap.size W W') : TwS B p b v l w x7 n c W' :=
  h.keep (M := fun _ => False) (.of_below hb) (fun k hk => hk.elim)
theorem TwS.drewN (h : TwS B p b v l w x7 n c W) (k : Nat) : TwS B p b v l w x7 n c (W.drewN k) := h.below (below_drewN (Below.refl _ _) k)
theorem TwS.alloc (h : TwS B p b v l w x7 n c W) (o : Obj) : TwS B p b v l w x7 n c (W.alloc o) := h.below ((Below.refl _ _).alloc (Nat.le_refl _) _)
theorem TwS.grown {row : Option Nat} {B0 : Nat} (h : TwS B p b v l w x7 n c W) (hg : W.grownBy W' row) (hr : ∀ r, row = some r → B0 ≤ r ∧ ∃ o : Obj, W.heap[r]? = some o ∧ o.isCells = false) (hB0 : w.heap.size ≤ B0) : TwS B p b v l w x7 n c W' :=
  h.keep (fr_grown hg (fun r e => ⟨Nat.le_trans (Nat.le_trans h.hB hB0) (hr r e).1, (hr r e).2⟩)) (fun k e => ⟨Nat.le_trans hB0 (hr k e).1, .inr (hr k e).2⟩)
/-- The error is laid down. -/
theorem TwS.store (h : TwS B p b v l w x7 n c W) (n' : Nat) : TwS B p b v l w x7 n' c (W.setCell ⟨x7, 0, none⟩ (errV n')) := by
  have h1 := h.lt
  have h0 := h.hB
  have hfr : Fr B (· = p) w (W.setCell ⟨x7, 0, none⟩ (errV n')) := h.fr.setCell (by show B ≤ x7; omega) (.inr (by show w.heap.size ≤ x7; omega)) (fun e => absurd e (by show ¬ x7 < w.heap.size; omega)) _
  have hne : ∀ k, k < x7 → k ≠ x7 := fun k hk => by omega
  have hch : ChipR B (W.setCell ⟨x7, 0, none⟩ (errV n')) p c := chipR_far h.rep h.b7 (by omega) _
  have hx7 := h.b7.set_ 0 (errV n')
  refine ⟨h.b3.far (fun e => by have e : w.heap.size = x7 := e; omega) _, h.b4.far (fun e => by have e : w.heap.size + 1 = x7 := e; omega) _, h.b6.far (fun e => by have e : w.heap.size + 1 + 1 = x7 := e; omega) _, hx7, h.lt, hch, ⟨h.ents.1.far h.b7 (by omega) (by decide) _, h.ents.2⟩, hfr, h.hp, h.hB⟩
/-- The chip has been written to. -/
theorem TwS.chip (h : TwS B p b v l w x7 n c W) {c' : Chip} (hr : ChipR B W' p c') (hf : Fr B (· = p) W W') : TwS B p b v l w x7 n c' W' := by
  have hne : ∀ {k T : Nat} {cs : Array Value}, Blk W k T cs → mutT T = false → Blk W' k T cs := fun hb hT => hb.fr hf (.inr (.inr hT))
  exact ⟨hne h.b3 (by decide), hne h.b4 (by decide), hne h.b6 (by decide), hne h.b7 (by decide), h.lt, hr, h.ents.fr hf, h.fr.trans' hf (fun k _ hm => hm), h.hp, h.hB⟩
theorem TwS.cells (h : TwS B p b v l w x7 n c W) : W.cell? ⟨w.heap.size, 0, none⟩ = some (.pointer (some ⟨p, 0, none⟩)) ∧ W.cell? ⟨w.heap.size + 1, 0, none⟩ = some (.int .i64 b) ∧ W.cell? ⟨w.heap.size + 1 + 1, 0, none⟩ = some .nilIface ∧ W.cell? ⟨x7, 0, none⟩ = some (errV n) :=
  ⟨by rw [h.b3.cell]; rfl, by rw [h.b4.cell]; rfl, by rw [h.b6.cell]; rfl, by rw [h.b7.cell]; rfl⟩
end
theorem TwS.last {B p : Nat} {b : Int} {v : Value} {l : List Ent} {w : World} {x7 : Nat} {n : Nat} {c : Chip} {W : World} (h : TwS B p b v l w x7 n c W) {D : Nat} {o : Obj} (hD : w.heap.size ≤ D) (hK : W.heap[D]? = some o) (ho : o.isCells = false) (y : Value) (o' : Obj) :
    ChipR B ((W.setCell ⟨w.heap.size + 1 + 1, 0, none⟩ y).putObj D o') p c ∧ Fr B (· = p) w ((W.setCell ⟨w.heap.size + 1 + 1, 0, none⟩ y).putObj D o') ∧ ((W.setCell ⟨w.heap.size + 1 + 1, 0, none⟩ y).putObj D o').cell? ⟨w.heap.size + 1 + 1, 0, none⟩ = some y := by
  have h0 := h.hB
  have h1 := chipR_far h.rep h.b6 (by omega) y
  have h2 : Fr B (· = p) w (W.setCell ⟨w.heap.size + 1 + 1, 0, none⟩ y) := h.fr.setCell (by show B ≤ w.heap.size + 1 + 1; omega) (.inr (by show w.heap.size ≤ w.heap.size + 1 + 1; omega)) (fun e => absurd e (by show ¬ w.heap.size + 1 + 1 < w.heap.size; omega)) _
  have h6 : Blk (W.setCell ⟨w.heap.size + 1 + 1, 0, none⟩ y) (w.heap.size + 1 + 1) 44 #[y] := h.b6.set_ 0 y
  have hne : D ≠ w.heap.size + 1 + 1 := fun e => by
    subst e
    rw [show W.heap[w.heap.size + 1 + 1]? = some (.cells #[.nilIface] 44 (0, 0)) from h.b6] at hK
    cases hK
    cases ho
  have hK2 : (W.setCell ⟨w.heap.size + 1 + 1, 0, none⟩ y).heap[D]? = some o := (Below.heap_setCell _ _ _ _ hne).trans hK
  have hg := grownBy_putObj' (W.setCell ⟨w.heap.size + 1 + 1, 0, none⟩ y) D o'
  have hr : ∀ r, some D = some r → w.heap.size ≤ r ∧ ∃ o : Obj, (W.setCell ⟨w.heap.size + 1 + 1, 0, none⟩ y).heap[r]? = some o ∧ o.isCells = false := fun r e => by cases e; exact ⟨hD, o, hK2, ho⟩
  have hf := fr_grown (B := B) hg (fun r e => ⟨Nat.le_trans h0 (hr r e).1, (hr r e).2⟩)
  have hpD : ¬ some D = some p := fun e => by
    cases e
    have := h.hp
    omega
  refine ⟨h1.keep hf hpD, h2.trans' hf (fun k hk hm => by cases hm; omega), ?_⟩
  rw [(blk_grown h6 hg hr).cell]
  rfl
theorem errV_form (n : Nat) : errV n = .nilIface ∨ ∃ k : Nat, errV n = .iface 107 (.int .i64 k) := by
  unfold errV
  split
  · exact .inl rfl
  · exact .inr ⟨n, rfl⟩
theorem kpc_t {Bs Bn : Nat} {A B C : World} (h : KpC Bs Bn A B) (k : KpC Bs Bn B C) : KpC Bs Bn A C := ⟨k.1.trans h.1, k.2.trans h.2⟩
theorem kpc_b {Bs Bn : Nat} (W : World) (l : Nat) (o' : Obj) (h1 : Bs < l) (h2 : Bn < l) : KpC Bs Bn W (W.putObj l o') := by
  have h : ∀ k, k < l → (W.putObj l o').heap[k]? = W.heap[k]? := fun k hk => by
    show (W.heap.setIfInBounds l o')[k]? = W.heap[k]?
    rw [Array.getElem?_setIfInBounds, if_neg (by omega)]
  exact ⟨h _ h1, h _ h2⟩
/-- Nothing has turned but two blocks. -/
structure Keep2 (p x : Nat) (W W' : World) : Prop where
  size : W.heap.size ≤ W'.heap.size
  block : ∀ k, k < W.heap.size → k ≠ p → k ≠ x → W'.heap[k]? = W.heap[k]?
section
variable {p x : Nat} {W W' W2 : World}
theorem Keep2.trans (h : Keep2 p x W W') (k : Keep2 p x W' W2) : Keep2 p x W W2 := ⟨Nat.le_trans h.size k.size, fun i h1 h2 h3 => (k.block i (Nat.lt_of_lt_of_le h1 h.size) h2 h3).trans (h.block i h1 h2 h3)⟩
theorem Keep2.of_below (h : Below W.heap.size W W') : Keep2 p x W W' := ⟨h.size, fun k hk _ _ => h.block k hk⟩
theorem Keep2.of_fr {B : Nat} (h : Fr B (· = p) W W') : Keep2 p x W W' := ⟨h.size, fun k hk h1 _ => h.block k hk (.inr (.inl h1))⟩
theorem Keep2.set (W : World) (u : Value) : Keep2 p x W (W.setCell ⟨x, 0, none⟩ u) := ⟨by simp [World.setCell], fun k _ _ h => Below.heap_setCell _ _ _ _ (fun e => h e)⟩
theorem Keep2.refl (W : World) : Keep2 p x W W := ⟨Nat.le_refl _, fun _ _ _ _ => rfl⟩
theorem Keep2.others (h : Keep2 p x W W') (hp : ∃ cs T fz, W.heap[p]? = some (.cells cs T fz)) (hx : ∃ cs T fz, W.heap[x]? = some (.cells cs T fz)) : KeepsOthers W W' :=
  ⟨h.size, fun k o hk ho => (h.block k (heap_lt hk) (fun e => by
    obtain ⟨cs, T, fz, hp⟩ := hp
    rw [e, hp] at hk; cases hk; cases ho) (fun e => by
    obtain ⟨cs, T, fz, hx⟩ := hx
    rw [e, hx] at hk; cases hk; cases ho)).trans hk⟩
end
/-- What has come of the chunks. -/
def ckSt (b : Int) (l : List Ent) (st0 : Chip × Nat) (pre : List (Ck 2 l.length)) : Chip × Nat := (pre.map (fun k => bytesL (ckList 2 l k.1).length (ckList 2 l k.1))).foldl (pStepW b) st0
theorem ckSt_all (b : Int) (l : List Ent) (st0 : Chip × Nat) {k : Nat} (hk : l.length ≤ 2 * k) : ckSt b l st0 (ckUpto 2 l.length k) = ((chunks2 l).map (fun p => bytesL p.length p)).foldl (pStepW b) st0 := by
  have h1 : (ckUpto 2 l.length k).map (fun j => ckList 2 l j.1) = chunks2 l := by
    clear st0 b
    have key : ∀ (n : Nat) (l : List Ent) (k : Nat), l.length ≤ n → l.length ≤ 2 * k → (List.range k).filterMap (fun j => if 2 * j < l.length then some (ckList 2 l j) else none) = chunks2 l := by
      intro n
      induction n using Nat.strongRecOn with
      | _ n ih =>
        intro l k hn hk
        match l, hn, hk with
        | [], _, _ => simp [chunks2]
        | [a], _, hk =>
          obtain ⟨k, rfl⟩ : ∃ k', k = k' + 1 := ⟨k - 1, by simp at hk; omega⟩
          rw [List.range_succ_eq_map]
          simp [chunks2, ckList, List.filterMap_map]
        | a :: b :: l, hn, hk =>
          simp only [List.length_cons] at hn hk
          obtain ⟨k, rfl⟩ : ∃ k', k = k' + 1 := ⟨k - 1, by omega⟩
          have := ih (n - 2) (by omega) l k (by omega) (by omega)
          rw [List.range_succ_eq_map, List.filterMap_cons]
          simp only [Nat.mul_zero, List.length_cons, Nat.zero_lt_succ, if_true]
          rw [chunks2, ← this, List.filterMap_map]
          congr 1
          congr 1
          funext j
          have e1 : (2 * (j + 1) < l.length + 1 + 1) = (2 * j < l.length) := by apply propext; omega
          have e2 : ckList 2 (a :: b :: l) (j + 1) = ckList 2 l j := by
            unfold ckList
            rw [Nat.mul_add, Nat.mul_one, Nat.add_comm (2 * j) 2, ← List.drop_drop]
            rfl
          simp only [Function.comp, Nat.succ_eq_add_one, e1, e2]
    rw [← key l.length l k (Nat.le_refl _) hk, ckUpto, List.map_filterMap]
    congr 1
    funext j
    by_cases h : 2 * j < l.length <;> simp [h]
  rw [ckSt, ← h1, List.map_map]
  rfl
set_option maxRecDepth 100000 in
set_option maxHeartbeats 4000000 in
theorem twrite_any (B p : Nat) (c : Chip) (b : Int) (v : Value) (l : List Ent) (w : World) (h : ChipR B w p c) (hl : Ents B w v l) (ht : tabF l = 0) :
    Calls Try.prog 46 #[.pointer (some ⟨p, 0, none⟩), .int .i64 b, v] w fun e w' => e = .returned (errV (tabWrite c b l).2) ∧ ChipR B w' p (tabWrite c b l).1 ∧ Fr B (· = p) w w' := by
  have hpart := tabF_parts ht
  have hB0 : B ≤ w.heap.size := by obtain ⟨V, u, hv, _⟩ := h; have := hv.base; have := hv.blk.lt; omega
  obtain ⟨A, cp, rfl, hc1, hc2, _⟩ := hl.form
  obtain ⟨g, o, rfl, _, _, _⟩ := rd_at' hl.1 hpart.1
  have hbl0 : Below w.heap.size w (((w.alloc (.cells #[.pointer (some ⟨p, 0, none⟩)] 62)).alloc (.cells #[.int .i64 b] 3)).alloc (.cells #[.nilIface] 44)) :=
    ((((Below.refl _ _).alloc (Nat.le_refl _) _).alloc (by simp) _).alloc (by simp; omega) _)
  have HCK := Lib.hid (tcheck_any B _ l _ (hl.below hbl0))
  rw [ht, show errV 0 = Value.nilIface from rfl] at HCK
  have HL := Lib.hid hl
  have HR := Lib.hid h
  have HBL0 := Lib.hid hbl0
  have HT0 : Hid (∀ w2, Below (((w.alloc (.cells #[.pointer (some ⟨p, 0, none⟩)] 62)).alloc (.cells #[.int .i64 b] 3)).alloc (.cells #[.nilIface] 44)).heap.size (((w.alloc (.cells #[.pointer (some ⟨p, 0, none⟩)] 62)).alloc (.cells #[.int .i64 b] 3)).alloc (.cells #[.nilIface] 44)) w2 →
      TwS B p b (.slice (some ⟨g, o, none⟩) l.length cp) l w w2.heap.size 0 c (w2.alloc (.cells #[.nilIface] 44))) := by
    intro w2 hb2
    have hs := hb2.size
    simp at hs
    have hbb : Below w.heap.size w (w2.alloc (.cells #[.nilIface] 44)) := (hbl0.trans (hb2.mono (by simp; omega))).alloc (by omega) _
    have k3 : Blk (((w.alloc (.cells #[.pointer (some ⟨p, 0, none⟩)] 62)).alloc (.cells #[.int .i64 b] 3)).alloc (.cells #[.nilIface] 44)) w.heap.size 62 #[.pointer (some ⟨p, 0, none⟩)] := ((Blk.new w _ _).alloc _).alloc _
    have k4 : Blk (((w.alloc (.cells #[.pointer (some ⟨p, 0, none⟩)] 62)).alloc (.cells #[.int .i64 b] 3)).alloc (.cells #[.nilIface] 44)) (w.heap.size + 1) 3 #[.int .i64 b] := by
      have := (Blk.new (w.alloc (.cells #[.pointer (some ⟨p, 0, none⟩)] 62)) 3 #[.int .i64 b]).alloc (.cells #[.nilIface] 44)
      simpa using this
    have k6 : Blk (((w.alloc (.cells #[.pointer (some ⟨p, 0, none⟩)] 62)).alloc (.cells #[.int .i64 b] 3)).alloc (.cells #[.nilIface] 44)) (w.heap.size + 1 + 1) 44 #[.nilIface] := by
      have := Blk.new ((w.alloc (.cells #[.pointer (some ⟨p, 0, none⟩)] 62)).alloc (.cells #[.int .i64 b] 3)) 44 #[.nilIface]
      simpa using this
    exact ⟨(k3.below hb2 k3.lt).alloc _, (k4.below hb2 k4.lt).alloc _, (k6.below hb2 k6.lt).alloc _, Blk.new w2 _ _, by omega, h.below hbb, hl.below hbb, .of_below hbb, h.lt, hB0⟩
  have HSZ : Hid (∀ w2, Below (((w.alloc (.cells #[.pointer (some ⟨p, 0, none⟩)] 62)).alloc (.cells #[.int .i64 b] 3)).alloc (.cells #[.nilIface] 44)).heap.size (((w.alloc (.cells #[.pointer (some ⟨p, 0, none⟩)] 62)).alloc (.cells #[.int .i64 b] 3)).alloc (.cells #[.nilIface] 44)) w2 → w.heap.size + 1 + 1 < w2.heap.size ∧ w2.cell? ⟨w.heap.size, 0, none⟩ = some (.pointer (some ⟨p, 0, none⟩)) ∧ w2.cell? ⟨w.heap.size + 1, 0, none⟩ = some (.int .i64 b)) := by
    intro w2 hb2
    have hs := hb2.size
    simp at hs
    have hT := HT0.out w2 hb2
    have old : ∀ k (v : Value), k < w2.heap.size → (w2.alloc (.cells #[.nilIface] 44)).cell? ⟨k, 0, none⟩ = some v → w2.cell? ⟨k, 0, none⟩ = some v := by
      intro k v hk hv
      rw [World.cell?_of_block (Below.heap_alloc w2 _ k hk)] at hv
      exact hv
    exact ⟨by omega, old _ _ (by omega) hT.cells.1, old _ _ (by omega) hT.cells.2.1⟩
  clear h hl hbl0
  have HER := Lib.hid (fun W (h : ChipR B W p c) => cerase_any B p c b W h)
  have HTW : Hid (tabWrite c b l = (rawPages l).foldl (pStepW b) (c.erase b)) := rfl
  generalize hr1 : c.erase b = r1 at *
  obtain ⟨c1, n1⟩ := r1
  clear hr1
  have HT := Lib.hid ht
  refine (callsIn_wide (n := 6)).1 ?_
  refine callsIn_of_wp_marks Try.func46 rfl trivial ?_ rfl
  simp only [Try.ntmps46, List.size_toArray, List.length_cons, List.length_nil, Nat.reduceAdd, Nat.reduceSub, Array.replicate_succ, Array.replicate_zero, List.push_toArray, List.append_toArray, List.nil_append, List.cons_append]
  refine wpIn_wide.2 ?_
  by_cases hn1 : n1 = 0
  case' pos =>
    subst hn1
    have HT1 : Hid (∀ x7 w3, TwS B p b (.slice (some ⟨g, o, none⟩) l.length cp) l w x7 0 c1 w3 → TwS B p b (.slice (some ⟨g, o, none⟩) l.length cp) l w x7 0 c1 (w3.setCell ⟨x7, 0, none⟩ .nilIface)) := fun x7 w3 h => h.store 0
    go_wp2_with (first
      | (go_at_call 48; refine HCK.out.mono ?_; rintro e2 w2 ⟨rfl, hb2⟩; have HT2 := Lib.hid (HT0.out w2 hb2); obtain ⟨z1, z3, z4⟩ := HSZ.out w2 hb2; have z5 : w.heap.size < w2.heap.size := (by omega); have z6 : w.heap.size + 1 < w2.heap.size := (by omega); clear hb2 HT0 HSZ HBL0)
      | (go_at_call 39; refine (HER.out _ HT2.out.rep).mono ?_; rintro e3 w3 ⟨rfl, hr3, hf3⟩; have HT3 := Lib.hid (HT2.out.chip hr3 hf3); have y3 := HT3.out.b7.cell 0; have y4 := HT3.out.b7.frozen 0; simp at y3; have y0 := HT3.out.cells.1; have y1 := HT3.out.cells.2.1; rw [show errV ((c1, 0) : Chip × Nat).2 = Value.nilIface from rfl]; have HT4 := Lib.hid (HT1.out _ _ HT3.out); clear hr3 hf3))
    have hpg : Hid ((rawPages l) = bitsB (fOf (l.map Ent.k)) :: (chunks2 l).map (fun p => bytesL p.length p)) := rfl
    have hfl : fOf (l.map Ent.k) < 18446744073709551616 := fOf_lt _
    have HKY := Lib.hid (fun (W' : World) (h : TwS B p b (.slice (some ⟨g, o, none⟩) l.length cp) l w w2.heap.size 0 c1 W') => (keys_any B (.slice (some ⟨g, o, none⟩) l.length cp) l W' h.ents (by omega)).mono (R' := fun e w2' => ∃ u, e = .returned u ∧ Strs B w2' u (l.map Ent.k) ∧ TwS B p b (.slice (some ⟨g, o, none⟩) l.length cp) l w w2.heap.size 0 c1 w2') (fun e w2' ⟨u, h1, h2, h3⟩ => ⟨u, h1, h2, h.below h3⟩))
    have HOF := Lib.hid (fun (W' : World) (u : Value) (hu : Strs B W' u (l.map Ent.k)) (h : TwS B p b (.slice (some ⟨g, o, none⟩) l.length cp) l w w2.heap.size 0 c1 W') => (of_any B u (l.map Ent.k) W' hu).mono (R' := fun e w2' => e = .returned (.int .u64 (fOf (l.map Ent.k) : Nat)) ∧ TwS B p b (.slice (some ⟨g, o, none⟩) l.length cp) l w w2.heap.size 0 c1 w2') (fun e w2' ⟨h1, n, h2⟩ => ⟨h1, by rw [← h2]; exact h.drewN n⟩))
    have HBI := Lib.hid (fun (W' : World) (h : TwS B p b (.slice (some ⟨g, o, none⟩) l.length cp) l w w2.heap.size 0 c1 W') => (bits_any (fOf (l.map Ent.k)) hfl W').mono (R' := fun e w2' => e = .returned (.string (bitsB (fOf (l.map Ent.k)))) ∧ TwS B p b (.slice (some ⟨g, o, none⟩) l.length cp) l w w2.heap.size 0 c1 w2') (fun e w2' ⟨h1, h2⟩ => ⟨h1, h.below h2⟩))
    have HWR := Lib.hid (fun (W' : World) (h : TwS B p b (.slice (some ⟨g, o, none⟩) l.length cp) l w w2.heap.size 0 c1 W') => (cwrite_any B p c1 b (bitsB (fOf (l.map Ent.k))) W' h.rep (by rw [bitsB_size]; omega)).mono (R' := fun e w2' => e = .returned (errV (pStepW b (c1, 0) (bitsB (fOf (l.map Ent.k)))).2) ∧ TwS B p b (.slice (some ⟨g, o, none⟩) l.length cp) l w w2.heap.size 0 (pStepW b (c1, 0) (bitsB (fOf (l.map Ent.k)))).1 w2') (fun e w2' ⟨h1, h2, h3⟩ => ⟨h1, h.chip h2 h3⟩))
    rw [hpg.out, List.foldl_cons] at HTW
    generalize bitsB (fOf (l.map Ent.k)) = d0 at *
    generalize fOf (l.map Ent.k) = f0 at *
    generalize pStepW b (c1, 0) d0 = st0 at *
    have HT5 := Lib.hid (HT4.out.drewN 1)
    have HST : Hid (∀ x7 c W, TwS B p b (.slice (some ⟨g, o, none⟩) l.length cp) l w x7 0 c W → TwS B p b (.slice (some ⟨g, o, none⟩) l.length cp) l w x7 st0.2 c (W.setCell ⟨x7, 0, none⟩ (errV st0.2))) := fun x7 c W h => h.store st0.2
    have hform := errV_form st0.2
    have hev : Hid (∃ ev, errV st0.2 = ev) := ⟨_, rfl⟩
    obtain ⟨ev, hev⟩ := hev
    rw [hev] at HWR HST hform
    have HEV := Lib.hid hev
    clear hev
    rcases hform with rfl | ⟨ek, rfl⟩
    all_goals go_region_held3 (fun w' => w'.cell? ⟨w.heap.size, 0, none⟩ = some (.pointer (some ⟨p, 0, none⟩)) ∧ w'.cell? ⟨w.heap.size + 1, 0, none⟩ = some (.int .i64 b))
      ((first
        | exact ⟨(HT9.out).cells.1, HT9.out.cells.2.1⟩
        | exact ⟨(HT8.out).cells.1, HT8.out.cells.2.1⟩
        | exact ⟨(HT7.out).cells.1, HT7.out.cells.2.1⟩
        | exact ⟨(HT6.out).cells.1, HT6.out.cells.2.1⟩
        | exact ⟨(HTA.out).cells.1, HTA.out.cells.2.1⟩
        | exact ⟨(HT5.out).cells.1, HT5.out.cells.2.1⟩))
      ((first
        | (go_at_call 73; refine (HKY.out _ HT5.out).mono ?_; rintro e6 w6 ⟨u6, rfl, hu6, ht6⟩; have HT6 := Lib.hid ht6; have HU6 := Lib.hid hu6; clear ht6 hu6)
        | (go_at_call 72; refine (HOF.out _ _ HU6.out HT6.out).mono ?_; rintro e7 w7 ⟨rfl, ht7⟩; have HT7 := Lib.hid ht7; clear ht7)
        | (go_at_call 71; refine (HBI.out _ HT7.out).mono ?_; rintro e8 w8 ⟨rfl, ht8⟩; have HT8 := Lib.hid ht8; clear ht8)
        | (go_at_call 33; refine (HWR.out _ HT8.out).mono ?_; rintro e9 w9 ⟨rfl, ht9⟩; have HT9 := Lib.hid ht9; have HTA := Lib.hid (HST.out _ _ _ ht9); have v3 := ht9.b7.cell 0; have v4 := ht9.b7.frozen 0; simp at v3; clear ht9)))
    all_goals
      obtain ⟨WL, hWL⟩ : ∃ WL, w9.setCell ⟨w2.heap.size, 0, none⟩ (errV st0.2) = WL := ⟨_, rfl⟩
      rw [HEV.out] at hWL
      rw [hWL] at HTA ⊢
      have HCH := Lib.hid (chunk_any (some ⟨g, o, none⟩) l.length cp 2 (by decide) WL)
      clear HKY HOF HBI HWR HER HCK HST HT1 HT2 HT3 HT4 HT5 HT6 HT7 HT8 HT9 HU6 hWL
      go_wp2_with (go_at_call 74; refine HCH.out.mono ?_; rintro e10 w10 ⟨rfl, rfl⟩)
  case' neg =>
    have he : errV n1 = .iface 107 (.int .i64 n1) := by unfold errV; rw [if_neg hn1]
    have HT1 : Hid (∀ x7 w3, TwS B p b (.slice (some ⟨g, o, none⟩) l.length cp) l w x7 0 c1 w3 → TwS B p b (.slice (some ⟨g, o, none⟩) l.length cp) l w x7 n1 c1 (w3.setCell ⟨x7, 0, none⟩ (.iface 107 (.int .i64 n1)))) := fun x7 w3 h => by rw [← he]; exact h.store n1
    have HE := Lib.hid he
    have hpg : Hid ((rawPages l) = bitsB (fOf (l.map Ent.k)) :: (chunks2 l).map (fun p => bytesL p.length p)) := rfl
    rw [hpg.out, List.foldl_cons, show pStepW b (c1, n1) (bitsB (fOf (l.map Ent.k))) = (c1, n1) from if_neg hn1] at HTW
    clear he
    go_wp2_with (first
      | (go_at_call 48; refine HCK.out.mono ?_; rintro e2 w2 ⟨rfl, hb2⟩; have HT2 := Lib.hid (HT0.out w2 hb2); obtain ⟨z1, z3, z4⟩ := HSZ.out w2 hb2; have z5 : w.heap.size < w2.heap.size := (by omega); have z6 : w.heap.size + 1 < w2.heap.size := (by omega); clear hb2 HT0 HSZ HBL0)
      | (go_at_call 39; refine (HER.out _ HT2.out.rep).mono ?_; rintro e3 w3 ⟨rfl, hr3, hf3⟩; have HT3 := Lib.hid (HT2.out.chip hr3 hf3); have y3 := HT3.out.b7.cell 0; have y4 := HT3.out.b7.frozen 0; simp at y3; have y0 := HT3.out.cells.1; have y1 := HT3.out.cells.2.1; rw [show errV ((c1, n1) : Chip × Nat).2 = Value.iface 107 (.int .i64 n1) from HE.out]; have HTA := Lib.hid (HT1.out _ _ HT3.out); clear hr3 hf3)
      | (go_at_call 74; (obtain ⟨WL, hWL⟩ : ∃ WL, w3.setCell ⟨w2.heap.size, 0, none⟩ (.iface 107 (.int .i64 n1)) = WL := ⟨_, rfl⟩); rw [hWL] at HTA ⊢; have HCH := Lib.hid (chunk_any (some ⟨g, o, none⟩) l.length cp 2 (by decide) WL); clear HER HCK HT1 HT2 HT3 hWL; refine HCH.out.mono ?_; rintro e10 w10 ⟨rfl, rfl⟩))
    obtain ⟨st0, hst0⟩ : ∃ st0 : Chip × Nat, st0 = (c1, n1) := ⟨_, rfl⟩
    have HTA : Hid (TwS B p b (.slice (some ⟨g, o, none⟩) l.length cp) l w w2.heap.size st0.2 st0.1 WL) := by rw [hst0]; exact HTA
    rw [← hst0] at HTW
  · have hTL : TwS B p b (.slice (some ⟨g, o, none⟩) l.length cp) l w w2.heap.size st0.2 st0.1 ((WL.alloc (.cells #[(.slice (some ⟨g, o, none⟩) l.length cp)] 22)).alloc (.cells #[.int .i64 2] 3)) := (HTA.out.alloc _).alloc _
    have HTL := Lib.hid hTL
    have hsL : w.heap.size + 1 + 1 < WL.heap.size := by have := HTA.out.b7.lt; have := HTA.out.lt; omega
    have hsL2 : w2.heap.size < WL.heap.size := HTA.out.b7.lt
    have HBs : Blk ((WL.alloc (.cells #[(.slice (some ⟨g, o, none⟩) l.length cp)] 22)).alloc (.cells #[.int .i64 2] 3)) WL.heap.size 22 #[(.slice (some ⟨g, o, none⟩) l.length cp)] := (Blk.new WL _ _).alloc _
    have HBn : Blk ((WL.alloc (.cells #[(.slice (some ⟨g, o, none⟩) l.length cp)] 22)).alloc (.cells #[.int .i64 2] 3)) (WL.heap.size + 1) 3 #[.int .i64 (2 : Nat)] := by
      have := Blk.new (WL.alloc (.cells #[(.slice (some ⟨g, o, none⟩) l.length cp)] 22)) 3 #[.int .i64 2]
      simpa using this
    have hps : ((WL.alloc (.cells #[(.slice (some ⟨g, o, none⟩) l.length cp)] 22)).alloc (.cells #[.int .i64 2] 3)).heap.size = WL.heap.size + 2 := by simp
    generalize hWW : ((WL.alloc (.cells #[(.slice (some ⟨g, o, none⟩) l.length cp)] 22)).alloc (.cells #[.int .i64 2] 3)) = WW at *
    clear hWW hTL HCH HTA
    refine (wpIn_wide (n := 6)).1 ?_
    refine wpIn_rangeFunc_ownF (n := 6) rfl (by decide) (gf := 100) (lb := #[.pointer (some ⟨WL.heap.size, 0, none⟩), .pointer (some ⟨WL.heap.size + 1, 0, none⟩)]) rfl trivial (enters_of Try.func100 (by kernel_rfl) rfl)
      (chunk_stops 5 (by decide) WL.heap.size (WL.heap.size + 1) g o l.length cp 2 (some ⟨g, o, none⟩) (fun _ => rfl) (by decide) (by decide) (by omega) hc1 hc2 WW HBs HBn) kpc_t (fun W k o o' hk _ _ _ => kpc_b (Bs := WL.heap.size) (Bn := WL.heap.size + 1) W k o' (by omega) (by omega)) (Below.refl _ _) (fun _ => rfl)
      (fun pre W => TwS B p b (.slice (some ⟨g, o, none⟩) l.length cp) l w w2.heap.size (ckSt b l st0 pre).2 (ckSt b l st0 pre).1 W ∧ WL.heap.size + 2 ≤ W.heap.size) (fun _ _ _ => False)
      (fun s A' B' row hs hg hr => ⟨hs.1.grown hg hr (by omega), Nat.le_trans hs.2 hg.size⟩) (fun _ _ _ _ _ h _ _ => h) ⟨HTL.out, by omega⟩ ?a1 ?assign ?body ?done ?stop
    case assign =>
      intro l0 x W K hK
      simp only [ckVal]
      gi_wp2
      exact hK
    case body =>
      rintro l0 pre ⟨k, hkx⟩ W ⟨hT, hWs⟩ _
      obtain ⟨m, hm⟩ : ∃ m, min 2 (l.length - 2 * k) = m := ⟨_, rfl⟩
      have hen := ents_chunk (nn := 2) (k := k) hT.ents
      rw [hm] at hen
      have hpc : ∃ cs T fz, W.heap[p]? = some (.cells cs T fz) := by obtain ⟨V, u, hv, _⟩ := hT.rep; exact ⟨_, _, _, hv.blk⟩
      have hxc : ∃ cs T fz, W.heap[w2.heap.size]? = some (.cells cs T fz) := ⟨_, _, _, hT.b7⟩
      have HPC := Lib.hid hpc
      have HXC := Lib.hid hxc
      have hpw := hT.hp
      have hnx : ckSt b l st0 (pre ++ [⟨k, hkx⟩]) = pStepW b (ckSt b l st0 pre) (bytesL (ckList 2 l k).length (ckList 2 l k)) := by simp [ckSt]
      have hbc := bytes_chunk HT.out (q := ckList 2 l k) (fun e he => List.mem_of_mem_drop (List.mem_of_mem_take he)) (by simp [ckList]; omega)
      have hby := bytes_any B _ (ckList 2 l k) W hen (by simp [ckList]; omega)
      have hsz : (bytesL (ckList 2 l k).length (ckList 2 l k)).size ≤ 9223372036854775807 := by
        have hall := chkT_all (tabF_parts HT.out).2.2
        have h1 := bytesL_size (ckList 2 l k).length (ckList 2 l k) (fun e he => hall e (List.mem_of_mem_drop (List.mem_of_mem_take he)))
        have h2 : (ckList 2 l k).length ≤ 2 := by simp [ckList]; omega
        omega
      rw [hbc.1, hbc.2, show errV 0 = Value.nilIface from rfl] at hby
      generalize bytesL (ckList 2 l k).length (ckList 2 l k) = d at *
      have HNX := Lib.hid hnx
      generalize ckSt b l st0 pre = st at *
      have HBY := Lib.hid (hby.mono (R' := fun e w1 => e = .returned (.tuple #[.string d, .nilIface]) ∧ TwS B p b (.slice (some ⟨g, o, none⟩) l.length cp) l w w2.heap.size st.2 st.1 w1 ∧ Keep2 p w2.heap.size W w1) (fun e w1 ⟨h1, h2⟩ => ⟨h1, hT.below h2, .of_below h2⟩))
      have HWR := Lib.hid (fun (W' : World) (h : TwS B p b (.slice (some ⟨g, o, none⟩) l.length cp) l w w2.heap.size 0 st.1 W') => (cwrite_any B p st.1 b d W' h.rep hsz).mono (R' := fun e w2' => e = .returned (errV (st.1.write b d).2) ∧ TwS B p b (.slice (some ⟨g, o, none⟩) l.length cp) l w w2.heap.size 0 (st.1.write b d).1 w2' ∧ Keep2 p w2.heap.size W' w2') (fun e w2' ⟨h1, h2, h3⟩ => ⟨h1, h.chip h2 h3, .of_fr h3⟩))
      have HFIN : Hid (∀ W', TwS B p b (.slice (some ⟨g, o, none⟩) l.length cp) l w w2.heap.size (pStepW b st d).2 (pStepW b st d).1 W' → Keep2 p w2.heap.size W W' → KeepsOthers W W' ∧ KpC WL.heap.size (WL.heap.size + 1) W W' ∧ (TwS B p b (.slice (some ⟨g, o, none⟩) l.length cp) l w w2.heap.size (ckSt b l st0 (pre ++ [⟨k, hkx⟩])).2 (ckSt b l st0 (pre ++ [⟨k, hkx⟩])).1 W' ∧ WL.heap.size + 2 ≤ W'.heap.size)) := by
        intro W' h1 h2
        refine ⟨h2.others hpc hxc, ⟨h2.block _ (by omega) (by omega) (by omega), h2.block _ (by omega) (by omega) (by omega)⟩, ?_, Nat.le_trans hWs h2.size⟩
        rw [hnx]
        exact h1
      clear hen hpc hxc hnx hbc hby hT
      simp only [hm]
      by_cases hs0 : st.2 = 0
      · rw [hs0] at HBY
        have hps : pStepW b st d = st.1.write b d := if_pos hs0
        rw [hps] at HFIN
        generalize st.1.write b d = st' at *
        have hform := errV_form st'.2
        have HSTO : Hid (∀ x7 c W, TwS B p b (.slice (some ⟨g, o, none⟩) l.length cp) l w x7 0 c W → TwS B p b (.slice (some ⟨g, o, none⟩) l.length cp) l w x7 st'.2 c (W.setCell ⟨x7, 0, none⟩ (errV st'.2))) := fun x7 c W h => h.store st'.2
        obtain ⟨ev, hev⟩ : ∃ ev, errV st'.2 = ev := ⟨_, rfl⟩
        rw [hev] at HWR HSTO hform
        clear hev
        rcases hform with rfl | ⟨ek', rfl⟩
        all_goals
          gi_wp2_with (first
            | (refine ⟨trivial, ?_⟩; gi_at_call 24; refine (CallsIn.inRound l0 (callsIn_wide.2 HBY.out)).mono ?_; rintro e4 w4 ⟨rfl, ht4, hk4⟩; have HT4 := Lib.hid ht4; have HK4 := Lib.hid hk4; have q7 := ht4.b7.cell 0; simp at q7; rw [show errV 0 = Value.nilIface from rfl] at q7; have q0 := ht4.cells.1; have q1 := ht4.cells.2.1; clear ht4 hk4)
            | (refine ⟨trivial, ?_⟩; gi_at_call 33; refine (CallsIn.inRound l0 (callsIn_wide.2 (HWR.out _ HT4.out))).mono ?_; rintro e5 w5 ⟨rfl, ht5, hk5⟩; have HT5 := Lib.hid (HSTO.out _ _ _ ht5); have HK5 := Lib.hid (fun u => HK4.out.trans (hk5.trans (Keep2.set w5 u))); have r7 := ht5.b7.cell 0; have r8 := ht5.b7.frozen 0; simp at r7; clear ht5 hk5))
          exact HFIN.out _ HT5.out (HK5.out _)
      · have hps : pStepW b st d = st := if_neg hs0
        rw [hps] at HFIN
        have he : errV st.2 = .iface 107 (.int .i64 st.2) := by unfold errV; rw [if_neg hs0]
        have HE := Lib.hid he
        clear he
        gi_wp2_with (refine ⟨trivial, ?_⟩; gi_at_call 24; refine (CallsIn.inRound l0 (callsIn_wide.2 HBY.out)).mono ?_; rintro e4 w4 ⟨rfl, ht4, hk4⟩; have HT4 := Lib.hid ht4; have HK4 := Lib.hid hk4; have q7 := ht4.b7.cell 0; simp at q7; rw [HE.out] at q7; have q0 := ht4.cells.1; have q1 := ht4.cells.2.1; clear ht4 hk4)
        exact HFIN.out _ HT4.out HK4.out
    case done =>
      rintro D xs W hD ⟨k, hk, rfl⟩ ⟨hT, _⟩ hK
      have hend : ckSt b l st0 (ckUpto 2 l.length k) = tabWrite c b l := by
        rw [HTW.out]
        exact ckSt_all b l st0 hk
      rw [hend] at hT
      have q7 := hT.b7.cell 0
      have q6 := hT.b6.cell 0
      have q6f := hT.b6.frozen 0
      have q6l := hT.b6.lt
      simp at q7 q6
      obtain ⟨ev, hev⟩ : ∃ ev, errV (tabWrite c b l).2 = ev := ⟨_, rfl⟩
      have hform := errV_form (tabWrite c b l).2
      have HTD := Lib.hid (hT.last (D := D) (by omega) hK rfl)
      have HKD : Hid (∀ u, (W.setCell ⟨w.heap.size + 1 + 1, 0, none⟩ u).heap[D]? = some (.deferred (some []))) := fun u => (Below.heap_setCell _ _ _ _ (fun e => by
        have e : D = w.heap.size + 1 + 1 := e
        rw [e, show W.heap[w.heap.size + 1 + 1]? = some (.cells #[.nilIface] 44 (0, 0)) from hT.b6] at hK
        cases hK)).trans hK
      rw [hev] at hform q7
      have HEV2 := Lib.hid hev
      clear hend hK hT HTW hev
      rcases hform with rfl | ⟨ek', rfl⟩
      · have hc := (HTD.out .nilIface (.deferred none)).2.2
        go_wp2_with fail
        refine ⟨by simp, .inl ⟨_, _, rfl, run_takeDeferred (HKD.out _), ?_⟩⟩
        exact ⟨.nilIface, by simp [results, Try.results46, go_sem, hc], by rw [HEV2.out], (HTD.out _ _).1, (HTD.out _ _).2.1⟩
      · have hc := (HTD.out (.iface 107 (.int .i64 ek')) (.deferred none)).2.2
        go_wp2_with fail
        refine ⟨by simp, .inl ⟨_, _, rfl, run_takeDeferred (HKD.out _), ?_⟩⟩
        exact ⟨.iface 107 (.int .i64 ek'), by simp [results, Try.results46, go_sem, hc], by rw [HEV2.out], (HTD.out _ _).1, (HTD.out _ _).2.1⟩
    case stop =>
      rintro D c pre W _ _ h _
      exact h.elim
  · have hTL : TwS B p b (.slice (some ⟨g, o, none⟩) l.length cp) l w w2.heap.size st0.2 st0.1 ((WL.alloc (.cells #[(.slice (some ⟨g, o, none⟩) l.length cp)] 22)).alloc (.cells #[.int .i64 2] 3)) := (HTA.out.alloc _).alloc _
    have HTL := Lib.hid hTL
    have hsL : w.heap.size + 1 + 1 < WL.heap.size := by have := HTA.out.b7.lt; have := HTA.out.lt; omega
    have hsL2 : w2.heap.size < WL.heap.size := HTA.out.b7.lt
    have HBs : Blk ((WL.alloc (.cells #[(.slice (some ⟨g, o, none⟩) l.length cp)] 22)).alloc (.cells #[.int .i64 2] 3)) WL.heap.size 22 #[(.slice (some ⟨g, o, none⟩) l.length cp)] := (Blk.new WL _ _).alloc _
    have HBn : Blk ((WL.alloc (.cells #[(.slice (some ⟨g, o, none⟩) l.length cp)] 22)).alloc (.cells #[.int .i64 2] 3)) (WL.heap.size + 1) 3 #[.int .i64 (2 : Nat)] := by
      have := Blk.new (WL.alloc (.cells #[(.slice (some ⟨g, o, none⟩) l.length cp)] 22)) 3 #[.int .i64 2]
      simpa using this
    have hps : ((WL.alloc (.cells #[(.slice (some ⟨g, o, none⟩) l.length cp)] 22)).alloc (.cells #[.int .i64 2] 3)).heap.size = WL.heap.size + 2 := by simp
    generalize hWW : ((WL.alloc (.cells #[(.slice (some ⟨g, o, none⟩) l.length cp)] 22)).alloc (.cells #[.int .i64 2] 3)) = WW at *
    clear hWW hTL HCH HTA
    refine (wpIn_wide (n := 6)).1 ?_
    refine wpIn_rangeFunc_ownF (n := 6) rfl (by decide) (gf := 100) (lb := #[.pointer (some ⟨WL.heap.size, 0, none⟩), .pointer (some ⟨WL.heap.size + 1, 0, none⟩)]) rfl trivial (enters_of Try.func100 (by kernel_rfl) rfl)
      (chunk_stops 5 (by decide) WL.heap.size (WL.heap.size + 1) g o l.length cp 2 (some ⟨g, o, none⟩) (fun _ => rfl) (by decide) (by decide) (by omega) hc1 hc2 WW HBs HBn) kpc_t (fun W k o o' hk _ _ _ => kpc_b (Bs := WL.heap.size) (Bn := WL.heap.size + 1) W k o' (by omega) (by omega)) (Below.refl _ _) (fun _ => rfl)
      (fun pre W => TwS B p b (.slice (some ⟨g, o, none⟩) l.length cp) l w w2.heap.size (ckSt b l st0 pre).2 (ckSt b l st0 pre).1 W ∧ WL.heap.size + 2 ≤ W.heap.size) (fun _ _ _ => False)
      (fun s A' B' row hs hg hr => ⟨hs.1.grown hg hr (by omega), Nat.le_trans hs.2 hg.size⟩) (fun _ _ _ _ _ h _ _ => h) ⟨HTL.out, by omega⟩ ?a2 ?assign ?body ?done ?stop
    case assign =>
      intro l0 x W K hK
      simp only [ckVal]
      gi_wp2
      exact hK
    case body =>
      rintro l0 pre ⟨k, hkx⟩ W ⟨hT, hWs⟩ _
      obtain ⟨m, hm⟩ : ∃ m, min 2 (l.length - 2 * k) = m := ⟨_, rfl⟩
      have hen := ents_chunk (nn := 2) (k := k) hT.ents
      rw [hm] at hen
      have hpc : ∃ cs T fz, W.heap[p]? = some (.cells cs T fz) := by obtain ⟨V, u, hv, _⟩ := hT.rep; exact ⟨_, _, _, hv.blk⟩
      have hxc : ∃ cs T fz, W.heap[w2.heap.size]? = some (.cells cs T fz) := ⟨_, _, _, hT.b7⟩
      have HPC := Lib.hid hpc
      have HXC := Lib.hid hxc
      have hpw := hT.hp
      have hnx : ckSt b l st0 (pre ++ [⟨k, hkx⟩]) = pStepW b (ckSt b l st0 pre) (bytesL (ckList 2 l k).length (ckList 2 l k)) := by simp [ckSt]
      have hbc := bytes_chunk HT.out (q := ckList 2 l k) (fun e he => List.mem_of_mem_drop (List.mem_of_mem_take he)) (by simp [ckList]; omega)
      have hby := bytes_any B _ (ckList 2 l k) W hen (by simp [ckList]; omega)
      have hsz : (bytesL (ckList 2 l k).length (ckList 2 l k)).size ≤ 9223372036854775807 := by
        have hall := chkT_all (tabF_parts HT.out).2.2
        have h1 := bytesL_size (ckList 2 l k).length (ckList 2 l k) (fun e he => hall e (List.mem_of_mem_drop (List.mem_of_mem_take he)))
        have h2 : (ckList 2 l k).length ≤ 2 := by simp [ckList]; omega
        omega
      rw [hbc.1, hbc.2, show errV 0 = Value.nilIface from rfl] at hby
      generalize bytesL (ckList 2 l k).length (ckList 2 l k) = d at *
      have HNX := Lib.hid hnx
      generalize ckSt b l st0 pre = st at *
      have HBY := Lib.hid (hby.mono (R' := fun e w1 => e = .returned (.tuple #[.string d, .nilIface]) ∧ TwS B p b (.slice (some ⟨g, o, none⟩) l.length cp) l w w2.heap.size st.2 st.1 w1 ∧ Keep2 p w2.heap.size W w1) (fun e w1 ⟨h1, h2⟩ => ⟨h1, hT.below h2, .of_below h2⟩))
      have HWR := Lib.hid (fun (W' : World) (h : TwS B p b (.slice (some ⟨g, o, none⟩) l.length cp) l w w2.heap.size 0 st.1 W') => (cwrite_any B p st.1 b d W' h.rep hsz).mono (R' := fun e w2' => e = .returned (errV (st.1.write b d).2) ∧ TwS B p b (.slice (some ⟨g, o, none⟩) l.length cp) l w w2.heap.size 0 (st.1.write b d).1 w2' ∧ Keep2 p w2.heap.size W' w2') (fun e w2' ⟨h1, h2, h3⟩ => ⟨h1, h.chip h2 h3, .of_fr h3⟩))
      have HFIN : Hid (∀ W', TwS B p b (.slice (some ⟨g, o, none⟩) l.length cp) l w w2.heap.size (pStepW b st d).2 (pStepW b st d).1 W' → Keep2 p w2.heap.size W W' → KeepsOthers W W' ∧ KpC WL.heap.size (WL.heap.size + 1) W W' ∧ (TwS B p b (.slice (some ⟨g, o, none⟩) l.length cp) l w w2.heap.size (ckSt b l st0 (pre ++ [⟨k, hkx⟩])).2 (ckSt b l st0 (pre ++ [⟨k, hkx⟩])).1 W' ∧ WL.heap.size + 2 ≤ W'.heap.size)) := by
        intro W' h1 h2
        refine ⟨h2.others hpc hxc, ⟨h2.block _ (by omega) (by omega) (by omega), h2.block _ (by omega) (by omega) (by omega)⟩, ?_, Nat.le_trans hWs h2.size⟩
        rw [hnx]
        exact h1
      clear hen hpc hxc hnx hbc hby hT
      simp only [hm]
      by_cases hs0 : st.2 = 0
      · rw [hs0] at HBY
        have hps : pStepW b st d = st.1.write b d := if_pos hs0
        rw [hps] at HFIN
        generalize st.1.write b d = st' at *
        have hform := errV_form st'.2
        have HSTO : Hid (∀ x7 c W, TwS B p b (.slice (some ⟨g, o, none⟩) l.length cp) l w x7 0 c W → TwS B p b (.slice (some ⟨g, o, none⟩) l.length cp) l w x7 st'.2 c (W.setCell ⟨x7, 0, none⟩ (errV st'.2))) := fun x7 c W h => h.store st'.2
        obtain ⟨ev, hev⟩ : ∃ ev, errV st'.2 = ev := ⟨_, rfl⟩
        rw [hev] at HWR HSTO hform
        clear hev
        rcases hform with rfl | ⟨ek', rfl⟩
        all_goals
          gi_wp2_with (first
            | (refine ⟨trivial, ?_⟩; gi_at_call 24; refine (CallsIn.inRound l0 (callsIn_wide.2 HBY.out)).mono ?_; rintro e4 w4 ⟨rfl, ht4, hk4⟩; have HT4 := Lib.hid ht4; have HK4 := Lib.hid hk4; have q7 := ht4.b7.cell 0; simp at q7; rw [show errV 0 = Value.nilIface from rfl] at q7; have q0 := ht4.cells.1; have q1 := ht4.cells.2.1; clear ht4 hk4)
            | (refine ⟨trivial, ?_⟩; gi_at_call 33; refine (CallsIn.inRound l0 (callsIn_wide.2 (HWR.out _ HT4.out))).mono ?_; rintro e5 w5 ⟨rfl, ht5, hk5⟩; have HT5 := Lib.hid (HSTO.out _ _ _ ht5); have HK5 := Lib.hid (fun u => HK4.out.trans (hk5.trans (Keep2.set w5 u))); have r7 := ht5.b7.cell 0; have r8 := ht5.b7.frozen 0; simp at r7; clear ht5 hk5))
          exact HFIN.out _ HT5.out (HK5.out _)
      · have hps : pStepW b st d = st := if_neg hs0
        rw [hps] at HFIN
        have he : errV st.2 = .iface 107 (.int .i64 st.2) := by unfold errV; rw [if_neg hs0]
        have HE := Lib.hid he
        clear he
        gi_wp2_with (refine ⟨trivial, ?_⟩; gi_at_call 24; refine (CallsIn.inRound l0 (callsIn_wide.2 HBY.out)).mono ?_; rintro e4 w4 ⟨rfl, ht4, hk4⟩; have HT4 := Lib.hid ht4; have HK4 := Lib.hid hk4; have q7 := ht4.b7.cell 0; simp at q7; rw [HE.out] at q7; have q0 := ht4.cells.1; have q1 := ht4.cells.2.1; clear ht4 hk4)
        exact HFIN.out _ HT4.out HK4.out
    case done =>
      rintro D xs W hD ⟨k, hk, rfl⟩ ⟨hT, _⟩ hK
      have hend : ckSt b l st0 (ckUpto 2 l.length k) = tabWrite c b l := by
        rw [HTW.out]
        exact ckSt_all b l st0 hk
      rw [hend] at hT
      have q7 := hT.b7.cell 0
      have q6 := hT.b6.cell 0
      have q6f := hT.b6.frozen 0
      have q6l := hT.b6.lt
      simp at q7 q6
      obtain ⟨ev, hev⟩ : ∃ ev, errV (tabWrite c b l).2 = ev := ⟨_, rfl⟩
      have hform := errV_form (tabWrite c b l).2
      have HTD := Lib.hid (hT.last (D := D) (by omega) hK rfl)
      have HKD : Hid (∀ u, (W.setCell ⟨w.heap.size + 1 + 1, 0, none⟩ u).heap[D]? = some (.deferred (some []))) := fun u => (Below.heap_setCell _ _ _ _ (fun e => by
        have e : D = w.heap.size + 1 + 1 := e
        rw [e, show W.heap[w.heap.size + 1 + 1]? = some (.cells #[.nilIface] 44 (0, 0)) from hT.b6] at hK
        cases hK)).trans hK
      rw [hev] at hform q7
      have HEV2 := Lib.hid hev
      clear hend hK hT HTW hev
      rcases hform with rfl | ⟨ek', rfl⟩
      · have hc := (HTD.out .nilIface (.deferred none)).2.2
        go_wp2_with fail
        refine ⟨by simp, .inl ⟨_, _, rfl, run_takeDeferred (HKD.out _), ?_⟩⟩
        exact ⟨.nilIface, by simp [results, Try.results46, go_sem, hc], by rw [HEV2.out], (HTD.out _ _).1, (HTD.out _ _).2.1⟩
      · have hc := (HTD.out (.iface 107 (.int .i64 ek')) (.deferred none)).2.2
        go_wp2_with fail
        refine ⟨by simp, .inl ⟨_, _, rfl, run_takeDeferred (HKD.out _), ?_⟩⟩
        exact ⟨.iface 107 (.int .i64 ek'), by simp [results, Try.results46, go_sem, hc], by rw [HEV2.out], (HTD.out _ _).1, (HTD.out _ _).2.1⟩
    case stop =>
      rintro D c pre W _ _ h _
      exact h.elim
  · have hTL : TwS B p b (.slice (some ⟨g, o, none⟩) l.length cp) l w w2.heap.size st0.2 st0.1 ((WL.alloc (.cells #[(.slice (some ⟨g, o, none⟩) l.length cp)] 22)).alloc (.cells #[.int .i64 2] 3)) := (HTA.out.alloc _).alloc _
    have HTL := Lib.hid hTL
    have hsL : w.heap.size + 1 + 1 < WL.heap.size := by have := HTA.out.b7.lt; have := HTA.out.lt; omega
    have hsL2 : w2.heap.size < WL.heap.size := HTA.out.b7.lt
    have HBs : Blk ((WL.alloc (.cells #[(.slice (some ⟨g, o, none⟩) l.length cp)] 22)).alloc (.cells #[.int .i64 2] 3)) WL.heap.size 22 #[(.slice (some ⟨g, o, none⟩) l.length cp)] := (Blk.new WL _ _).alloc _
    have HBn : Blk ((WL.alloc (.cells #[(.slice (some ⟨g, o, none⟩) l.length cp)] 22)).alloc (.cells #[.int .i64 2] 3)) (WL.heap.size + 1) 3 #[.int .i64 (2 : Nat)] := by
      have := Blk.new (WL.alloc (.cells #[(.slice (some ⟨g, o, none⟩) l.length cp)] 22)) 3 #[.int .i64 2]
      simpa using this
    have hps : ((WL.alloc (.cells #[(.slice (some ⟨g, o, none⟩) l.length cp)] 22)).alloc (.cells #[.int .i64 2] 3)).heap.size = WL.heap.size + 2 := by simp
    generalize hWW : ((WL.alloc (.cells #[(.slice (some ⟨g, o, none⟩) l.length cp)] 22)).alloc (.cells #[.int .i64 2] 3)) = WW at *
    clear hWW hTL HCH HTA
    refine (wpIn_wide (n := 6)).1 ?_
    refine wpIn_rangeFunc_ownF (n := 6) rfl (by decide) (gf := 100) (lb := #[.pointer (some ⟨WL.heap.size, 0, none⟩), .pointer (some ⟨WL.heap.size + 1, 0, none⟩)]) rfl trivial (enters_of Try.func100 (by kernel_rfl) rfl)
      (chunk_stops 5 (by decide) WL.heap.size (WL.heap.size + 1) g o l.length cp 2 (some ⟨g, o, none⟩) (fun _ => rfl) (by decide) (by decide) (by omega) hc1 hc2 WW HBs HBn) kpc_t (fun W k o o' hk _ _ _ => kpc_b (Bs := WL.heap.size) (Bn := WL.heap.size + 1) W k o' (by omega) (by omega)) (Below.refl _ _) (fun _ => rfl)
      (fun pre W => TwS B p b (.slice (some ⟨g, o, none⟩) l.length cp) l w w2.heap.size (ckSt b l st0 pre).2 (ckSt b l st0 pre).1 W ∧ WL.heap.size + 2 ≤ W.heap.size) (fun _ _ _ => False)
      (fun s A' B' row hs hg hr => ⟨hs.1.grown hg hr (by omega), Nat.le_trans hs.2 hg.size⟩) (fun _ _ _ _ _ h _ _ => h) ⟨HTL.out, by omega⟩ ?a3 ?assign ?body ?done ?stop
    case assign =>
      intro l0 x W K hK
      simp only [ckVal]
      gi_wp2
      exact hK
    case body =>
      rintro l0 pre ⟨k, hkx⟩ W ⟨hT, hWs⟩ _
      obtain ⟨m, hm⟩ : ∃ m, min 2 (l.length - 2 * k) = m := ⟨_, rfl⟩
      have hen := ents_chunk (nn := 2) (k := k) hT.ents
      rw [hm] at hen
      have hpc : ∃ cs T fz, W.heap[p]? = some (.cells cs T fz) := by obtain ⟨V, u, hv, _⟩ := hT.rep; exact ⟨_, _, _, hv.blk⟩
      have hxc : ∃ cs T fz, W.heap[w2.heap.size]? = some (.cells cs T fz) := ⟨_, _, _, hT.b7⟩
      have HPC := Lib.hid hpc
      have HXC := Lib.hid hxc
      have hpw := hT.hp
      have hnx : ckSt b l st0 (pre ++ [⟨k, hkx⟩]) = pStepW b (ckSt b l st0 pre) (bytesL (ckList 2 l k).length (ckList 2 l k)) := by simp [ckSt]
      have hbc := bytes_chunk HT.out (q := ckList 2 l k) (fun e he => List.mem_of_mem_drop (List.mem_of_mem_take he)) (by simp [ckList]; omega)
      have hby := bytes_any B _ (ckList 2 l k) W hen (by simp [ckList]; omega)
      have hsz : (bytesL (ckList 2 l k).length (ckList 2 l k)).size ≤ 9223372036854775807 := by
        have hall := chkT_all (tabF_parts HT.out).2.2
        have h1 := bytesL_size (ckList 2 l k).length (ckList 2 l k) (fun e he => hall e (List.mem_of_mem_drop (List.mem_of_mem_take he)))
        have h2 : (ckList 2 l k).length ≤ 2 := by simp [ckList]; omega
        omega
      rw [hbc.1, hbc.2, show errV 0 = Value.nilIface from rfl] at hby
      generalize bytesL (ckList 2 l k).length (ckList 2 l k) = d at *
      have HNX := Lib.hid hnx
      generalize ckSt b l st0 pre = st at *
      have HBY := Lib.hid (hby.mono (R' := fun e w1 => e = .returned (.tuple #[.string d, .nilIface]) ∧ TwS B p b (.slice (some ⟨g, o, none⟩) l.length cp) l w w2.heap.size st.2 st.1 w1 ∧ Keep2 p w2.heap.size W w1) (fun e w1 ⟨h1, h2⟩ => ⟨h1, hT.below h2, .of_below h2⟩))
      have HWR := Lib.hid (fun (W' : World) (h : TwS B p b (.slice (some ⟨g, o, none⟩) l.length cp) l w w2.heap.size 0 st.1 W') => (cwrite_any B p st.1 b d W' h.rep hsz).mono (R' := fun e w2' => e = .returned (errV (st.1.write b d).2) ∧ TwS B p b (.slice (some ⟨g, o, none⟩) l.length cp) l w w2.heap.size 0 (st.1.write b d).1 w2' ∧ Keep2 p w2.heap.size W' w2') (fun e w2' ⟨h1, h2, h3⟩ => ⟨h1, h.chip h2 h3, .of_fr h3⟩))
      have HFIN : Hid (∀ W', TwS B p b (.slice (some ⟨g, o, none⟩) l.length cp) l w w2.heap.size (pStepW b st d).2 (pStepW b st d).1 W' → Keep2 p w2.heap.size W W' → KeepsOthers W W' ∧ KpC WL.heap.size (WL.heap.size + 1) W W' ∧ (TwS B p b (.slice (some ⟨g, o, none⟩) l.length cp) l w w2.heap.size (ckSt b l st0 (pre ++ [⟨k, hkx⟩])).2 (ckSt b l st0 (pre ++ [⟨k, hkx⟩])).1 W' ∧ WL.heap.size + 2 ≤ W'.heap.size)) := by
        intro W' h1 h2
        refine ⟨h2.others hpc hxc, ⟨h2.block _ (by omega) (by omega) (by omega), h2.block _ (by omega) (by omega) (by omega)⟩, ?_, Nat.le_trans hWs h2.size⟩
        rw [hnx]
        exact h1
      clear hen hpc hxc hnx hbc hby hT
      simp only [hm]
      by_cases hs0 : st.2 = 0
      · rw [hs0] at HBY
        have hps : pStepW b st d = st.1.write b d := if_pos hs0
        rw [hps] at HFIN
        generalize st.1.write b d = st' at *
        have hform := errV_form st'.2
        have HSTO : Hid (∀ x7 c W, TwS B p b (.slice (some ⟨g, o, none⟩) l.length cp) l w x7 0 c W → TwS B p b (.slice (some ⟨g, o, none⟩) l.length cp) l w x7 st'.2 c (W.setCell ⟨x7, 0, none⟩ (errV st'.2))) := fun x7 c W h => h.store st'.2
        obtain ⟨ev, hev⟩ : ∃ ev, errV st'.2 = ev := ⟨_, rfl⟩
        rw [hev] at HWR HSTO hform
        clear hev
        rcases hform with rfl | ⟨ek', rfl⟩
        all_goals
          gi_wp2_with (first
            | (refine ⟨trivial, ?_⟩; gi_at_call 24; refine (CallsIn.inRound l0 (callsIn_wide.2 HBY.out)).mono ?_; rintro e4 w4 ⟨rfl, ht4, hk4⟩; have HT4 := Lib.hid ht4; have HK4 := Lib.hid hk4; have q7 := ht4.b7.cell 0; simp at q7; rw [show errV 0 = Value.nilIface from rfl] at q7; have q0 := ht4.cells.1; have q1 := ht4.cells.2.1; clear ht4 hk4)
            | (refine ⟨trivial, ?_⟩; gi_at_call 33; refine (CallsIn.inRound l0 (callsIn_wide.2 (HWR.out _ HT4.out))).mono ?_; rintro e5 w5 ⟨rfl, ht5, hk5⟩; have HT5 := Lib.hid (HSTO.out _ _ _ ht5); have HK5 := Lib.hid (fun u => HK4.out.trans (hk5.trans (Keep2.set w5 u))); have r7 := ht5.b7.cell 0; have r8 := ht5.b7.frozen 0; simp at r7; clear ht5 hk5))
          exact HFIN.out _ HT5.out (HK5.out _)
      · have hps : pStepW b st d = st := if_neg hs0
        rw [hps] at HFIN
        have he : errV st.2 = .iface 107 (.int .i64 st.2) := by unfold errV; rw [if_neg hs0]
        have HE := Lib.hid he
        clear he
        gi_wp2_with (refine ⟨trivial, ?_⟩; gi_at_call 24; refine (CallsIn.inRound l0 (callsIn_wide.2 HBY.out)).mono ?_; rintro e4 w4 ⟨rfl, ht4, hk4⟩; have HT4 := Lib.hid ht4; have HK4 := Lib.hid hk4; have q7 := ht4.b7.cell 0; simp at q7; rw [HE.out] at q7; have q0 := ht4.cells.1; have q1 := ht4.cells.2.1; clear ht4 hk4)
        exact HFIN.out _ HT4.out HK4.out
    case done =>
      rintro D xs W hD ⟨k, hk, rfl⟩ ⟨hT, _⟩ hK
      have hend : ckSt b l st0 (ckUpto 2 l.length k) = tabWrite c b l := by
        rw [HTW.out]
        exact ckSt_all b l st0 hk
      rw [hend] at hT
      have q7 := hT.b7.cell 0
      have q6 := hT.b6.cell 0
      have q6f := hT.b6.frozen 0
      have q6l := hT.b6.lt
      simp at q7 q6
      obtain ⟨ev, hev⟩ : ∃ ev, errV (tabWrite c b l).2 = ev := ⟨_, rfl⟩
      have hform := errV_form (tabWrite c b l).2
      have HTD := Lib.hid (hT.last (D := D) (by omega) hK rfl)
      have HKD : Hid (∀ u, (W.setCell ⟨w.heap.size + 1 + 1, 0, none⟩ u).heap[D]? = some (.deferred (some []))) := fun u => (Below.heap_setCell _ _ _ _ (fun e => by
        have e : D = w.heap.size + 1 + 1 := e
        rw [e, show W.heap[w.heap.size + 1 + 1]? = some (.cells #[.nilIface] 44 (0, 0)) from hT.b6] at hK
        cases hK)).trans hK
      rw [hev] at hform q7
      have HEV2 := Lib.hid hev
      clear hend hK hT HTW hev
      rcases hform with rfl | ⟨ek', rfl⟩
      · have hc := (HTD.out .nilIface (.deferred none)).2.2
        go_wp2_with fail
        refine ⟨by simp, .inl ⟨_, _, rfl, run_takeDeferred (HKD.out _), ?_⟩⟩
        exact ⟨.nilIface, by simp [results, Try.results46, go_sem, hc], by rw [HEV2.out], (HTD.out _ _).1, (HTD.out _ _).2.1⟩
      · have hc := (HTD.out (.iface 107 (.int .i64 ek')) (.deferred none)).2.2
        go_wp2_with fail
        refine ⟨by simp, .inl ⟨_, _, rfl, run_takeDeferred (HKD.out _), ?_⟩⟩
        exact ⟨.iface 107 (.int .i64 ek'), by simp [results, Try.results46, go_sem, hc], by rw [HEV2.out], (HTD.out _ _).1, (HTD.out _ _).2.1⟩
    case stop =>
      rintro D c pre W _ _ h _
      exact h.elim
end Go.Proofs.Ytaepdbkfaoiimab
