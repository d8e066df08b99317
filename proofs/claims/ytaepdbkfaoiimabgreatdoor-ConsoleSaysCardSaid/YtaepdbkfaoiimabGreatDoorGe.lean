/- Several texts of this proof, one behind the other: walks and plain laws that the statement rests on. Conditions: none but those that each lemma names. -/
import Derived.Test.YtaepdbkfaoiimabGreatDoorGc
import Derived.Test.YtaepdbkfaoiimabGreatDoorGd
import Derived.Test.YtaepdbkfaoiimabGreatDoorGa
/- The contracts of manifest.Find and Note. Conditions: none but the sizes of any memory. -/
set_option linter.unusedVariables false
set_option linter.unusedSimpArgs false
namespace Go.Proofs.YtaepdbkfaoiimabGreatDoor
open Go.RowKit

/-- A page is looked at: the newest manifest yet, and in which block. -/
def fStep (b : Int) (st : Man × Int) (s : Sheet) : Man × Int :=
  if s.t then st else match manOf s.d with
    | none => st
    | some m => if st.1.ep < m.ep then (m, b) else st
def findM (c : Chip) : Man × Int := (c.b 1).l.foldl (fStep 1) ((c.b 0).l.foldl (fStep 0) (Man.zero, -1))
def findR (c : Chip) : Man × Int × Nat := if c.down then (Man.zero, 0, 9) else if (findM c).2 < 0 then (Man.zero, 0, 4) else ((findM c).1, (findM c).2, 0)
/-- A manifest in a variable. -/
def ManB (B : Nat) (w : World) (g : Nat) (m : Man) : Prop := ∃ A1 c1 A2 c2, Blk w g 74 #[.int .i64 m.ep, .int .i64 m.log, .slice A1 m.nw.length c1, .slice A2 m.od.length c2] ∧ Ints B w (.slice A1 m.nw.length c1) m.nw ∧ Ints B w (.slice A2 m.od.length c2) m.od
theorem ManB.below {B g : Nat} {w w' : World} {m : Man} (h : ManB B w g m) (hb : Below w.heap.size w w') : ManB B w' g m := by
  obtain ⟨A1, c1, A2, c2, h1, h2, h3⟩ := h
  exact ⟨A1, c1, A2, c2, h1.below hb h1.lt, h2.below hb, h3.below hb⟩
theorem ManB.drewN {B g : Nat} {w : World} {m : Man} (h : ManB B w g m) (n : Nat) : ManB B (w.drewN n) g m := h
/-- A manifest is stored into another variable. -/
theorem ManB.store {B g : Nat} {w : World} {m : Man} {cs : Array Value} {A1 A2 : Option Addr} {c1 c2 : Nat} {a0 a1 a2 a3 : Value} (hb : Blk w g 74 #[a0, a1, a2, a3]) (hB : B ≤ g) (h2 : Ints B w (.slice A1 m.nw.length c1) m.nw) (h3 : Ints B w (.slice A2 m.od.length c2) m.od) :
    ManB B ((((w.setCell ⟨g, 0, none⟩ (.int .i64 m.ep)).setCell ⟨g, 1, none⟩ (.int .i64 m.log)).setCell ⟨g, 2, none⟩ (.slice A1 m.nw.length c1)).setCell ⟨g, 3, none⟩ (.slice A2 m.od.length c2)) g m := by
  have k : ∀ {v : Value} {l : List Int}, Ints B w v l → ∀ b0 b1 b2 b3, Ints B ((((w.setCell ⟨g, 0, none⟩ b0).setCell ⟨g, 1, none⟩ b1).setCell ⟨g, 2, none⟩ b2).setCell ⟨g, 3, none⟩ b3) v l := fun h b0 b1 b2 b3 =>
    Rd.far' (Rd.far' (Rd.far' (Rd.far' h hb hB (by decide) _) (hb.set_ 0 _) hB (by decide) _) ((hb.set_ 0 _).set_ 1 _) hB (by decide) _) (((hb.set_ 0 _).set_ 1 _).set_ 2 _) hB (by decide) _
  exact ⟨A1, c1, A2, c2, store4 hb _ _ _ _, k h2 _ _ _ _, k h3 _ _ _ _⟩
theorem eql_err (a b : Int) (w : World) : (binOp .eql 25 (.iface 39 (.int .i64 a)) (.iface 39 (.int .i64 b))).run Tryz.prog w = .ok (.bool (a == b)) w := by kernel_rfl
theorem eql_nilerr (b : Int) (w : World) : (binOp .eql 25 .nilIface (.iface 39 (.int .i64 b))).run Tryz.prog w = .ok (.bool false) w := by kernel_rfl
theorem neq_err (a b : Int) (w : World) : (binOp .neq 25 (.iface 39 (.int .i64 a)) (.iface 39 (.int .i64 b))).run Tryz.prog w = .ok (.bool (!(a == b))) w := by kernel_rfl
theorem neq_nilerr (b : Int) (w : World) : (binOp .neq 25 .nilIface (.iface 39 (.int .i64 b))).run Tryz.prog w = .ok (.bool true) w := by kernel_rfl
theorem guard_err (x y : Operand) (a b : Int) (w : World) : (eqGuard .eql 25 x y (.iface 39 (.int .i64 a)) (.iface 39 (.int .i64 b))).run Tryz.prog w = .ok () w := by kernel_rfl
theorem guard_nilerr (x y : Operand) (b : Int) (w : World) : (eqGuard .eql 25 x y .nilIface (.iface 39 (.int .i64 b))).run Tryz.prog w = .ok () w := by kernel_rfl
theorem guardn_err (x y : Operand) (a b : Int) (w : World) : (eqGuard .neq 25 x y (.iface 39 (.int .i64 a)) (.iface 39 (.int .i64 b))).run Tryz.prog w = .ok () w := by kernel_rfl
theorem guardn_nilerr (x y : Operand) (b : Int) (w : World) : (eqGuard .neq 25 x y .nilIface (.iface 39 (.int .i64 b))).run Tryz.prog w = .ok () w := by kernel_rfl
attribute [local go_sem ↓] eql_err eql_nilerr neq_err neq_nilerr guard_err guard_nilerr guardn_err guardn_nilerr
theorem take_some {l : List Sheet} {k : Nat} {s : Sheet} (h : l[k]? = some s) (f : Man × Int → Sheet → Man × Int) (a : Man × Int) : (l.take (k + 1)).foldl f a = f ((l.take k).foldl f a) s := by
  have hk : k < l.length := by
    rcases Nat.lt_or_ge k l.length with h' | h'
    · exact h'
    · rw [List.getElem?_eq_none h'] at h; cases h
  rw [List.take_succ_eq_append_getElem hk, List.foldl_append]
  rw [List.getElem?_eq_getElem hk] at h
  injection h with h
  rw [h]
  rfl
theorem take_none {l : List Sheet} {k : Nat} (h : l[k]? = none) : l.take (k + 1) = l.take k := by
  have : l.length ≤ k := by simpa using h
  rw [List.take_of_length_le (by omega), List.take_of_length_le this]
set_option maxRecDepth 20000 in
set_option maxHeartbeats 8000000 in
theorem find_any (B p : Nat) (c : Chip) (w : World) (h : ChipR B w p c) :
    Calls Tryz.prog 47 #[.pointer (some ⟨p, 0, none⟩)] w fun e w' => ∃ v, e = .returned (.tuple #[v, .int .i64 (findR c).2.1, errV (findR c).2.2]) ∧ ManV B w' v (findR c).1 ∧ Below w.heap.size w w' := by
  have fin : ∀ (wr : World) (tmps : Array Value) (m : Man) (at_ : Int) (f : Nat), findR c = (m, at_, f) → Below w.heap.size w wr → ManB B wr w.heap.size m → tmps[2]? = some (.pointer (some ⟨w.heap.size, 0, none⟩)) → tmps[3]? = some (.int .i64 at_) → tmps[4]? = some (errV f) →
      bodyPost Tryz.prog Tryz.f47 (fun e w' => ∃ v, e = .returned (.tuple #[v, .int .i64 (findR c).2.1, errV (findR c).2.2]) ∧ ManV B w' v (findR c).1 ∧ Below w.heap.size w w') .ret { tmps := tmps, defers := [] } wr := by
    rintro wr tmps m at_ f e hb ⟨A1, c1, A2, c2, hk, h2, h3⟩ t2 t3 t4
    have y0 := hk.cell 0
    have y1 := hk.cell 1
    have y2 := hk.cell 2
    have y3 := hk.cell 3
    simp at y0 y1 y2 y3
    rw [e]
    refine bodyPost_ret (v := .tuple #[.agg #[.int .i64 m.ep, .int .i64 m.log, .slice A1 m.nw.length c1, .slice A2 m.od.length c2], .int .i64 at_, errV f]) (by simp [results, Tryz.results47, go_sem, t2, t3, t4, y0, y1, y2, y3]) rfl ⟨_, rfl, ⟨_, _, rfl, h2, h3⟩, hb⟩
  have FIN := Lib.hid fin
  clear fin
  have HR := Lib.hid h
  have hB0 : B ≤ w.heap.size := by obtain ⟨V, u, hv, _⟩ := h; have := hv.base; have := hv.blk.lt; omega
  cases hd : c.down
  · have HFR : Hid (findR c = if (findM c).2 < 0 then (Man.zero, 0, 4) else ((findM c).1, (findM c).2, 0)) := by rw [Hid, findR, hd, if_neg (by simp)]
    have HRD : Hid (∀ (b k : Nat), b < 2 → k < 8 → c.read b k = match (c.b b).l[k]? with
          | none => (ByteArray.empty, 5)
          | some s => if s.t then (ByteArray.empty, 4) else (s.d, 0)) := by
      intro b k hb hk
      unfold Chip.read
      rw [hd, if_neg (by simp), if_neg (by omega), Int.toNat_natCast, Int.toNat_natCast]
      try rfl
    have HWF := Lib.hid h.wf
    clear h hd
    go_enter Tryz.func47, Tryz.ntmps47
    go_wp2_with fail
    have hz : ∀ (w : World) (g : Nat), Blk w g 74 #[.int .i64 0, .int .i64 0, .slice none 0 0, .slice none 0 0] → ManB B w g Man.zero := fun w g hb => ⟨none, 0, none, 0, hb, Rd.nil _ _ _ _, Rd.nil _ _ _ _⟩
    have HZ := Lib.hid hz
    have hb2 : Below w.heap.size w ((w.alloc (.cells #[.int .i64 0, .int .i64 0, .slice none 0 0, .slice none 0 0] 74)).alloc (.cells #[.int .i64 0, .int .i64 0, .slice none 0 0, .slice none 0 0] 74)) := ((Below.refl _ _).alloc (Nat.le_refl _) _).alloc (by simp) _
    have hr2 : Blk ((w.alloc (.cells #[.int .i64 0, .int .i64 0, .slice none 0 0, .slice none 0 0] 74)).alloc (.cells #[.int .i64 0, .int .i64 0, .slice none 0 0, .slice none 0 0] 74)) w.heap.size 74 #[.int .i64 0, .int .i64 0, .slice none 0 0, .slice none 0 0] := (Blk.new w _ _).alloc _
    have hg2 : Blk ((w.alloc (.cells #[.int .i64 0, .int .i64 0, .slice none 0 0, .slice none 0 0] 74)).alloc (.cells #[.int .i64 0, .int .i64 0, .slice none 0 0, .slice none 0 0] 74)) (w.heap.size + 1) 74 #[.int .i64 0, .int .i64 0, .slice none 0 0, .slice none 0 0] := by
      have := Blk.new (w.alloc (.cells #[.int .i64 0, .int .i64 0, .slice none 0 0, .slice none 0 0] 74)) 74 #[.int .i64 0, .int .i64 0, .slice none 0 0, .slice none 0 0]
      rw [World.size_alloc] at this
      exact this
    have HB2 := Lib.hid hb2
    have HR2 := Lib.hid hr2
    have HG2 := Lib.hid (hz _ _ hg2)
    clear hb2 hr2 hg2 hz
    go_loopw [6, 12] (fun a b wr => ∃ (bb : Nat) (st : Man × Int), bb ≤ 2 ∧ b = .int .i64 (bb : Int) ∧ a = .int .i64 st.2 ∧ Hid (st = (((List.range 2).take bb).foldl (fun st i => (c.b i).l.foldl (fStep i) st) (Man.zero, -1))) ∧ Hid (Blk wr w.heap.size 74 #[.int .i64 0, .int .i64 0, .slice none 0 0, .slice none 0 0]) ∧ Hid (ManB B wr (w.heap.size + 1) st.1) ∧ Below w.heap.size w wr) (fun _ b _ => 2 - (intOf b).toNat)
    case atStart => exact ⟨0, (Man.zero, -1), by omega, rfl, rfl, rfl, HR2.out, HG2.out, HB2.out⟩
    case round =>
      obtain ⟨bb, st, hbb, rfl, rfl, hst, hres, hbest, hbl⟩ := hrel
      by_cases hlt : bb < 2
      · obtain ⟨wo, rfl⟩ : ∃ wo : World, wo = wr := ⟨_, rfl⟩
        have t13 : decide ((bb : Int) < 2) = true := decide_eq_true (by omega)
        go_wp2_with fail
        go_loopw [6, 15] (fun a q wr => ∃ (k : Nat) (st' : Man × Int), k ≤ 8 ∧ q = .int .i64 (k : Int) ∧ a = .int .i64 st'.2 ∧ Hid (st' = ((c.b bb).l.take k).foldl (fStep bb) st) ∧ Hid (Blk wr w.heap.size 74 #[.int .i64 0, .int .i64 0, .slice none 0 0, .slice none 0 0]) ∧ Hid (ManB B wr (w.heap.size + 1) st'.1) ∧ Below w.heap.size w wr) (fun _ q _ => 8 - (intOf q).toNat)
        case atStart => exact ⟨0, st, by omega, rfl, rfl, rfl, hres.out, hbest.out, hbl⟩
        case round =>
          obtain ⟨k, st', hk, rfl, rfl, hst', hres', hbest', hbl'⟩ := hrel
          by_cases hk8 : k < 8
          · have t16 : decide ((k : Int) < 8) = true := decide_eq_true (by omega)
            have hread := HRD.out bb k hlt hk8
            have hrc := cread_any B p c bb k wr (HR.out.below hbl')
            rw [hread] at hrc
            cases hs : (c.b bb).l[k]? with
            | none =>
              rw [hs] at hrc
              rw [show errV 5 = .iface 39 (.int .i64 5) from rfl] at hrc
              have HC := Lib.hid hrc
              have HT := Lib.hid (take_none hs)
              clear hread hrc hs
              go_wp2_with (go_at_call 51; refine HC.out.mono ?_; rintro e w5 ⟨rfl, rfl⟩)
              go_roundw
              case rel => exact ⟨k + 1, st', by omega, by go_num, rfl, by rw [Hid, HT.out]; exact hst'.out, hres'.out, hbest'.out, hbl'⟩
              case measure => simp [intOf] <;> omega
            | some s =>
              have hts := take_some hs (fStep bb) st
              rw [← hst'.out] at hts
              cases ht : s.t
              · have hsz := HWF.out.size bb (by omega) s (List.mem_of_getElem? hs) ht
                rw [hs] at hrc
                simp only [ht, Bool.false_eq_true, if_false] at hrc
                rw [show errV 0 = Value.nilIface from rfl] at hrc
                have HC := Lib.hid hrc
                have HTS := Lib.hid hts
                have HHT := Lib.hid ht
                have hp := mparse_any B s.d wr (by omega)
                have HP := Lib.hid hp
                clear hread hrc hs hts ht hp
                cases hm : manOf s.d with
                | none =>
                  have he : merr s.d = 4 := by rw [merr, if_pos hm]
                  rw [he, show errV 4 = .iface 39 (.int .i64 4) from rfl, hm] at HP
                  have HF : Hid (((c.b bb).l.take (k + 1)).foldl (fStep bb) st = st') := by rw [Hid, HTS.out, fStep, HHT.out, if_neg (by simp), hm]
                  clear he hm
                  go_wp2_with (go_at_call 51; refine HC.out.mono ?_; rintro e w5 ⟨rfl, rfl⟩)
                  refine HP.out.mono ?_
                  rintro e w6 ⟨v6, rfl, ⟨vn, vo, rfl, hn, ho⟩, hb6⟩
                  obtain ⟨A1, c1, rfl, _, _, kX⟩ := hn.form
                  obtain ⟨A2, c2, rfl, _, _, kY⟩ := ho.form
                  have HR6 := Lib.hid (hres'.out.below hb6 hres'.out.lt)
                  have HG6 := Lib.hid (hbest'.out.below hb6)
                  have HB6 := Lib.hid (hbl'.trans (hb6.mono hbl'.size))
                  clear kX kY hn ho hb6
                  have HZB : Hid (Below w6.heap.size w6 (w6.alloc (.cells #[.int .i64 Man.zero.ep, .int .i64 Man.zero.log, .slice A1 Man.zero.nw.length c1, .slice A2 Man.zero.od.length c2] 74))) := (Below.refl _ _).alloc (Nat.le_refl _) _
                  go_wp2_with fail
                  go_roundw
                  case rel => exact ⟨k + 1, st', by omega, by go_num, rfl, HF.out.symm, HR6.out.below HZB.out HR6.out.lt, HG6.out.below HZB.out, HB6.out.trans (HZB.out.mono HB6.out.size)⟩
                  case measure => simp [intOf] <;> omega
                | some m =>
                  have he : merr s.d = 0 := by rw [merr, if_neg (by rw [hm]; simp)]
                  rw [he, show errV 0 = Value.nilIface from rfl, hm] at HP
                  have HF0 : Hid (((c.b bb).l.take (k + 1)).foldl (fStep bb) st = if st'.1.ep < m.ep then (m, (bb : Int)) else st') := by
                    rw [Hid, HTS.out, fStep, HHT.out, if_neg (by simp), hm]
                  clear he hm
                  go_wp2_with (go_at_call 51; refine HC.out.mono ?_; rintro e w5 ⟨rfl, rfl⟩)
                  refine HP.out.mono ?_
                  rintro e w6 ⟨v6, rfl, ⟨vn, vo, rfl, hn, ho⟩, hb6⟩
                  simp only [Option.getD_some] at hn ho ⊢
                  obtain ⟨A1, c1, rfl, _, _, kX⟩ := hn.form
                  obtain ⟨A2, c2, rfl, _, _, kY⟩ := ho.form
                  have HR6 := Lib.hid (hres'.out.below hb6 hres'.out.lt)
                  obtain ⟨A3, c3, A4, c4, hg, hg2, hg3⟩ := hbest'.out.below hb6
                  have HB6 := Lib.hid (hbl'.trans (hb6.mono hbl'.size))
                  have HN6 := Lib.hid hn
                  have HO6 := Lib.hid ho
                  have HG := Lib.hid hg
                  have HG2 := Lib.hid hg2
                  have HG3 := Lib.hid hg3
                  have hgl := hg.lt
                  have y0 := hg.cell 0
                  have y1 := hg.cell 1
                  have y2 := hg.cell 2
                  have y3 := hg.cell 3
                  simp at y0 y1 y2 y3
                  have f0 := hg.frozen 0
                  have f1 := hg.frozen 1
                  have f2 := hg.frozen 2
                  have f3 := hg.frozen 3
                  clear kX kY hn ho hb6 hg hg2 hg3
                  by_cases hlt2 : st'.1.ep < m.ep
                  · have t44 : decide (st'.1.ep < m.ep) = true := decide_eq_true hlt2
                    have HF : Hid (((c.b bb).l.take (k + 1)).foldl (fStep bb) st = (m, (bb : Int))) := by rw [Hid, HF0.out, if_pos hlt2]
                    clear hlt2
                    go_wp2_with fail
                    go_roundw
                    case rel =>
                      have hB1 : B ≤ w.heap.size + 1 := by omega
                      have hs1 := ManB.store (cs := #[]) HG.out hB1 HN6.out HO6.out
                      have hb1 := below4 (g := w.heap.size + 1) HB6.out (by omega) (.int .i64 m.ep) (.int .i64 m.log) (.slice A1 m.nw.length c1) (.slice A2 m.od.length c2)
                      have hr1 := blk_far4 (g' := w.heap.size + 1) HR6.out (by omega) (.int .i64 m.ep) (.int .i64 m.log) (.slice A1 m.nw.length c1) (.slice A2 m.od.length c2)
                      exact ⟨k + 1, (m, (bb : Int)), by omega, by go_num, rfl, HF.out.symm, hr1.alloc _, hs1.below ((Below.refl _ _).alloc (Nat.le_refl _) _), hb1.alloc hb1.size _⟩
                    case measure => simp [intOf] <;> omega
                  · have t44 : decide (st'.1.ep < m.ep) = false := decide_eq_false hlt2
                    have HF : Hid (((c.b bb).l.take (k + 1)).foldl (fStep bb) st = st') := by rw [Hid, HF0.out, if_neg hlt2]
                    clear hlt2
                    go_wp2_with fail
                    go_roundw
                    case rel => exact ⟨k + 1, st', by omega, by go_num, rfl, HF.out.symm, HR6.out.alloc _, ManB.below ⟨A3, c3, A4, c4, HG.out, HG2.out, HG3.out⟩ ((Below.refl _ _).alloc (Nat.le_refl _) _), HB6.out.alloc HB6.out.size _⟩
                    case measure => simp [intOf] <;> omega
              · rw [hs] at hrc
                simp only [ht, if_true] at hrc
                rw [show errV 4 = .iface 39 (.int .i64 4) from rfl] at hrc
                have HC := Lib.hid hrc
                have HT : Hid (((c.b bb).l.take (k + 1)).foldl (fStep bb) st = st') := by rw [Hid, hts, fStep, ht, if_pos rfl]
                clear hread hrc hs hts ht
                go_wp2_with (go_at_call 51; refine HC.out.mono ?_; rintro e w5 ⟨rfl, rfl⟩)
                go_roundw
                case rel => exact ⟨k + 1, st', by omega, by go_num, rfl, HT.out.symm, hres'.out, hbest'.out, hbl'⟩
                case measure => simp [intOf] <;> omega
          · have hk8' : k = 8 := by omega
            subst hk8'
            have hlen := HWF.out.len bb (by omega)
            have t16 : decide (((8 : Nat) : Int) < 8) = false := by decide
            have HF : Hid (st' = (((List.range 2).take (bb + 1)).foldl (fun st i => (c.b i).l.foldl (fStep i) st) (Man.zero, -1))) := by
              have h1 := hst'.out
              rw [List.take_of_length_le hlen] at h1
              have e : (List.range 2).take (bb + 1) = (List.range 2).take bb ++ [bb] := by
                have : bb = 0 ∨ bb = 1 := by omega
                rcases this with rfl | rfl <;> rfl
              rw [Hid, e, List.foldl_append, ← hst.out, h1]
              rfl
            go_wp2_with fail
            go_roundw
            case rel => exact ⟨bb + 1, st', by omega, by go_num, rfl, HF.out, hres'.out, hbest'.out, hbl'⟩
            case measure => simp [intOf] <;> omega
      · have hb2 : bb = 2 := by omega
        subst hb2
        have HST : Hid (st = findM c) := hst.out
        have hr := hres.out
        have r0 := hr.cell 0
        have r1 := hr.cell 1
        have r2 := hr.cell 2
        have r3 := hr.cell 3
        simp at r0 r1 r2 r3
        have e0 := hr.frozen 0
        have e1 := hr.frozen 1
        have e2 := hr.frozen 2
        have e3 := hr.frozen 3
        obtain ⟨A3, c3, A4, c4, hg, hg2, hg3⟩ := hbest.out
        have HG := Lib.hid hg
        have HG2 := Lib.hid hg2
        have HG3 := Lib.hid hg3
        have y0 := hg.cell 0
        have y1 := hg.cell 1
        have y2 := hg.cell 2
        have y3 := hg.cell 3
        simp at y0 y1 y2 y3
        have HRR := Lib.hid hr
        clear hr hg hg2 hg3 hst
        by_cases hneg : st.2 < 0
        · have t51 : decide (st.2 < 0) = true := decide_eq_true hneg
          have HF : Hid (findR c = (Man.zero, 0, 4)) := by rw [Hid, HFR.out, ← HST.out, if_pos hneg]
          clear hneg
          go_wp2_with fail
          exact FIN.out _ _ Man.zero 0 4 HF.out (below4 hbl (Nat.le_refl _) _ _ _ _) (HZ.out _ _ (store4 HRR.out _ _ _ _)) rfl rfl rfl
        · have t51 : decide (st.2 < 0) = false := decide_eq_false hneg
          have HF : Hid (findR c = (st.1, st.2, 0)) := by rw [Hid, HFR.out, ← HST.out, if_neg hneg]
          clear hneg
          go_wp2_with fail
          exact FIN.out _ _ st.1 st.2 0 HF.out (below4 hbl (Nat.le_refl _) _ _ _ _) (ManB.store (cs := #[]) HRR.out hB0 HG2.out HG3.out) rfl rfl rfl
  · have hread : c.read 0 0 = (ByteArray.empty, 9) := by unfold Chip.read; rw [hd, if_pos rfl]
    have HF : Hid (findR c = (Man.zero, 0, 9)) := by rw [Hid, findR, hd, if_pos rfl]
    have hb2 : Below w.heap.size w ((w.alloc (.cells #[.int .i64 0, .int .i64 0, .slice none 0 0, .slice none 0 0] 74)).alloc (.cells #[.int .i64 0, .int .i64 0, .slice none 0 0, .slice none 0 0] 74)) := ((Below.refl _ _).alloc (Nat.le_refl _) _).alloc (by simp) _
    have hr2 : Blk ((w.alloc (.cells #[.int .i64 0, .int .i64 0, .slice none 0 0, .slice none 0 0] 74)).alloc (.cells #[.int .i64 0, .int .i64 0, .slice none 0 0, .slice none 0 0] 74)) w.heap.size 74 #[.int .i64 0, .int .i64 0, .slice none 0 0, .slice none 0 0] := (Blk.new w _ _).alloc _
    have hrc := cread_any B p c 0 0 _ (h.below hb2)
    rw [hread, show errV (ByteArray.empty, 9).2 = .iface 39 (.int .i64 9) from rfl] at hrc
    have HC := Lib.hid hrc
    have HB2 := Lib.hid hb2
    have HR2 := Lib.hid hr2
    have r0 := hr2.cell 0
    have r1 := hr2.cell 1
    have r2 := hr2.cell 2
    have r3 := hr2.cell 3
    clear h hd hread hrc hb2
    go_enter Tryz.func47, Tryz.ntmps47
    go_wp2_with fail
    refine wp_loop_rounds 1 ?_
    rw [rounds_succ]
    go_wp2_with fail
    refine wp_loop_rounds 1 ?_
    rw [rounds_succ]
    go_wp2_with (go_at_call 51; refine HC.out.mono ?_; rintro e w5 ⟨rfl, rfl⟩)
    exact FIN.out _ _ Man.zero 0 9 HF.out HB2.out ⟨none, 0, none, 0, HR2.out, Rd.nil _ _ _ _, Rd.nil _ _ _ _⟩ rfl rfl rfl
/-- A manifest is noted: the chip, in which block it is, what is wrong. -/
def noteR (c : Chip) (a : Int) (m : Man) : Chip × Int × Nat :=
  if m.fault ≠ 0 then (c, 0, m.fault)
  else if (c.b a.toNat).l.length = 8 then
    if (c.erase (1 - a)).2 ≠ 0 then ((c.erase (1 - a)).1, 0, (c.erase (1 - a)).2)
    else if ((c.erase (1 - a)).1.write (1 - a) m.bytes).2 ≠ 0 then (((c.erase (1 - a)).1.write (1 - a) m.bytes).1, 0, ((c.erase (1 - a)).1.write (1 - a) m.bytes).2)
    else (((c.erase (1 - a)).1.write (1 - a) m.bytes).1, 1 - a, 0)
  else if (c.write a m.bytes).2 ≠ 0 then ((c.write a m.bytes).1, 0, (c.write a m.bytes).2) else ((c.write a m.bytes).1, a, 0)
theorem mbytes_size {m : Man} (h1 : m.nw.length ≤ 1000) (h2 : m.od.length ≤ 1000) : m.bytes.size ≤ 9223372036854775807 := by
  unfold Man.bytes
  rw [strOfNums_size]
  simp
  omega
set_option maxRecDepth 20000 in
set_option maxHeartbeats 8000000 in
theorem note_any (B p : Nat) (c : Chip) (a : Int) (v : Value) (m : Man) (w : World) (h : ChipR B w p c) (ha : a = 0 ∨ a = 1) (hm : ManV B w v m) (h1 : m.nw.length ≤ 1000) (h2 : m.od.length ≤ 1000) :
    Calls Tryz.prog 23 #[.pointer (some ⟨p, 0, none⟩), .int .i64 a, v] w fun e w' => e = .returned (.tuple #[.int .i64 (noteR c a m).2.1, errV (noteR c a m).2.2]) ∧ ChipR B w' p (noteR c a m).1 ∧ Fr B (· = p) w w' := by
  have fin : ∀ (wr : World) (tmps : Array Value) (a' : Int) (f : Nat) (c' : Chip), noteR c a m = (c', a', f) → ChipR B wr p c' → Fr B (· = p) w wr → tmps[6]? = some (.int .i64 a') → tmps[7]? = some (errV f) →
      bodyPost Tryz.prog Tryz.f23 (fun e w' => e = .returned (.tuple #[.int .i64 (noteR c a m).2.1, errV (noteR c a m).2.2]) ∧ ChipR B w' p (noteR c a m).1 ∧ Fr B (· = p) w w') .ret { tmps := tmps, defers := [] } wr := by
    rintro wr tmps a' f c' e hc hf t6 t7
    rw [e]
    exact bodyPost_ret (v := .tuple #[.int .i64 a', errV f]) (by simp [results, Tryz.results23, go_sem, t6, t7]) rfl ⟨rfl, hc, hf⟩
  have FIN := Lib.hid fin
  clear fin
  obtain ⟨vn, vo, rfl, hn, ho⟩ := hm
  obtain ⟨A1, c1, rfl, k1, k2, kX⟩ := hn.form
  obtain ⟨A2, c2, rfl, k3, k4, kY⟩ := ho.form
  have hb0 : Below w.heap.size w (w.alloc (.cells #[.int .i64 m.ep, .int .i64 m.log, .slice A1 m.nw.length c1, .slice A2 m.od.length c2] 74)) := (Below.refl _ _).alloc (Nat.le_refl _) _
  have HBY := Lib.hid (mbytes_any B (.agg #[.int .i64 m.ep, .int .i64 m.log, .slice A1 m.nw.length c1, .slice A2 m.od.length c2]) m _ ⟨_, _, rfl, hn.below hb0, ho.below hb0⟩ h1 h2)
  have HR0 := Lib.hid (h.below hb0)
  have HF0 : Hid (Fr B (· = p) w (w.alloc (.cells #[.int .i64 m.ep, .int .i64 m.log, .slice A1 m.nw.length c1, .slice A2 m.od.length c2] 74))) := Fr.of_below hb0
  have hmsz := mbytes_size h1 h2
  clear kX kY hn ho hb0 h
  by_cases hf : m.fault = 0
  · have hms : mbytesS m = m.bytes := if_pos hf
    rw [hf, hms, show errV 0 = Value.nilIface from rfl] at HBY
    have HN : Hid (noteR c a m = if (c.b a.toNat).l.length = 8 then
        if (c.erase (1 - a)).2 ≠ 0 then ((c.erase (1 - a)).1, 0, (c.erase (1 - a)).2)
        else if ((c.erase (1 - a)).1.write (1 - a) m.bytes).2 ≠ 0 then (((c.erase (1 - a)).1.write (1 - a) m.bytes).1, 0, ((c.erase (1 - a)).1.write (1 - a) m.bytes).2)
        else (((c.erase (1 - a)).1.write (1 - a) m.bytes).1, 1 - a, 0)
      else if (c.write a m.bytes).2 ≠ 0 then ((c.write a m.bytes).1, 0, (c.write a m.bytes).2) else ((c.write a m.bytes).1, a, 0)) := by rw [Hid, noteR, if_neg (by simpa using hf)]
    clear hf hms
    go_enter Tryz.func23, Tryz.ntmps23
    go_wp2_with fail
    refine HBY.out.mono ?_
    rintro e w1 ⟨rfl, hb1⟩
    have HR1 := Lib.hid (HR0.out.below hb1)
    have HF1 := Lib.hid (HF0.out.trans (Fr.of_below hb1) (fun _ _ => trivial))
    have HNX := Lib.hid (next_any B p c a w1 HR1.out (by omega) (by omega))
    clear hb1 HBY
    by_cases h8 : (c.b a.toNat).l.length = 8
    · rw [h8] at HNX
      rw [if_pos h8] at HN
      have HEX := Lib.hid (cerase_any B p c (1 - a) w1 HR1.out)
      have g1 : wrap64 (1 - a) = 1 - a := w64 _ (by omega) (by omega)
      clear h8
      by_cases he : (c.erase (1 - a)).2 = 0
      · rw [if_neg (by simpa using he)] at HN
        rw [he, show errV 0 = Value.nilIface from rfl] at HEX
        clear he
        go_wp2_with (go_at_call 45; refine HNX.out.mono ?_; rintro e w2 ⟨rfl, rfl⟩)
        refine HEX.out.mono ?_
        rintro e w2 ⟨rfl, hr2, hf2⟩
        have HRX := Lib.hid hr2
        have HFX := Lib.hid (HF1.out.trans hf2 (fun _ _ => trivial))
        clear hr2 hf2 HEX HNX
        have HWX := Lib.hid (cwrite_any B p (c.erase (1 - a)).1 (1 - a) m.bytes w2 HRX.out hmsz)
        by_cases hw : (((c.erase (1 - a)).1).write (1 - a) m.bytes).2 = 0
        · rw [if_neg (by simpa using hw)] at HN
          rw [hw, show errV 0 = Value.nilIface from rfl] at HWX
          clear hw
          go_wp2_with fail
          refine HWX.out.mono ?_
          rintro e w3 ⟨rfl, hr3, hf3⟩
          have HR3 := Lib.hid hr3
          have HF3 := Lib.hid (HFX.out.trans hf3 (fun _ _ => trivial))
          clear hr3 hf3 HWX
          go_wp2_with fail
          exact FIN.out _ _ (1 - a) 0 _ HN.out HR3.out HF3.out rfl rfl
        · rw [if_pos hw] at HN
          have hwe : errV (((c.erase (1 - a)).1).write (1 - a) m.bytes).2 = .iface 39 (.int .i64 (((c.erase (1 - a)).1).write (1 - a) m.bytes).2) := if_neg hw
          rw [hwe] at HWX
          have HE := Lib.hid hwe
          clear hw hwe
          go_wp2_with fail
          refine HWX.out.mono ?_
          rintro e w3 ⟨rfl, hr3, hf3⟩
          have HR3 := Lib.hid hr3
          have HF3 := Lib.hid (HFX.out.trans hf3 (fun _ _ => trivial))
          clear hr3 hf3 HWX
          go_wp2_with fail
          exact FIN.out _ _ 0 _ _ HN.out HR3.out HF3.out rfl (by rw [HE.out]; rfl)
      · have hee : errV (c.erase (1 - a)).2 = .iface 39 (.int .i64 (c.erase (1 - a)).2) := if_neg he
        rw [if_pos he] at HN
        rw [hee] at HEX
        have HE := Lib.hid hee
        clear he hee
        go_wp2_with (go_at_call 45; refine HNX.out.mono ?_; rintro e w2 ⟨rfl, rfl⟩)
        refine HEX.out.mono ?_
        rintro e w2 ⟨rfl, hr2, hf2⟩
        have HR2 := Lib.hid hr2
        have HF2 := Lib.hid (HF1.out.trans hf2 (fun _ _ => trivial))
        clear hr2 hf2 HEX HNX
        go_wp2_with fail
        exact FIN.out _ _ 0 _ _ HN.out HR2.out HF2.out rfl (by rw [HE.out]; rfl)
    · rw [if_neg h8] at HN
      have t8 : (((c.b a.toNat).l.length : Int) == 8) = false := by rw [beq_eq_false_iff_ne]; omega
      have HRX := Lib.hid HR1.out
      have HFX := Lib.hid HF1.out
      clear h8
      have HWX := Lib.hid (cwrite_any B p c a m.bytes w1 HRX.out hmsz)
      by_cases hw : ((c).write a m.bytes).2 = 0
      · rw [if_neg (by simpa using hw)] at HN
        rw [hw, show errV 0 = Value.nilIface from rfl] at HWX
        clear hw
        go_wp2_with (go_at_call 45; refine HNX.out.mono ?_; rintro e w2 ⟨rfl, rfl⟩)
        refine HWX.out.mono ?_
        rintro e w3 ⟨rfl, hr3, hf3⟩
        have HR3 := Lib.hid hr3
        have HF3 := Lib.hid (HFX.out.trans hf3 (fun _ _ => trivial))
        clear hr3 hf3 HWX
        go_wp2_with fail
        exact FIN.out _ _ a 0 _ HN.out HR3.out HF3.out rfl rfl
      · rw [if_pos hw] at HN
        have hwe : errV ((c).write a m.bytes).2 = .iface 39 (.int .i64 ((c).write a m.bytes).2) := if_neg hw
        rw [hwe] at HWX
        have HE := Lib.hid hwe
        clear hw hwe
        go_wp2_with (go_at_call 45; refine HNX.out.mono ?_; rintro e w2 ⟨rfl, rfl⟩)
        refine HWX.out.mono ?_
        rintro e w3 ⟨rfl, hr3, hf3⟩
        have HR3 := Lib.hid hr3
        have HF3 := Lib.hid (HFX.out.trans hf3 (fun _ _ => trivial))
        clear hr3 hf3 HWX
        go_wp2_with fail
        exact FIN.out _ _ 0 _ _ HN.out HR3.out HF3.out rfl (by rw [HE.out]; rfl)
  · have he : errV m.fault = .iface 39 (.int .i64 m.fault) := if_neg hf
    have HN : Hid (noteR c a m = (c, 0, m.fault)) := if_pos hf
    rw [he] at HBY
    have HE := Lib.hid he
    clear hf he
    go_enter Tryz.func23, Tryz.ntmps23
    go_wp2_with fail
    refine HBY.out.mono ?_
    rintro e w1 ⟨rfl, hb1⟩
    have HR1 := Lib.hid (HR0.out.below hb1)
    have HF1 := Lib.hid (HF0.out.trans (Fr.of_below hb1) (fun _ _ => trivial))
    clear hb1 HBY
    go_wp2_with fail
    exact FIN.out _ _ 0 m.fault c HN.out HR1.out HF1.out rfl (by rw [HE.out]; rfl)
end Go.Proofs.YtaepdbkfaoiimabGreatDoor
/- Entries are read as they were written, also behind noughts: the plain law. Conditions: those that each law names. -/
set_option linter.unusedVariables false
set_option linter.unusedSimpArgs false
namespace Go.Proofs.YtaepdbkfaoiimabGreatDoor
open Go.RowKit

def entL (e : Ent) : List UInt8 := [UInt8.ofNat (gB e.g).toNat, UInt8.ofNat e.k.size, UInt8.ofNat e.v.size] ++ (e.k.data.toList ++ e.v.data.toList)
theorem data_append_ (a b : ByteArray) : (a ++ b).data.toList = a.data.toList ++ b.data.toList := by
  rw [ByteArray.data_append, Array.toList_append]
theorem entB_data (e : Ent) : (entB e).data.toList = entL e := by
  unfold entB entL
  rw [data_append_, data_append_, strOfNums_data]
  simp
theorem bytesL_data (n : Nat) (l : List Ent) : (bytesL n l).data.toList = UInt8.ofNat n :: l.flatMap entL := by
  induction l using snoc_ind with
  | h0 => simp [bytesL, strOfNums_data]
  | h1 l x ih => rw [bytesL_snoc, data_append_, ih, entB_data]; simp
theorem bt_list {s : ByteArray} {a b : List UInt8} (h : s.data.toList = a ++ b) (j : Nat) : bt s (a.length + j) = (b.getD j 0).toNat := by
  unfold bt
  rw [h, List.getD_eq_getElem?_getD, List.getElem?_append_right (by omega), Nat.add_sub_cancel_left, List.getD_eq_getElem?_getD]
theorem len_data (s : ByteArray) : s.data.toList.length = s.size := Array.length_toList
theorem extract_list (s : ByteArray) (a b : Nat) : (s.extract a b).data.toList = (s.data.toList.drop a).take (b - a) := by
  rw [ByteArray.data_extract, Array.toList_extract, List.extract_eq_take_drop]
theorem ba_eq {a b : ByteArray} (h : a.data.toList = b.data.toList) : a = b := ByteArray.ext (Array.toList_inj.1 h)
theorem entL_len (e : Ent) : (entL e).length = 3 + e.k.size + e.v.size := by simp [entL]; omega
/-- An entry that lies at a place. -/
theorem ent_at {s : ByteArray} {a r : List UInt8} {e : Ent} (h : s.data.toList = a ++ (entL e ++ r)) (hk : e.k.size ≤ 8) (hv : e.v.size ≤ 16) :
    badAt s a.length = false ∧ entAt s a.length = e ∧ bt s (a.length + 1) = e.k.size ∧ bt s (a.length + 2) = e.v.size := by
  have b0 := bt_list h 0
  have b1 := bt_list h 1
  have b2 := bt_list h 2
  have e0 : (entL e ++ r).getD 0 0 = UInt8.ofNat (gB e.g).toNat := rfl
  have e1 : (entL e ++ r).getD 1 0 = UInt8.ofNat e.k.size := rfl
  have e2 : (entL e ++ r).getD 2 0 = UInt8.ofNat e.v.size := rfl
  have f0 : (UInt8.ofNat (gB e.g).toNat).toNat = (gB e.g).toNat := by cases e.g <;> rfl
  have f1 : (UInt8.ofNat e.k.size).toNat = e.k.size := by simp; omega
  have f2 : (UInt8.ofNat e.v.size).toNat = e.v.size := by simp; omega
  rw [e0, f0, Nat.add_zero] at b0
  rw [e1, f1] at b1
  rw [e2, f2] at b2
  have hg : (gB e.g).toNat ≤ 1 := by cases e.g <;> decide
  have hsz : a.length + 3 + e.k.size + e.v.size ≤ s.size := by
    have := congrArg List.length h
    rw [len_data, List.length_append, List.length_append, entL_len] at this
    omega
  refine ⟨?_, ?_, b1, b2⟩
  · simp only [badAt, b0, b1, b2, Bool.or_eq_false_iff, decide_eq_false_iff_not]
    omega
  · have hd : ∀ j, s.data.toList.drop (a.length + j) = (entL e ++ r).drop j := fun j => by
      rw [h, ← List.drop_drop]; simp
    have hkk : s.extract (a.length + 3) (a.length + 3 + bt s (a.length + 1)) = e.k := by
      apply ba_eq
      rw [extract_list, b1, hd 3, show a.length + 3 + e.k.size - (a.length + 3) = e.k.size by omega]
      show ((e.k.data.toList ++ e.v.data.toList) ++ r).take e.k.size = _
      rw [List.append_assoc, List.take_append_of_le_length (by simp), List.take_of_length_le (by simp)]
    have hvv : s.extract (a.length + 3 + bt s (a.length + 1)) (a.length + 3 + bt s (a.length + 1) + bt s (a.length + 2)) = e.v := by
      apply ba_eq
      rw [extract_list, b1, b2, show a.length + 3 + e.k.size + e.v.size - (a.length + 3 + e.k.size) = e.v.size by omega, Nat.add_assoc, hd (3 + e.k.size)]
      have : (entL e ++ r).drop (3 + e.k.size) = e.v.data.toList ++ r := by
        rw [← List.drop_drop]
        show ((e.k.data.toList ++ e.v.data.toList) ++ r).drop e.k.size = _
        rw [List.append_assoc, List.drop_append_of_le_length (by simp), List.drop_of_length_le (by simp)]
        rfl
      rw [this, List.take_append_of_le_length (by simp), List.take_of_length_le (by simp)]
    have hgg : decide (bt s a.length = 1) = e.g := by rw [b0]; cases e.g <;> rfl
    unfold entAt
    rw [hkk, hvv, hgg]
theorem pN_bytes {s : ByteArray} {n : Nat} {l : List Ent} {z : List UInt8} (h : s.data.toList = UInt8.ofNat n :: (l.flatMap entL ++ z)) (hf : ∀ e ∈ l, faultE e = 0) :
    ∀ i, i ≤ l.length → pN s i = some (l.take i, 1 + ((l.take i).flatMap entL).length)
  | 0, _ => by simp [pN]
  | i + 1, hi => by
    rw [pN, pN_bytes h hf i (by omega)]
    obtain ⟨e, he, htk, hdr⟩ := getElem?_of_lt (l := l) (k := i) (by omega)
    have hz := faultE_zero (hf e (List.mem_of_getElem? he))
    have hl : s.data.toList = (UInt8.ofNat n :: (l.take i).flatMap entL) ++ (entL e ++ ((l.drop (i + 1)).flatMap entL ++ z)) := by
      rw [h]
      conv => lhs; rw [← List.take_append_drop i l, hdr]
      simp
    obtain ⟨h1, h2, h3, h4⟩ := ent_at hl hz.2.2.1 hz.2.2.2
    have hlen : (UInt8.ofNat n :: (l.take i).flatMap entL).length = 1 + ((l.take i).flatMap entL).length := by rw [List.length_cons, Nat.add_comm]
    rw [hlen] at h1 h2 h3 h4
    unfold pStep
    dsimp only
    rw [h1, h2, h3, h4, hf e (List.mem_of_getElem? he)]
    simp only [Bool.false_or, ne_eq, not_true_eq_false, decide_false, Bool.false_eq_true, if_false]
    rw [htk]
    simp [entL_len]
    omega
/-- **Entries are read as they were written, also behind noughts.** -/
theorem parse_bytes (l : List Ent) (hf : ∀ e ∈ l, faultE e = 0) (hn : l.length < 256) {s : ByteArray} {k : Nat} (h : s.data.toList = (bytesL l.length l).data.toList ++ List.replicate k 0) : parseR s = some l := by
  rw [bytesL_data] at h
  have h' : s.data.toList = UInt8.ofNat l.length :: (l.flatMap entL ++ List.replicate k 0) := by rw [h]; rfl
  have hs : s.size ≠ 0 := by rw [← len_data, h']; simp
  have hb : bt s 0 = l.length := by
    have := bt_list (a := []) (b := UInt8.ofNat l.length :: (l.flatMap entL ++ List.replicate k 0)) (by rw [h']; rfl) 0
    simp at this
    rw [this]
    omega
  unfold parseR
  rw [if_neg hs, hb, pN_bytes h' hf _ (Nat.le_refl _), List.take_length]
  simp only
  rw [if_pos]
  have : s.data.toList.drop (1 + (l.flatMap entL).length) = List.replicate k 0 := by
    rw [h', Nat.add_comm, List.drop_succ_cons, List.drop_append_of_le_length (by omega), List.drop_of_length_le (by omega)]
    rfl
  rw [this]
  simp
/-- n noughts. -/
def zer (n : Nat) : ByteArray := ⟨(List.replicate n 0).toArray⟩
theorem zer_size (n : Nat) : (zer n).size = n := by simp [zer, ByteArray.size]
theorem zer_zero (s : ByteArray) : s ++ zer 0 = s := by
  apply ba_eq
  rw [data_append_]
  simp [zer]
theorem zer_succ (s : ByteArray) (n : Nat) : (s ++ zer n) ++ ⟨#[0]⟩ = s ++ zer (n + 1) := by
  apply ba_eq
  rw [data_append_, data_append_, data_append_, List.append_assoc]
  congr 1
  simp [zer, List.replicate_succ']
end Go.Proofs.YtaepdbkfaoiimabGreatDoor
/- LightManifest, number, SameNumbers, SameManifest; a manifest is read as it was written. Conditions: none but those that each law names. -/
set_option linter.unusedVariables false
set_option linter.unusedSimpArgs false
namespace Go.Proofs.YtaepdbkfaoiimabGreatDoor
open Go.RowKit

def lightM (m : Man) : Bool := decide (m.nw.length ≤ 30) && decide (m.od.length ≤ 30)
def sameM (m n : Man) : Bool := decide (m.ep = n.ep) && decide (m.log = n.log) && decide (m.nw = n.nw) && decide (m.od = n.od)
theorem sameM_refl (m : Man) : sameM m m = true := by simp [sameM]

/-! ### a manifest is read as it was written, also behind noughts -/
theorem u8_of {x : Int} (h0 : 0 ≤ x) (h1 : x < 256) : ((UInt8.ofNat x.toNat).toNat : Int) = x := by
  simp
  omega
theorem map_range_eq {l : List Int} {f : Nat → Int} (h : ∀ i x, l[i]? = some x → f i = x) : (List.range l.length).map f = l := by
  refine List.ext_getElem? fun i => ?_
  rw [List.getElem?_map]
  rcases Nat.lt_or_ge i l.length with hi | hi
  · rw [List.getElem?_range hi, List.getElem?_eq_getElem hi]
    exact congrArg some (h i _ (List.getElem?_eq_getElem hi))
  · rw [List.getElem?_eq_none (by simpa using hi), List.getElem?_eq_none hi]; rfl
theorem man_bytes {m : Man} (hf : m.fault = 0) {s : ByteArray} {k : Nat} (h : s.data.toList = m.bytes.data.toList ++ List.replicate k 0) : manOf s = some m := by
  obtain ⟨z1, z2, z3, z4⟩ := fault_zero.1 hf
  have hal := all_len hf
  have hlen : m.nw.length + m.od.length ≤ 23 := by simp [Man.all] at hal; omega
  have hlog := z3 m.log (by simp [Man.all])
  have hel : ∀ b ∈ m.nw ++ m.od, 2 ≤ b ∧ b < 24 := fun b hb => z3 b (by simp only [Man.all, List.mem_cons]; exact .inr hb)
  have hd : s.data.toList = ([77, m.ep % 256, m.ep / 256 % 256, m.ep / 65536, m.log % 256, (m.nw.length : Int) % 256, (m.od.length : Int) % 256].map fun n => UInt8.ofNat n.toNat) ++ (((m.nw ++ m.od).map (fun b : Int => UInt8.ofNat (b % 256).toNat)) ++ List.replicate k 0) := by
    rw [h, Man.bytes, strOfNums_data, List.map_append, List.map_map, List.append_assoc]
    rfl
  have hb : ∀ j, bt s (7 + j) = ((((m.nw ++ m.od).map (fun b : Int => UInt8.ofNat (b % 256).toNat)) ++ List.replicate k 0).getD j 0).toNat := fun j => bt_list hd j
  have hel2 : ∀ j x, (m.nw ++ m.od)[j]? = some x → (bt s (7 + j) : Int) = x := by
    intro j x hx
    have hx2 := hel x (List.mem_of_getElem? hx)
    have hj : j < (m.nw ++ m.od).length := by
      rcases Nat.lt_or_ge j (m.nw ++ m.od).length with h | h
      · exact h
      · rw [List.getElem?_eq_none h] at hx; cases hx
    rw [hb j, List.getD_eq_getElem?_getD, List.getElem?_append_left (by simpa using hj), List.getElem?_map, hx]
    show ((UInt8.ofNat (x % 256).toNat).toNat : Int) = x
    rw [u8_of (by omega) (by omega)]
    omega
  have h7 : ∀ (j : Nat) (x : Int), [77, m.ep % 256, m.ep / 256 % 256, m.ep / 65536, m.log % 256, (m.nw.length : Int) % 256, (m.od.length : Int) % 256][j]? = some x → 0 ≤ x → x < 256 → (bt s j : Int) = x := by
    intro j x hx h0 h1
    have := bt_list (a := []) (b := s.data.toList) (s := s) (by simp) j
    simp only [List.length_nil, Nat.zero_add] at this
    rw [this, List.getD_eq_getElem?_getD, hd, List.getElem?_append_left (by
      rcases Nat.lt_or_ge j 7 with h | h
      · simpa using h
      · rw [List.getElem?_eq_none (by simpa using h)] at hx; cases hx), List.getElem?_map, hx]
    exact u8_of h0 h1
  have b0 := h7 0 77 rfl (by omega) (by omega)
  have b1 := h7 1 (m.ep % 256) rfl (by omega) (by omega)
  have b2 := h7 2 (m.ep / 256 % 256) rfl (by omega) (by omega)
  have b3 := h7 3 (m.ep / 65536) rfl (by omega) (by omega)
  have b4 := h7 4 (m.log % 256) rfl (by omega) (by omega)
  have b5 := h7 5 ((m.nw.length : Int) % 256) rfl (by omega) (by omega)
  have b6 := h7 6 ((m.od.length : Int) % 256) rfl (by omega) (by omega)
  have n5 : bt s 5 = m.nw.length := by omega
  have n6 : bt s 6 = m.od.length := by omega
  have hsz : 7 + m.nw.length + m.od.length ≤ s.size := by
    have := congrArg List.length hd
    rw [len_data] at this
    simp at this
    omega
  have hm : manAt s = m := by
    have e1 : ((bt s 1 : Int) + 256 * bt s 2 + 65536 * bt s 3) = m.ep := by omega
    have e2 : (bt s 4 : Int) = m.log := by omega
    have e3 : (List.range (bt s 5)).map (fun i => (bt s (7 + i) : Int)) = m.nw := by
      rw [n5]
      refine map_range_eq fun i x hx => hel2 i x ?_
      rw [List.getElem?_append_left]
      · exact hx
      · rcases Nat.lt_or_ge i m.nw.length with h | h
        · exact h
        · rw [List.getElem?_eq_none h] at hx; cases hx
    have e4 : (List.range (bt s 6)).map (fun i => (bt s (7 + bt s 5 + i) : Int)) = m.od := by
      rw [n6, n5]
      refine map_range_eq fun i x hx => ?_
      rw [Nat.add_assoc]
      refine hel2 _ x ?_
      rw [List.getElem?_append_right (by omega), Nat.add_sub_cancel_left]
      exact hx
    unfold manAt
    rw [e1, e2, e3, e4]
  unfold manOf
  rw [if_neg (by omega), hm, if_pos hf]
end Go.Proofs.YtaepdbkfaoiimabGreatDoor
