/- The contracts of manifest.Find and Note. Conditions: none but the sizes of any memory. -/
import Derived.Test.YtaepdbkfaoiimaaManP
import Derived.Test.YtaepdbkfaoiimaaChipU
set_option linter.unusedVariables false
set_option linter.unusedSimpArgs false
namespace Go.Proofs.Ytaepdbkfaoiimaa
open Go.RowKit

/-- A page is looked at: the newest manifest yet, and in which block. -/
def fStep (b : Int) (st : Man × Int) (s : Sheet) : Man × Int :=
  if s.t then st else match manOf s.d with
    | none => st
    | some m => if st.1.ep < m.ep then (m, b) else st
def findM (c : Chip) : Man × Int := (c.b 1).l.foldl (fStep 1) ((c.b 0).l.foldl (fStep 0) (Man.zero, -1))
def findR (c : Chip) : Man × Int × Nat := if c.down then (Man.zero, 0, 9) else if (findM c).2 < 0 then (Man.zero, 0, 4) else ((findM c).1, (findM c).2, 0)
/-- A manifest in a variable. -/
def ManB (B : Nat) (w : World) (g : Nat) (m : Man) : Prop := ∃ A1 c1 A2 c2, Blk w g 91 #[.int .i64 m.ep, .int .i64 m.log, .slice A1 m.nw.length c1, .slice A2 m.od.length c2] ∧ Ints B w (.slice A1 m.nw.length c1) m.nw ∧ Ints B w (.slice A2 m.od.length c2) m.od
theorem ManB.below {B g : Nat} {w w' : World} {m : Man} (h : ManB B w g m) (hb : Below w.heap.size w w') : ManB B w' g m := by
  obtain ⟨A1, c1, A2, c2, h1, h2, h3⟩ := h
  exact ⟨A1, c1, A2, c2, h1.below hb h1.lt, h2.below hb, h3.below hb⟩
theorem ManB.drewN {B g : Nat} {w : World} {m : Man} (h : ManB B w g m) (n : Nat) : ManB B (w.drewN n) g m := h
/-- A manifest is stored into another variable. -/
theorem ManB.store {B g : Nat} {w : World} {m : Man} {cs : Array Value} {A1 A2 : Option Addr} {c1 c2 : Nat} {a0 a1 a2 a3 : Value} (hb : Blk w g 91 #[a0, a1, a2, a3]) (hB : B ≤ g) (h2 : Ints B w (.slice A1 m.nw.length c1) m.nw) (h3 : Ints B w (.slice A2 m.od.length c2) m.od) :
    ManB B ((((w.setCell ⟨g, 0, none⟩ (.int .i64 m.ep)).setCell ⟨g, 1, none⟩ (.int .i64 m.log)).setCell ⟨g, 2, none⟩ (.slice A1 m.nw.length c1)).setCell ⟨g, 3, none⟩ (.slice A2 m.od.length c2)) g m := by
  have k : ∀ {v : Value} {l : List Int}, Ints B w v l → ∀ b0 b1 b2 b3, Ints B ((((w.setCell ⟨g, 0, none⟩ b0).setCell ⟨g, 1, none⟩ b1).setCell ⟨g, 2, none⟩ b2).setCell ⟨g, 3, none⟩ b3) v l := fun h b0 b1 b2 b3 =>
    Rd.far' (Rd.far' (Rd.far' (Rd.far' h hb hB (by decide) _) (hb.set_ 0 _) hB (by decide) _) ((hb.set_ 0 _).set_ 1 _) hB (by decide) _) (((hb.set_ 0 _).set_ 1 _).set_ 2 _) hB (by decide) _
  exact ⟨A1, c1, A2, c2, store4 hb _ _ _ _, k h2 _ _ _ _, k h3 _ _ _ _⟩
theorem eql_err (a b : Int) (w : World) : (binOp .eql 55 (.iface 137 (.int .i64 a)) (.iface 137 (.int .i64 b))).run Try.prog w = .ok (.bool (a == b)) w := by kernel_rfl
theorem eql_nilerr (b : Int) (w : World) : (binOp .eql 55 .nilIface (.iface 137 (.int .i64 b))).run Try.prog w = .ok (.bool false) w := by kernel_rfl
theorem neq_err (a b : Int) (w : World) : (binOp .neq 55 (.iface 137 (.int .i64 a)) (.iface 137 (.int .i64 b))).run Try.prog w = .ok (.bool (!(a == b))) w := by kernel_rfl
theorem neq_nilerr (b : Int) (w : World) : (binOp .neq 55 .nilIface (.iface 137 (.int .i64 b))).run Try.prog w = .ok (.bool true) w := by kernel_rfl
theorem guard_err (x y : Operand) (a b : Int) (w : World) : (eqGuard .eql 55 x y (.iface 137 (.int .i64 a)) (.iface 137 (.int .i64 b))).run Try.prog w = .ok () w := by kernel_rfl
theorem guard_nilerr (x y : Operand) (b : Int) (w : World) : (eqGuard .eql 55 x y .nilIface (.iface 137 (.int .i64 b))).run Try.prog w = .ok () w := by kernel_rfl
theorem guardn_err (x y : Operand) (a b : Int) (w : World) : (eqGuard .neq 55 x y (.iface 137 (.int .i64 a)) (.iface 137 (.int .i64 b))).run Try.prog w = .ok () w := by kernel_rfl
theorem guardn_nilerr (x y : Operand) (b : Int) (w : World) : (eqGuard .neq 55 x y .nilIface (.iface 137 (.int .i64 b))).run Try.prog w = .ok () w := by kernel_rfl
attribute [local go_sem ↓] eql_err eql_nilerr neq_err neq_nilerr guard_err guard_nilerr guardn_err guardn_nilerr
theorem take_some {l : List Sheet} {k : Nat} {s : Sheet} (h : l[k]? = some s) (f : Man × Int → Sheet → Man × Int) (a : Man × Int) : (l.take (k + 1)).foldl f a = f ((l.take k).foldl f a) s := by
  have hk : k < l.length := by
    rcases Nat.lt_or_ge k l.length with h' | h'
    · exact h'
    · rw [List.getElem?_eq_none h'] at h; cases h
  rw [List.take_succ_eq_append_getElem hk, List.foldl_append]
  rw [List.getElem?_eq_getElem hk] at h
  injection h with h
  rw [h]
  rfl
theorem take_none {l : List Sheet} {k : Nat} (h : l[k]? = none) : l.take (k + 1) = l.take k := by
  have : l.length ≤ k := by simpa using h
  rw [List.take_of_length_le (by omega), List.take_of_length_le this]
set_option maxRecDepth 20000 in
set_option maxHeartbeats 8000000 in
theorem find_any (B p : Nat) (c : Chip) (w : World) (h : ChipR B w p c) :
    Calls Try.prog 66 #[.pointer (some ⟨p, 0, none⟩)] w fun e w' => ∃ v, e = .returned (.tuple #[v, .int .i64 (findR c).2.1, errV (findR c).2.2]) ∧ ManV B w' v (findR c).1 ∧ Below w.heap.size w w' := by
  have fin : ∀ (wr : World) (tmps : Array Value) (m : Man) (at_ : Int) (f : Nat), findR c = (m, at_, f) → Below w.heap.size w wr → ManB B wr w.heap.size m → tmps[2]? = some (.pointer (some ⟨w.heap.size, 0, none⟩)) → tmps[3]? = some (.int .i64 at_) → tmps[4]? = some (errV f) →
      bodyPost Try.prog Try.f66 (fun e w' => ∃ v, e = .returned (.tuple #[v, .int .i64 (findR c).2.1, errV (findR c).2.2]) ∧ ManV B w' v (findR c).1 ∧ Below w.heap.size w w') .ret { tmps := tmps, defers := [] } wr := by
    rintro wr tmps m at_ f e hb ⟨A1, c1, A2, c2, hk, h2, h3⟩ t2 t3 t4
    have y0 := hk.cell 0
    have y1 := hk.cell 1
    have y2 := hk.cell 2
    have y3 := hk.cell 3
    simp at y0 y1 y2 y3
    rw [e]
    refine bodyPost_ret (v := .tuple #[.agg #[.int .i64 m.ep, .int .i64 m.log, .slice A1 m.nw.length c1, .slice A2 m.od.length c2], .int .i64 at_, errV f]) (by simp [results, Try.results66, go_sem, t2, t3, t4, y0, y1, y2, y3]) rfl ⟨_, rfl, ⟨_, _, rfl, h2, h3⟩, hb⟩
  have FIN := Lib.hid fin
  clear fin
  have HR := Lib.hid h
  have hB0 : B ≤ w.heap.size := by obtain ⟨V, u, hv, _⟩ := h; have := hv.base; have := hv.blk.lt; omega
  cases hd : c.down
  · have HFR : Hid (findR c = if (findM c).2 < 0 then (Man.zero, 0, 4) else ((findM c).1, (findM c).2, 0)) := by rw [Hid, findR, hd, if_neg (by simp)]
    have HRD : Hid (∀ (b k : Nat), b < 2 → k < 8 → c.read b k = match (c.b b).l[k]? with
          | none => (ByteArray.empty, 5)
          | some s => if s.t then (ByteArray.empty, 4) else (s.d, 0)) := by
      intro b k hb hk
      unfold Chip.read
      rw [hd, if_neg (by simp), if_neg (by omega), Int.toNat_natCast, Int.toNat_natCast]
      rfl
    have HWF := Lib.hid h.wf
    clear h hd
    go_enter Try.func66, Try.ntmps66
    go_wp2_with fail
    have hz : ∀ (w : World) (g : Nat), Blk w g 91 #[.int .i64 0, .int .i64 0, .slice none 0 0, .slice none 0 0] → ManB B w g Man.zero := fun w g hb => ⟨none, 0, none, 0, hb, Rd.nil _ _ _ _, Rd.nil _ _ _ _⟩
    have HZ := Lib.hid hz
    have hb2 : Below w.heap.size w ((w.alloc (.cells #[.int .i64 0, .int .i64 0, .slice none 0 0, .slice none 0 0] 91)).alloc (.cells #[.int .i64 0, .int .i64 0, .slice none 0 0, .slice none 0 0] 91)) := ((Below.refl _ _).alloc (Nat.le_refl _) _).alloc (by simp) _
    have hr2 : Blk ((w.alloc (.cells #[.int .i64 0, .int .i64 0, .slice none 0 0, .slice none 0 0] 91)).alloc (.cells #[.int .i64 0, .int .i64 0, .slice none 0 0, .slice none 0 0] 91)) w.heap.size 91 #[.int .i64 0, .int .i64 0, .slice none 0 0, .slice none 0 0] := (Blk.new w _ _).alloc _
    have hg2 : Blk ((w.alloc (.cells #[.int .i64 0, .int .i64 0, .slice none 0 0, .slice none 0 0] 91)).alloc (.cells #[.int .i64 0, .int .i64 0, .slice none 0 0, .slice none 0 0] 91)) (w.heap.size + 1) 91 #[.int .i64 0, .int .i64 0, .slice none 0 0, .slice none 0 0] := by
      have := Blk.new (w.alloc (.cells #[.int .i64 0, .int .i64 0, .slice none 0 0, .slice none 0 0] 91)) 91 #[.int .i64 0, .int .i64 0, .slice none 0 0, .slice none 0 0]
      rw [World.size_alloc] at this
      exact this
    have HB2 := Lib.hid hb2
    have HR2 := Lib.hid hr2
    have HG2 := Lib.hid (hz _ _ hg2)
    clear hb2 hr2 hg2 hz
    go_loopw [6, 12] (fun a b wr => ∃ (bb : Nat) (st : Man × Int), bb ≤ 2 ∧ b = .int .i64 (bb : Int) ∧ a = .int .i64 st.2 ∧ Hid (st = (((List.range 2).take bb).foldl (fun st i => (c.b i).l.foldl (fStep i) st) (Man.zero, -1))) ∧ Hid (Blk wr w.heap.size 91 #[.int .i64 0, .int .i64 0, .slice none 0 0, .slice none 0 0]) ∧ Hid (ManB B wr (w.heap.size + 1) st.1) ∧ Below w.heap.size w wr) (fun _ b _ => 2 - (intOf b).toNat)
    case atStart => exact ⟨0, (Man.zero, -1), by omega, rfl, rfl, rfl, HR2.out, HG2.out, HB2.out⟩
    case round =>
      obtain ⟨bb, st, hbb, rfl, rfl, hst, hres, hbest, hbl⟩ := hrel
      by_cases hlt : bb < 2
      · obtain ⟨wo, rfl⟩ : ∃ wo : World, wo = wr := ⟨_, rfl⟩
        have t13 : decide ((bb : Int) < 2) = true := decide_eq_true (by omega)
        go_wp2_with fail
        go_loopw [6, 15] (fun a q wr => ∃ (k : Nat) (st' : Man × Int), k ≤ 8 ∧ q = .int .i64 (k : Int) ∧ a = .int .i64 st'.2 ∧ Hid (st' = ((c.b bb).l.take k).foldl (fStep bb) st) ∧ Hid (Blk wr w.heap.size 91 #[.int .i64 0, .int .i64 0, .slice none 0 0, .slice none 0 0]) ∧ Hid (ManB B wr (w.heap.size + 1) st'.1) ∧ Below w.heap.size w wr) (fun _ q _ => 8 - (intOf q).toNat)
        case atStart => exact ⟨0, st, by omega, rfl, rfl, rfl, hres.out, hbest.out, hbl⟩
        case round =>
          obtain ⟨k, st', hk, rfl, rfl, hst', hres', hbest', hbl'⟩ := hrel
          by_cases hk8 : k < 8
          · have t16 : decide ((k : Int) < 8) = true := decide_eq_true (by omega)
            have hread := HRD.out bb k hlt hk8
            have hrc := cread_any B p c bb k wr (HR.out.below hbl')
            rw [hread] at hrc
            cases hs : (c.b bb).l[k]? with
            | none =>
              rw [hs] at hrc
              rw [show errV 5 = .iface 137 (.int .i64 5) from rfl] at hrc
              have HC := Lib.hid hrc
              have HT := Lib.hid (take_none hs)
              clear hread hrc hs
              go_wp2_with (go_at_call 54; refine HC.out.mono ?_; rintro e w5 ⟨rfl, rfl⟩)
              go_roundw
              case rel => exact ⟨k + 1, st', by omega, by go_num, rfl, by rw [Hid, HT.out]; exact hst'.out, hres'.out, hbest'.out, hbl'⟩
              case measure => simp [intOf] <;> omega
            | some s =>
              have hts := take_some hs (fStep bb) st
              rw [← hst'.out] at hts
              cases ht : s.t
              · have hsz := HWF.out.size bb (by omega) s (List.mem_of_getElem? hs) ht
                rw [hs] at hrc
                simp only [ht, Bool.false_eq_true, if_false] at hrc
                rw [show errV 0 = Value.nilIface from rfl] at hrc
                have HC := Lib.hid hrc
                have HTS := Lib.hid hts
                have HHT := Lib.hid ht
                have hp := mparse_any B s.d wr (by omega)
                have HP := Lib.hid hp
                clear hread hrc hs hts ht hp
                cases hm : manOf s.d with
                | none =>
                  have he : merr s.d = 4 := by rw [merr, if_pos hm]
                  rw [he, show errV 4 = .iface 137 (.int .i64 4) from rfl, hm] at HP
                  have HF : Hid (((c.b bb).l.take (k + 1)).foldl (fStep bb) st = st') := by rw [Hid, HTS.out, fStep, HHT.out, if_neg (by simp), hm]
                  clear he hm
                  go_wp2_with (go_at_call 54; refine HC.out.mono ?_; rintro e w5 ⟨rfl, rfl⟩)
                  refine HP.out.mono ?_
                  rintro e w6 ⟨v6, rfl, ⟨vn, vo, rfl, hn, ho⟩, hb6⟩
                  obtain ⟨A1, c1, rfl, _, _, kX⟩ := hn.form
                  obtain ⟨A2, c2, rfl, _, _, kY⟩ := ho.form
                  have HR6 := Lib.hid (hres'.out.below hb6 hres'.out.lt)
                  have HG6 := Lib.hid (hbest'.out.below hb6)
                  have HB6 := Lib.hid (hbl'.trans (hb6.mono hbl'.size))
                  clear kX kY hn ho hb6
                  have HZB : Hid (Below w6.heap.size w6 (w6.alloc (.cells #[.int .i64 Man.zero.ep, .int .i64 Man.zero.log, .slice A1 Man.zero.nw.length c1, .slice A2 Man.zero.od.length c2] 91))) := (Below.refl _ _).alloc (Nat.le_refl _) _
                  go_wp2_with fail
                  go_roundw
                  case rel => exact ⟨k + 1, st', by omega, by go_num, rfl, HF.out.symm, HR6.out.below HZB.out HR6.out.lt, HG6.out.below HZB.out, HB6.out.trans (HZB.out.mono HB6.out.size)⟩
                  case measure => simp [intOf] <;> omega
                | some m =>
                  have he : merr s.d = 0 := by rw [merr, if_neg (by rw [hm]; simp)]
                  rw [he, show errV 0 = Value.nilIface from rfl, hm] at HP
                  have HF0 : Hid (((c.b bb).l.take (k + 1)).foldl (fStep bb) st = if st'.1.ep < m.ep then (m, (bb : Int)) else st') := by
                    rw [Hid, HTS.out, fStep, HHT.out, if_neg (by simp), hm]
                  clear he hm
                  go_wp2_with (go_at_call 54; refine HC.out.mono ?_; rintro e w5 ⟨rfl, rfl⟩)
                  refine HP.out.mono ?_
                  rintro e w6 ⟨v6, rfl, ⟨vn, vo, rfl, hn, ho⟩, hb6⟩
                  simp only [Option.getD_some] at hn ho ⊢
                  obtain ⟨A1, c1, rfl, _, _, kX⟩ := hn.form
                  obtain ⟨A2, c2, rfl, _, _, kY⟩ := ho.form
                  have HR6 := Lib.hid (hres'.out.below hb6 hres'.out.lt)
                  obtain ⟨A3, c3, A4, c4, hg, hg2, hg3⟩ := hbest'.out.below hb6
                  have HB6 := Lib.hid (hbl'.trans (hb6.mono hbl'.size))
                  have HN6 := Lib.hid hn
                  have HO6 := Lib.hid ho
                  have HG := Lib.hid hg
                  have HG2 := Lib.hid hg2
                  have HG3 := Lib.hid hg3
                  have hgl := hg.lt
                  have y0 := hg.cell 0
                  have y1 := hg.cell 1
                  have y2 := hg.cell 2
                  have y3 := hg.cell 3
                  simp at y0 y1 y2 y3
                  have f0 := hg.frozen 0
                  have f1 := hg.frozen 1
                  have f2 := hg.frozen 2
                  have f3 := hg.frozen 3
                  clear kX kY hn ho hb6 hg hg2 hg3
                  by_cases hlt2 : st'.1.ep < m.ep
                  · have t44 : decide (st'.1.ep < m.ep) = true := decide_eq_true hlt2
                    have HF : Hid (((c.b bb).l.take (k + 1)).foldl (fStep bb) st = (m, (bb : Int))) := by rw [Hid, HF0.out, if_pos hlt2]
                    clear hlt2
                    go_wp2_with fail
                    go_roundw
                    case rel =>
                      have hB1 : B ≤ w.heap.size + 1 := by omega
                      have hs1 := ManB.store (cs := #[]) HG.out hB1 HN6.out HO6.out
                      have hb1 := below4 (g := w.heap.size + 1) HB6.out (by omega) (.int .i64 m.ep) (.int .i64 m.log) (.slice A1 m.nw.length c1) (.slice A2 m.od.length c2)
                      have hr1 := blk_far4 (g' := w.heap.size + 1) HR6.out (by omega) (.int .i64 m.ep) (.int .i64 m.log) (.slice A1 m.nw.length c1) (.slice A2 m.od.length c2)
                      exact ⟨k + 1, (m, (bb : Int)), by omega, by go_num, rfl, HF.out.symm, hr1.alloc _, hs1.below ((Below.refl _ _).alloc (Nat.le_refl _) _), hb1.alloc hb1.size _⟩
                    case measure => simp [intOf] <;> omega
                  · have t44 : decide (st'.1.ep < m.ep) = false := decide_eq_false hlt2
                    have HF : Hid (((c.b bb).l.take (k + 1)).foldl (fStep bb) st = st') := by rw [Hid, HF0.out, if_neg hlt2]
                    clear hlt2
                    go_wp2_with fail
                    go_roundw
                    case rel => exact ⟨k + 1, st', by omega, by go_num, rfl, HF.out.symm, HR6.out.alloc _, ManB.below ⟨A3, c3, A4, c4, HG.out, HG2.out, HG3.out⟩ ((Below.refl _ _).alloc (Nat.le_refl _) _), HB6.out.alloc HB6.out.size _⟩
                    case measure => simp [intOf] <;> omega
              · rw [hs] at hrc
                simp only [ht, if_true] at hrc
                rw [show errV 4 = .iface 137 (.int .i64 4) from rfl] at hrc
                have HC := Lib.hid hrc
                have HT : Hid (((c.b bb).l.take (k + 1)).foldl (fStep bb) st = st') := by rw [Hid, hts, fStep, ht, if_pos rfl]
                clear hread hrc hs hts ht
                go_wp2_with (go_at_call 54; refine HC.out.mono ?_; rintro e w5 ⟨rfl, rfl⟩)
                go_roundw
                case rel => exact ⟨k + 1, st', by omega, by go_num, rfl, HT.out.symm, hres'.out, hbest'.out, hbl'⟩
                case measure => simp [intOf] <;> omega
          · have hk8' : k = 8 := by omega
            subst hk8'
            have hlen := HWF.out.len bb (by omega)
            have t16 : decide (((8 : Nat) : Int) < 8) = false := by decide
            have HF : Hid (st' = (((List.range 2).take (bb + 1)).foldl (fun st i => (c.b i).l.foldl (fStep i) st) (Man.zero, -1))) := by
              have h1 := hst'.out
              rw [List.take_of_length_le hlen] at h1
              have e : (List.range 2).take (bb + 1) = (List.range 2).take bb ++ [bb] := by
                have : bb = 0 ∨ bb = 1 := by omega
                rcases this with rfl | rfl <;> rfl
              rw [Hid, e, List.foldl_append, ← hst.out, h1]
              rfl
            go_wp2_with fail
            go_roundw
            case rel => exact ⟨bb + 1, st', by omega, by go_num, rfl, HF.out, hres'.out, hbest'.out, hbl'⟩
            case measure => simp [intOf] <;> omega
      · have hb2 : bb = 2 := by omega
        subst hb2
        have HST : Hid (st = findM c) := hst.out
        have hr := hres.out
        have r0 := hr.cell 0
        have r1 := hr.cell 1
        have r2 := hr.cell 2
        have r3 := hr.cell 3
        simp at r0 r1 r2 r3
        have e0 := hr.frozen 0
        have e1 := hr.frozen 1
        have e2 := hr.frozen 2
        have e3 := hr.frozen 3
        obtain ⟨A3, c3, A4, c4, hg, hg2, hg3⟩ := hbest.out
        have HG := Lib.hid hg
        have HG2 := Lib.hid hg2
        have HG3 := Lib.hid hg3
        have y0 := hg.cell 0
        have y1 := hg.cell 1
        have y2 := hg.cell 2
        have y3 := hg.cell 3
        simp at y0 y1 y2 y3
        have HRR := Lib.hid hr
        clear hr hg hg2 hg3 hst
        by_cases hneg : st.2 < 0
        · have t51 : decide (st.2 < 0) = true := decide_eq_true hneg
          have HF : Hid (findR c = (Man.zero, 0, 4)) := by rw [Hid, HFR.out, ← HST.out, if_pos hneg]
          clear hneg
          go_wp2_with fail
          exact FIN.out _ _ Man.zero 0 4 HF.out (below4 hbl (Nat.le_refl _) _ _ _ _) (HZ.out _ _ (store4 HRR.out _ _ _ _)) rfl rfl rfl
        · have t51 : decide (st.2 < 0) = false := decide_eq_false hneg
          have HF : Hid (findR c = (st.1, st.2, 0)) := by rw [Hid, HFR.out, ← HST.out, if_neg hneg]
          clear hneg
          go_wp2_with fail
          exact FIN.out _ _ st.1 st.2 0 HF.out (below4 hbl (Nat.le_refl _) _ _ _ _) (ManB.store (cs := #[]) HRR.out hB0 HG2.out HG3.out) rfl rfl rfl
  · have hread : c.read 0 0 = (ByteArray.empty, 9) := by unfold Chip.read; rw [hd, if_pos rfl]
    have HF : Hid (findR c = (Man.zero, 0, 9)) := by rw [Hid, findR, hd, if_pos rfl]
    have hb2 : Below w.heap.size w ((w.alloc (.cells #[.int .i64 0, .int .i64 0, .slice none 0 0, .slice none 0 0] 91)).alloc (.cells #[.int .i64 0, .int .i64 0, .slice none 0 0, .slice none 0 0] 91)) := ((Below.refl _ _).alloc (Nat.le_refl _) _).alloc (by simp) _
    have hr2 : Blk ((w.alloc (.cells #[.int .i64 0, .int .i64 0, .slice none 0 0, .slice none 0 0] 91)).alloc (.cells #[.int .i64 0, .int .i64 0, .slice none 0 0, .slice none 0 0] 91)) w.heap.size 91 #[.int .i64 0, .int .i64 0, .slice none 0 0, .slice none 0 0] := (Blk.new w _ _).alloc _
    have hrc := cread_any B p c 0 0 _ (h.below hb2)
    rw [hread, show errV (ByteArray.empty, 9).2 = .iface 137 (.int .i64 9) from rfl] at hrc
    have HC := Lib.hid hrc
    have HB2 := Lib.hid hb2
    have HR2 := Lib.hid hr2
    have r0 := hr2.cell 0
    have r1 := hr2.cell 1
    have r2 := hr2.cell 2
    have r3 := hr2.cell 3
    clear h hd hread hrc hb2
    go_enter Try.func66, Try.ntmps66
    go_wp2_with fail
    refine wp_loop_rounds 1 ?_
    rw [rounds_succ]
    go_wp2_with fail
    refine wp_loop_rounds 1 ?_
    rw [rounds_succ]
    go_wp2_with (go_at_call 54; refine HC.out.mono ?_; rintro e w5 ⟨rfl, rfl⟩)
    exact FIN.out _ _ Man.zero 0 9 HF.out HB2.out ⟨none, 0, none, 0, HR2.out, Rd.nil _ _ _ _, Rd.nil _ _ _ _⟩ rfl rfl rfl
/-- A manifest is noted: the chip, in which block it is, what is wrong. -/
def noteR (c : Chip) (a : Int) (m : Man) : Chip × Int × Nat :=
  if m.fault ≠ 0 then (c, 0, m.fault)
  else if (c.b a.toNat).l.length = 8 then
    if (c.erase (1 - a)).2 ≠ 0 then ((c.erase (1 - a)).1, 0, (c.erase (1 - a)).2)
    else if ((c.erase (1 - a)).1.write (1 - a) m.bytes).2 ≠ 0 then (((c.erase (1 - a)).1.write (1 - a) m.bytes).1, 0, ((c.erase (1 - a)).1.write (1 - a) m.bytes).2)
    else (((c.erase (1 - a)).1.write (1 - a) m.bytes).1, 1 - a, 0)
  else if (c.write a m.bytes).2 ≠ 0 then ((c.write a m.bytes).1, 0, (c.write a m.bytes).2) else ((c.write a m.bytes).1, a, 0)
theorem mbytes_size {m : Man} (h1 : m.nw.length ≤ 1000) (h2 : m.od.length ≤ 1000) : m.bytes.size ≤ 9223372036854775807 := by
  unfold Man.bytes
  rw [strOfNums_size]
  simp
  omega
set_option maxRecDepth 20000 in
set_option maxHeartbeats 8000000 in
theorem note_any (B p : Nat) (c : Chip) (a : Int) (v : Value) (m : Man) (w : World) (h : ChipR B w p c) (ha : a = 0 ∨ a = 1) (hm : ManV B w v m) (h1 : m.nw.length ≤ 1000) (h2 : m.od.length ≤ 1000) :
    Calls Try.prog 67 #[.pointer (some ⟨p, 0, none⟩), .int .i64 a, v] w fun e w' => e = .returned (.tuple #[.int .i64 (noteR c a m).2.1, errV (noteR c a m).2.2]) ∧ ChipR B w' p (noteR c a m).1 ∧ Fr B (· = p) w w' := by
  have fin : ∀ (wr : World) (tmps : Array Value) (a' : Int) (f : Nat) (c' : Chip), noteR c a m = (c', a', f) → ChipR B wr p c' → Fr B (· = p) w wr → tmps[6]? = some (.int .i64 a') → tmps[7]? = some (errV f) →
      bodyPost Try.prog Try.f67 (fun e w' => e = .returned (.tuple #[.int .i64 (noteR c a m).2.1, errV (noteR c a m).2.2]) ∧ ChipR B w' p (noteR c a m).1 ∧ Fr B (· = p) w w') .ret { tmps := tmps, defers := [] } wr := by
    rintro wr tmps a' f c' e hc hf t6 t7
    rw [e]
    exact bodyPost_ret (v := .tuple #[.int .i64 a', errV f]) (by simp [results, Try.results67, go_sem, t6, t7]) rfl ⟨rfl, hc, hf⟩
  have FIN := Lib.hid fin
  clear fin
  obtain ⟨vn, vo, rfl, hn, ho⟩ := hm
  obtain ⟨A1, c1, rfl, k1, k2, kX⟩ := hn.form
  obtain ⟨A2, c2, rfl, k3, k4, kY⟩ := ho.form
  have hb0 : Below w.heap.size w (w.alloc (.cells #[.int .i64 m.ep, .int .i64 m.log, .slice A1 m.nw.length c1, .slice A2 m.od.length c2] 91)) := (Below.refl _ _).alloc (Nat.le_refl _) _
  have HBY := Lib.hid (mbytes_any B (.agg #[.int .i64 m.ep, .int .i64 m.log, .slice A1 m.nw.length c1, .slice A2 m.od.length c2]) m _ ⟨_, _, rfl, hn.below hb0, ho.below hb0⟩ h1 h2)
  have HR0 := Lib.hid (h.below hb0)
  have HF0 : Hid (Fr B (· = p) w (w.alloc (.cells #[.int .i64 m.ep, .int .i64 m.log, .slice A1 m.nw.length c1, .slice A2 m.od.length c2] 91))) := Fr.of_below hb0
  have hmsz := mbytes_size h1 h2
  clear kX kY hn ho hb0 h
  by_cases hf : m.fault = 0
  · have hms : mbytesS m = m.bytes := if_pos hf
    rw [hf, hms, show errV 0 = Value.nilIface from rfl] at HBY
    have HN : Hid (noteR c a m = if (c.b a.toNat).l.length = 8 then
        if (c.erase (1 - a)).2 ≠ 0 then ((c.erase (1 - a)).1, 0, (c.erase (1 - a)).2)
        else if ((c.erase (1 - a)).1.write (1 - a) m.bytes).2 ≠ 0 then (((c.erase (1 - a)).1.write (1 - a) m.bytes).1, 0, ((c.erase (1 - a)).1.write (1 - a) m.bytes).2)
        else (((c.erase (1 - a)).1.write (1 - a) m.bytes).1, 1 - a, 0)
      else if (c.write a m.bytes).2 ≠ 0 then ((c.write a m.bytes).1, 0, (c.write a m.bytes).2) else ((c.write a m.bytes).1, a, 0)) := by rw [Hid, noteR, if_neg (by simpa using hf)]
    clear hf hms
    go_enter Try.func67, Try.ntmps67
    go_wp2_with fail
    refine HBY.out.mono ?_
    rintro e w1 ⟨rfl, hb1⟩
    have HR1 := Lib.hid (HR0.out.below hb1)
    have HF1 := Lib.hid (HF0.out.trans (Fr.of_below hb1) (fun _ _ => trivial))
    have HNX := Lib.hid (next_any B p c a w1 HR1.out (by omega) (by omega))
    clear hb1 HBY
    by_cases h8 : (c.b a.toNat).l.length = 8
    · rw [h8] at HNX
      rw [if_pos h8] at HN
      have HEX := Lib.hid (cerase_any B p c (1 - a) w1 HR1.out)
      have g1 : wrap64 (1 - a) = 1 - a := w64 _ (by omega) (by omega)
      clear h8
      by_cases he : (c.erase (1 - a)).2 = 0
      · rw [if_neg (by simpa using he)] at HN
        rw [he, show errV 0 = Value.nilIface from rfl] at HEX
        clear he
        go_wp2_with (go_at_call 86; refine HNX.out.mono ?_; rintro e w2 ⟨rfl, rfl⟩)
        refine HEX.out.mono ?_
        rintro e w2 ⟨rfl, hr2, hf2⟩
        have HRX := Lib.hid hr2
        have HFX := Lib.hid (HF1.out.trans hf2 (fun _ _ => trivial))
        clear hr2 hf2 HEX HNX
        have HWX := Lib.hid (cwrite_any B p (c.erase (1 - a)).1 (1 - a) m.bytes w2 HRX.out hmsz)
        by_cases hw : (((c.erase (1 - a)).1).write (1 - a) m.bytes).2 = 0
        · rw [if_neg (by simpa using hw)] at HN
          rw [hw, show errV 0 = Value.nilIface from rfl] at HWX
          clear hw
          go_wp2_with fail
          refine HWX.out.mono ?_
          rintro e w3 ⟨rfl, hr3, hf3⟩
          have HR3 := Lib.hid hr3
          have HF3 := Lib.hid (HFX.out.trans hf3 (fun _ _ => trivial))
          clear hr3 hf3 HWX
          go_wp2_with fail
          exact FIN.out _ _ (1 - a) 0 _ HN.out HR3.out HF3.out rfl rfl
        · rw [if_pos hw] at HN
          have hwe : errV (((c.erase (1 - a)).1).write (1 - a) m.bytes).2 = .iface 137 (.int .i64 (((c.erase (1 - a)).1).write (1 - a) m.bytes).2) := if_neg hw
          rw [hwe] at HWX
          have HE := Lib.hid hwe
          clear hw hwe
          go_wp2_with fail
          refine HWX.out.mono ?_
          rintro e w3 ⟨rfl, hr3, hf3⟩
          have HR3 := Lib.hid hr3
          have HF3 := Lib.hid (HFX.out.trans hf3 (fun _ _ => trivial))
          clear hr3 hf3 HWX
          go_wp2_with fail
          exact FIN.out _ _ 0 _ _ HN.out HR3.out HF3.out rfl (by rw [HE.out]; rfl)
      · have hee : errV (c.erase (1 - a)).2 = .iface 137 (.int .i64 (c.erase (1 - a)).2) := if_neg he
        rw [if_pos he] at HN
        rw [hee] at HEX
        have HE := Lib.hid hee
        clear he hee
        go_wp2_with (go_at_call 86; refine HNX.out.mono ?_; rintro e w2 ⟨rfl, rfl⟩)
        refine HEX.out.mono ?_
        rintro e w2 ⟨rfl, hr2, hf2⟩
        have HR2 := Lib.hid hr2
        have HF2 := Lib.hid (HF1.out.trans hf2 (fun _ _ => trivial))
        clear hr2 hf2 HEX HNX
        go_wp2_with fail
        exact FIN.out _ _ 0 _ _ HN.out HR2.out HF2.out rfl (by rw [HE.out]; rfl)
    · rw [if_neg h8] at HN
      have t8 : (((c.b a.toNat).l.length : Int) == 8) = false := by rw [beq_eq_false_iff_ne]; omega
      have HRX := Lib.hid HR1.out
      have HFX := Lib.hid HF1.out
      clear h8
      have HWX := Lib.hid (cwrite_any B p c a m.bytes w1 HRX.out hmsz)
      by_cases hw : ((c).write a m.bytes).2 = 0
      · rw [if_neg (by simpa using hw)] at HN
        rw [hw, show errV 0 = Value.nilIface from rfl] at HWX
        clear hw
        go_wp2_with (go_at_call 86; refine HNX.out.mono ?_; rintro e w2 ⟨rfl, rfl⟩)
        refine HWX.out.mono ?_
        rintro e w3 ⟨rfl, hr3, hf3⟩
        have HR3 := Lib.hid hr3
        have HF3 := Lib.hid (HFX.out.trans hf3 (fun _ _ => trivial))
        clear hr3 hf3 HWX
        go_wp2_with fail
        exact FIN.out _ _ a 0 _ HN.out HR3.out HF3.out rfl rfl
      · rw [if_pos hw] at HN
        have hwe : errV ((c).write a m.bytes).2 = .iface 137 (.int .i64 ((c).write a m.bytes).2) := if_neg hw
        rw [hwe] at HWX
        have HE := Lib.hid hwe
        clear hw hwe
        go_wp2_with (go_at_call 86; refine HNX.out.mono ?_; rintro e w2 ⟨rfl, rfl⟩)
        refine HWX.out.mono ?_
        rintro e w3 ⟨rfl, hr3, hf3⟩
        have HR3 := Lib.hid hr3
        have HF3 := Lib.hid (HFX.out.trans hf3 (fun _ _ => trivial))
        clear hr3 hf3 HWX
        go_wp2_with fail
        exact FIN.out _ _ 0 _ _ HN.out HR3.out HF3.out rfl (by rw [HE.out]; rfl)
  · have he : errV m.fault = .iface 137 (.int .i64 m.fault) := if_neg hf
    have HN : Hid (noteR c a m = (c, 0, m.fault)) := if_pos hf
    rw [he] at HBY
    have HE := Lib.hid he
    clear hf he
    go_enter Try.func67, Try.ntmps67
    go_wp2_with fail
    refine HBY.out.mono ?_
    rintro e w1 ⟨rfl, hb1⟩
    have HR1 := Lib.hid (HR0.out.below hb1)
    have HF1 := Lib.hid (HF0.out.trans (Fr.of_below hb1) (fun _ _ => trivial))
    clear hb1 HBY
    go_wp2_with fail
    exact FIN.out _ _ 0 m.fault c HN.out HR1.out HF1.out rfl (by rw [HE.out]; rfl)
end Go.Proofs.Ytaepdbkfaoiimaa
