/- Several texts of this proof, one behind the other: walks and plain laws that the statements rest on. Conditions: none but those that each lemma names. -/
import Derived.Test.YtaepdbkfaoiimabMd
import Derived.Deep.LoopGhost
import Derived.RegionTactic
import Derived.BigRegion
import Derived.Deep.RegionHeld3
import Derived.Deep.DeepCutAuto
import Derived.RangeFuncCalls
import Derived.OrdersIn
import Derived.OrdersHeld
import Derived.Deep.RegionHeld
import Derived.Sort.LoopGhostIn
/- The contracts of package tower: way, New, Get, Many, All, Put. Conditions: a million entries at most. -/
set_option linter.unusedVariables false
set_option linter.unusedSimpArgs false
namespace Go.Proofs.Ytaepdbkfaoiimab
open Go.RowKit

/-- The cells of a position: its pointer on floor f. -/
theorem TRep.ptr {w : World} {t : Nat} {ns : List Nd} {N : Nat → Nat → Option Addr} {cnt : Int} (h : TRep w t ns N cnt) {i f : Nat} (hi : i ≤ ns.length) (hf : f < 4) : w.cell? ⟨blkOf t ns i, 3 + f, none⟩ = some (.pointer (N (blkOf t ns i) f)) := by
  cases i with
  | zero =>
    rw [show blkOf t ns 0 = t from rfl, h.head.cell]
    match f, hf with
    | 0, _ => rfl
    | 1, _ => rfl
    | 2, _ => rfl
    | 3, _ => rfl
  | succ i =>
    obtain ⟨nd, hnd, _⟩ := getElem?_of_lt (show i < ns.length by omega)
    rw [blkOf_succ hnd, (h.node nd (List.mem_of_getElem? hnd)).cell]
    match f, hf with
    | 0, _ => rfl
    | 1, _ => rfl
    | 2, _ => rfl
    | 3, _ => rfl

/-- A floor is done: the way's array has its position. -/
theorem way_step {t m f i : Nat} {ns : List Nd} {q : Nat → Nat} {w wo : World} {cs : Array Value} {T : TypeId} (hcs : Blk wo (w.heap.size + 1) T cs) (hsz : cs.size = 4)
    (hcg : ∀ g, f + 1 ≤ g → g < 4 → cs[g]? = some (.pointer (some ⟨blkOf t ns (q g), 0, none⟩))) (hf4 : f < 4) (hq : ∀ g, f + 1 ≤ g → g < 4 → IsLast ns m g (q g)) (hl : IsLast ns m f i)
    (hk0 : Blk wo w.heap.size T #[.pointer none, .pointer none, .pointer none, .pointer none]) (hbl : Below w.heap.size w wo) (hfh : f < hOf ns i) :
    ∃ (f' i' : Nat) (q' : Nat → Nat), Value.int .i64 ((f : Int) - 1) = .int .i64 ((f' : Int) - 1) ∧ f' ≤ 4 ∧ Value.pointer (some ⟨blkOf t ns i, 0, none⟩) = .pointer (some ⟨blkOf t ns i', 0, none⟩) ∧ Hid (i' ≤ m ∧ f' ≤ hOf ns i') ∧ Hid (∀ g, f' ≤ g → g < 4 → IsLast ns m g (q' g)) ∧
      Hid (Blk (wo.setCell ⟨w.heap.size + 1, f, none⟩ (.pointer (some ⟨blkOf t ns i, 0, none⟩))) w.heap.size T #[.pointer none, .pointer none, .pointer none, .pointer none]) ∧
      Hid (∃ cs : Array Value, Blk (wo.setCell ⟨w.heap.size + 1, f, none⟩ (.pointer (some ⟨blkOf t ns i, 0, none⟩))) (w.heap.size + 1) T cs ∧ cs.size = 4 ∧ ∀ g, f' ≤ g → g < 4 → cs[g]? = some (.pointer (some ⟨blkOf t ns (q' g), 0, none⟩))) ∧
      Below w.heap.size w (wo.setCell ⟨w.heap.size + 1, f, none⟩ (.pointer (some ⟨blkOf t ns i, 0, none⟩))) := by
  refine ⟨f, i, fun g => if g = f then i else q g, rfl, by omega, rfl, ⟨hl.1, by omega⟩, fun g h1 h2 => ?_, hk0.far (by simp) _, ⟨_, hcs.set_ f _, by simp [hsz], fun g h1 h2 => ?_⟩, hbl.setCell (by simp) _⟩
  · by_cases hg : g = f
    · subst hg; simpa using hl
    · simp only [if_neg hg]; exact hq g (by omega) h2
  · by_cases hg : g = f
    · subst hg; simp [hsz, hf4]
    · rw [Array.getElem?_setIfInBounds_ne (by omega)]
      simp only [if_neg hg]; exact hcg g (by omega) h2

set_option maxHeartbeats 2000000 in
theorem way_any (t : Nat) (ns : List Nd) (N : Nat → Nat → Option Addr) (cnt : Int) (key : ByteArray) (w : World) (hr : TRep w t ns N cnt) (hv : TVal t ns N) (ho : TOk ns) (hn : ns.length ≤ 1000000) :
    Calls Try.prog 57 #[.pointer (some ⟨t, 0, none⟩), .string key] w fun e w' =>
      (∃ i0 i1 i2 i3, e = .returned (.agg #[.pointer (some ⟨blkOf t ns i0, 0, none⟩), .pointer (some ⟨blkOf t ns i1, 0, none⟩), .pointer (some ⟨blkOf t ns i2, 0, none⟩), .pointer (some ⟨blkOf t ns i3, 0, none⟩)]) ∧
        IsLast ns (below ns key) 0 i0 ∧ IsLast ns (below ns key) 1 i1 ∧ IsLast ns (below ns key) 2 i2 ∧ IsLast ns (below ns key) 3 i3) ∧ Below w.heap.size w w' := by
  have HR := Lib.hid hr
  have HV := Lib.hid hv
  have HO := Lib.hid ho
  clear hr hv ho
  obtain ⟨m, hm⟩ : ∃ m, below ns key = m := ⟨_, rfl⟩
  have hmn := below_le ns key
  have HM := Lib.hid hm
  rw [hm] at hmn
  rw [hm]
  clear hm
  go_enter Try.func57, Try.ntmps57
  go_wp2_with fail
  have hb0 : Below w.heap.size w ((w.alloc (.cells #[.pointer none, .pointer none, .pointer none, .pointer none] 99)).alloc (.cells #[.pointer none, .pointer none, .pointer none, .pointer none] 99)) := ((Below.refl _ _).alloc (Nat.le_refl _) _).alloc (by simp) _
  have k0 : Blk ((w.alloc (.cells #[.pointer none, .pointer none, .pointer none, .pointer none] 99)).alloc (.cells #[.pointer none, .pointer none, .pointer none, .pointer none] 99)) w.heap.size 99 #[.pointer none, .pointer none, .pointer none, .pointer none] := (Blk.new _ _ _).alloc _
  have k1 : Blk ((w.alloc (.cells #[.pointer none, .pointer none, .pointer none, .pointer none] 99)).alloc (.cells #[.pointer none, .pointer none, .pointer none, .pointer none] 99)) (w.heap.size + 1) 99 #[.pointer none, .pointer none, .pointer none, .pointer none] := by
    have := Blk.new (w.alloc (.cells #[.pointer none, .pointer none, .pointer none, .pointer none] 99)) 99 #[.pointer none, .pointer none, .pointer none, .pointer none]
    simpa using this
  have K0 := Lib.hid k0
  have K1 := Lib.hid k1
  have HB0 := Lib.hid hb0
  clear k0 k1 hb0
  go_loopw [6, 7] (fun x s wr => ∃ (f i : Nat) (q : Nat → Nat), s = .int .i64 ((f : Int) - 1) ∧ f ≤ 4 ∧ x = .pointer (some ⟨blkOf t ns i, 0, none⟩) ∧ Hid (i ≤ m ∧ f ≤ hOf ns i) ∧ Hid (∀ g, f ≤ g → g < 4 → IsLast ns m g (q g)) ∧
      Hid (Blk wr w.heap.size 99 #[.pointer none, .pointer none, .pointer none, .pointer none]) ∧ Hid (∃ cs : Array Value, Blk wr (w.heap.size + 1) 99 cs ∧ cs.size = 4 ∧ ∀ g, f ≤ g → g < 4 → cs[g]? = some (.pointer (some ⟨blkOf t ns (q g), 0, none⟩))) ∧
      Below w.heap.size w wr) (fun _ s _ => (intOf s + 1).toNat)
  case atStart => exact ⟨4, 0, fun _ => 0, rfl, Nat.le_refl _, rfl, ⟨Nat.zero_le _, by simp [hOf]⟩, fun g h1 h2 => by omega, K0.out, ⟨_, K1.out, rfl, fun g h1 h2 => by omega⟩, HB0.out⟩
  case round =>
    obtain ⟨f, i, q, rfl, hf, rfl, hi, hq, hk0, hk1, hbl⟩ := hrel
    clear K0 K1 HB0
    cases f with
    | zero =>
      obtain ⟨cs, hcs, hsz, hcg⟩ := hk1.out
      obtain ⟨p0, p1, p2, p3, rfl⟩ : ∃ p0 p1 p2 p3, cs = #[p0, p1, p2, p3] := by
        obtain ⟨l⟩ := cs
        match l, hsz with
        | [p0, p1, p2, p3], _ => exact ⟨p0, p1, p2, p3, rfl⟩
      have e0 := hcg 0 (by omega) (by omega)
      have e1 := hcg 1 (by omega) (by omega)
      have e2 := hcg 2 (by omega) (by omega)
      have e3 := hcg 3 (by omega) (by omega)
      simp at e0 e1 e2 e3
      subst e0; subst e1; subst e2; subst e3
      have c0 := hcs.cell 0
      have c1 := hcs.cell 1
      have c2 := hcs.cell 2
      have c3 := hcs.cell 3
      simp at c0 c1 c2 c3
      have b0 := hk0.out.cell 0
      have b1 := hk0.out.cell 1
      have b2 := hk0.out.cell 2
      have b3 := hk0.out.cell 3
      simp at b0 b1 b2 b3
      have z0 := hk0.out.frozen 0
      have z1 := hk0.out.frozen 1
      have z2 := hk0.out.frozen 2
      have z3 := hk0.out.frozen 3
      clear hcs hcg hsz
      have hq0 := hq.out 0 (by omega) (by omega)
      have hq1 := hq.out 1 (by omega) (by omega)
      have hq2 := hq.out 2 (by omega) (by omega)
      have hq3 := hq.out 3 (by omega) (by omega)
      have HQ := Lib.hid (And.intro hq0 (And.intro hq1 (And.intro hq2 hq3)))
      clear hq0 hq1 hq2 hq3
      go_wp2_with fail
      refine bodyPost_ret (v := .agg #[.pointer (some ⟨blkOf t ns (q 0), 0, none⟩), .pointer (some ⟨blkOf t ns (q 1), 0, none⟩), .pointer (some ⟨blkOf t ns (q 2), 0, none⟩), .pointer (some ⟨blkOf t ns (q 3), 0, none⟩)]) ?_ rfl ?_
      · simp [results, Try.results57, go_sem, b0, b1, b2, b3]
      · refine ⟨⟨q 0, q 1, q 2, q 3, rfl, HQ.out.1, HQ.out.2.1, HQ.out.2.2.1, HQ.out.2.2.2⟩, ?_⟩
        exact (((hbl.setCell (Nat.le_refl _) _).setCell (Nat.le_refl _) _).setCell (Nat.le_refl _) _).setCell (Nat.le_refl _) _
    | succ f =>
      have e1 : (((f + 1 : Nat) : Int) - 1) = (f : Int) := by omega
      rw [e1]
      clear e1
      have g1 : (0 : Int) ≤ (f : Int) := by omega
      have g2 : (f : Int) < 4 := by omega
      have hf4 : f < 4 := by omega
      go_wp2_with fail
      obtain ⟨wo, rfl⟩ : ∃ wo : World, wo = wr := ⟨_, rfl⟩
      have HRW := Lib.hid (HR.out.below hbl)
      obtain ⟨cs, hcs, hsz, hcg⟩ := hk1.out
      have s1 : wo.cell? ⟨w.heap.size + 1, f, none⟩ = some (cs.getD f undef) := by rw [hcs.cell]; simp [hsz, hf4]
      have s2 : wo.frozen? ⟨w.heap.size + 1, f, none⟩ = false := hcs.frozen f
      have HCS := Lib.hid hcs
      have HSZ := Lib.hid hsz
      have HCG := Lib.hid hcg
      clear hcs hsz hcg hk1
      have hi1 := hi.out.1
      have hi2 : f < hOf ns i := by have := hi.out.2; omega
      go_loopg [6] (ns.length - i) (fun g x wr => wo = wr ∧ ∃ i', i' ≤ m ∧ x = .pointer (some ⟨blkOf t ns i', 0, none⟩) ∧ g = ns.length - i' ∧ f < hOf ns i')
      case atStart => exact ⟨rfl, i, hi1, rfl, rfl, hi2⟩
      case round =>
        obtain ⟨rfl, i', hi', rfl, hgk, hfh⟩ := hrel
        have HG := Lib.hid hgk
        clear hgk hi1 hi2
        have hp := HRW.out.ptr (i := i') (f := f) (by omega) hf4
        have hat := HV.out.at_ (i := i') (f := f) (by omega) hfh hf4
        rw [hat] at hp
        clear hat
        cases hnx : nxt f (ns.drop i') with
        | none =>
          rw [hnx] at hp
          have HNX := Lib.hid hnx
          clear hnx
          have hlast : Hid (IsLast ns m f i') := ⟨hi', hfh, fun jj h1 h2 => by
            obtain ⟨nd, hnd, _⟩ := getElem?_of_lt (show jj - 1 < ns.length by omega)
            have h3 := nxt_none HNX.out nd (by
              rw [List.mem_iff_getElem?]
              exact ⟨jj - 1 - i', by rw [List.getElem?_drop, show i' + (jj - 1 - i') = jj - 1 by omega]; exact hnd⟩)
            have h4 := hOf_succ hnd
            rw [show jj - 1 + 1 = jj by omega] at h4
            rw [h4]; exact h3⟩
          go_wp2_with fail
          go_roundw
          case rel => exact way_step HCS.out HSZ.out HCG.out hf4 hq.out hlast.out hk0.out hbl hfh
          case measure => simp [intOf] <;> omega
        | some a =>
          obtain ⟨j, nd, hj, hnf, rfl, hless⟩ := nxt_some hnx
          rw [hnx] at hp
          rw [List.getElem?_drop] at hj
          have hnode := (HRW.out.node nd (List.mem_of_getElem? hj)).cell 0
          simp at hnode
          have hltm := below_lt HO.out.rises key (i' + j) nd hj
          rw [HM.out] at hltm
          have HJ := Lib.hid hj
          have HLESS := Lib.hid hless
          clear hnx hj hless
          by_cases hjm : i' + j < m
          · have tlt : Op.bytesLess nd.e.k.toList key.toList = true := hltm.2 hjm
            clear hltm
            have hb1 := blkOf_succ (t := t) HJ.out
            have hh1 := hOf_succ HJ.out
            have HB1 : Hid (blkOf t ns (i' + j + 1) = nd.b) := hb1
            have HH1 : Hid (f < hOf ns (i' + j + 1)) := by rw [Hid, hh1]; exact hnf
            clear hb1 hh1
            go_wp2_with fail
            go_roundg (ns.length - (i' + j + 1))
            case measure => rw [HG.out]; omega
            case rel => exact ⟨rfl, i' + j + 1, by omega, by rw [HB1.out], rfl, HH1.out⟩
          · have tlt : Op.bytesLess nd.e.k.toList key.toList = false := by
              cases h : Op.bytesLess nd.e.k.toList key.toList
              · rfl
              · exact absurd (hltm.1 h) hjm
            clear hltm
            have hlast : Hid (IsLast ns m f i') := ⟨hi', hfh, fun jj h1 h2 => by
              obtain ⟨nd', hnd, _⟩ := getElem?_of_lt (show jj - 1 < ns.length by omega)
              have h3 := HLESS.out (jj - 1 - i') nd' (by omega) (by rw [List.getElem?_drop, show i' + (jj - 1 - i') = jj - 1 by omega]; exact hnd)
              have h4 := hOf_succ hnd
              rw [show jj - 1 + 1 = jj by omega] at h4
              rw [h4]; exact h3⟩
            go_wp2_with fail
            go_roundw
            case rel => exact way_step HCS.out HSZ.out HCG.out hf4 hq.out hlast.out hk0.out hbl hfh
            case measure => simp [intOf] <;> omega

theorem TOk.nil : TOk [] := ⟨by simp, by simp, by simp [Rises]⟩
theorem tnew_any (B : Nat) (w : World) (hB : B ≤ w.heap.size) :
    Calls Try.prog 18 #[] w fun e w' => (e = .returned (.pointer (some ⟨w.heap.size, 0, none⟩)) ∧ Tower B w' w.heap.size [] [w.heap.size]) ∧ Below w.heap.size w w' := by
  go_enter Try.func18, Try.ntmps18
  go_wp2_with fail
  go_ret
  refine ⟨⟨rfl, [], fun _ _ => none, ⟨Blk.new _ _ _, by simp⟩, ⟨fun f _ => rfl, by simp⟩, TOk.nil, rfl, rfl, by simpa using hB⟩, (Below.refl _ _).alloc (Nat.le_refl _) _⟩

theorem tmany_any (B : Nat) (t : Nat) (l : List Ent) (F : List Nat) (w : World) (h : Tower B w t l F) :
    Calls Try.prog 20 #[.pointer (some ⟨t, 0, none⟩)] w fun e w' => e = .returned (.int .i64 l.length) ∧ w = w' := by
  obtain ⟨ns, N, h1, h2, h3, rfl, rfl, h6⟩ := h
  have c7 := h1.head.cell 7
  simp at c7
  rw [List.length_map]
  clear h1 h2 h3 h6
  go_enter Try.func20, Try.ntmps20
  go_wp2_with fail
  go_ret
  exact ⟨rfl, rfl⟩
/-- What the last position on the ground floor is. -/
theorem last_ground {ns : List Nd} {m i : Nat} (ho : TOk ns) (hm : m ≤ ns.length) (h : IsLast ns m 0 i) : i = m := by
  obtain ⟨h1, h2, h3⟩ := h
  rcases Nat.lt_or_ge i m with hlt | hge
  · have h4 := h3 m hlt (Nat.le_refl _)
    obtain ⟨nd, hnd, _⟩ := getElem?_of_lt (show m - 1 < ns.length by omega)
    have h5 := hOf_succ hnd
    rw [show m - 1 + 1 = m by omega] at h5
    have := (ho.high nd (List.mem_of_getElem? hnd)).1
    omega
  · omega
theorem nxt_zero {ns : List Nd} (ho : ∀ nd ∈ ns, 1 ≤ nd.h) : nxt 0 ns = (ns[0]?).map fun nd => ⟨nd.b, 0, none⟩ := by
  cases ns with
  | nil => rfl
  | cons nd ns => rw [nxt, if_pos (by have := ho nd (by simp); omega)]; rfl
/-- The entry of a key: the one behind those that are below it, if that is of that key. -/
theorem get_at {ns : List Nd} (hr : Rises (ns.map Nd.e)) (key : ByteArray) : getE (ns.map Nd.e) key = (ns[below ns key]?).bind fun nd => if nd.e.k = key then some nd.e else none := by
  have hb := below_lt hr key
  cases hx : ns[below ns key]? with
  | none =>
    rw [Option.bind_none]
    unfold getE
    rw [List.find?_eq_none]
    intro e he
    obtain ⟨nd, hnd, rfl⟩ := List.mem_map.1 he
    obtain ⟨i, hi⟩ := List.getElem?_of_mem hnd
    have hlt : i < below ns key := by
      have h1 := List.getElem?_eq_none_iff.1 hx
      have h2 : i < ns.length := by
        rcases Nat.lt_or_ge i ns.length with h | h
        · exact h
        · rw [List.getElem?_eq_none h] at hi; cases hi
      omega
    have := (hb i nd hi).2 hlt
    simpa using ltB_ne this
  | some nd =>
    rw [Option.bind_some]
    by_cases hk : nd.e.k = key
    · rw [if_pos hk, ← hk]
      exact getE_of_mem hr (List.mem_map.2 ⟨nd, List.mem_of_getElem? hx, rfl⟩)
    · rw [if_neg hk]
      unfold getE
      rw [List.find?_eq_none]
      intro e he
      obtain ⟨nd', hnd, rfl⟩ := List.mem_map.1 he
      obtain ⟨i, hi⟩ := List.getElem?_of_mem hnd
      simp only [decide_eq_true_eq]
      intro e
      have hnl : ¬ i < below ns key := fun h => ltB_ne ((hb i nd' hi).2 h) e
      have hm : ¬ ltB nd.e.k key = true := fun h => by have := (hb _ nd hx).1 h; omega
      rcases Nat.lt_or_ge (below ns key) i with hlt | hge
      · have hp := List.pairwise_iff_getElem.1 hr (below ns key) i (by have := (List.getElem?_eq_some_iff.1 hx).1; simpa using this) (by have := (List.getElem?_eq_some_iff.1 hi).1; simpa using this) hlt
        simp only [List.getElem_map] at hp
        rw [(List.getElem?_eq_some_iff.1 hx).2, (List.getElem?_eq_some_iff.1 hi).2, e] at hp
        exact hm hp
      · have : i = below ns key := by omega
        subst this
        rw [hx] at hi
        obtain rfl := Option.some.inj hi
        exact hk e

set_option maxHeartbeats 2000000 in
theorem tget_any (B : Nat) (t : Nat) (l : List Ent) (F : List Nat) (key : ByteArray) (w : World) (h : Tower B w t l F) (hn : l.length ≤ 1000000) :
    Calls Try.prog 23 #[.pointer (some ⟨t, 0, none⟩), .string key] w fun e w' => e = .returned (.tuple #[((getE l key).getD Ent.zero).val, .bool (getE l key).isSome]) ∧ Below w.heap.size w w' := by
  obtain ⟨ns, N, h1, h2, h3, rfl, rfl, h6⟩ := h
  rw [List.length_map] at hn
  have hg := get_at h3.rises key
  have hbl := below_le ns key
  obtain ⟨m, hm⟩ : ∃ m, below ns key = m := ⟨_, rfl⟩
  have HW := Lib.hid (way_any t ns N _ key (w.alloc (.cells #[.string ⟨#[]⟩, .string ⟨#[]⟩, .bool false] 25)) (h1.below ((Below.refl _ _).alloc (Nat.le_refl _) _)) h2 h3 hn)
  rw [hm] at hg hbl HW
  have HG := Lib.hid hg
  have H1 := Lib.hid h1
  have H2 := Lib.hid h2
  have H3 := Lib.hid h3
  clear hg h1 h2 h3 h6 hm
  go_enter Try.func23, Try.ntmps23
  go_wp2_with fail
  refine HW.out.mono ?_
  rintro e w1 ⟨⟨i0, i1, i2, i3, rfl, q0, q1, q2, q3⟩, hb1⟩
  have hi0 := last_ground H3.out hbl q0
  subst hi0
  have hb0 : Below w.heap.size w w1 := ((Below.refl w.heap.size w).alloc (Nat.le_refl _) _).trans (hb1.mono (by simp))
  have hz : Blk w1 w.heap.size 25 #[.string ⟨#[]⟩, .string ⟨#[]⟩, .bool false] := (Blk.new w _ _).below hb1 (by simp)
  clear q0 q1 q2 q3 hb1
  have hb2 := hb0.alloc hb0.size (.cells #[.pointer (some ⟨blkOf t ns i0, 0, none⟩), .pointer (some ⟨blkOf t ns i1, 0, none⟩), .pointer (some ⟨blkOf t ns i2, 0, none⟩), .pointer (some ⟨blkOf t ns i3, 0, none⟩)] 99)
  have hz2 := hz.alloc (.cells #[.pointer (some ⟨blkOf t ns i0, 0, none⟩), .pointer (some ⟨blkOf t ns i1, 0, none⟩), .pointer (some ⟨blkOf t ns i2, 0, none⟩), .pointer (some ⟨blkOf t ns i3, 0, none⟩)] 99)
  have z0 := hz2.cell 0
  have z1 := hz2.cell 1
  have z2 := hz2.cell 2
  simp at z0 z1 z2
  have y0 := hz2.frozen 0
  have y1 := hz2.frozen 1
  have y2 := hz2.frozen 2
  have hp := (H1.out.below hb2).ptr (i := i0) (f := 0) hbl (by omega)
  rw [H2.out.at_ hbl (by
    have := (show 0 < hOf ns i0 by
      cases i0 with
      | zero => simp [hOf]
      | succ i =>
        obtain ⟨nd, hnd, _⟩ := getElem?_of_lt (show i < ns.length by omega)
        rw [hOf_succ hnd]
        have := (H3.out.high nd (List.mem_of_getElem? hnd)).1
        omega)
    exact this) (by omega), nxt_zero (fun nd hnd => (H3.out.high nd (List.mem_of_mem_drop hnd)).1), List.getElem?_drop] at hp
  simp only [Nat.add_zero] at hp
  clear hz hz2
  cases hx : ns[i0]? with
  | none =>
    rw [hx] at hp
    have HG2 : Hid (getE (List.map Nd.e ns) key = none) := by rw [Hid, HG.out, hx]; rfl
    simp at hp
    clear hx HG HW
    go_wp2_with fail
    refine bodyPost_ret (v := .tuple #[Ent.zero.val, .bool false]) (by simp [results, Try.results23, go_sem, Ent.val, Ent.zero, z0, z1, z2]; rfl) rfl ⟨by rw [HG2.out]; rfl, ?_⟩
    exact ((hb2.setCell (Nat.le_refl _) _).setCell (Nat.le_refl _) _).setCell (Nat.le_refl _) _
  | some nd =>
    rw [hx] at hp
    have hnode := (H1.out.below hb2).node nd (List.mem_of_getElem? hx)
    have n0 := hnode.cell 0
    have n1 := hnode.cell 1
    have n2 := hnode.cell 2
    simp at n0 n1 n2 hp
    clear hnode
    by_cases hk : nd.e.k = key
    · have HG2 : Hid (getE (List.map Nd.e ns) key = some nd.e) := by rw [Hid, HG.out, hx]; simp [hk]
      have t1 : (nd.e.k.toList == key.toList) = true := by rw [hk]; simp
      clear hx HG HW hk
      go_wp2_with fail
      refine bodyPost_ret (v := .tuple #[nd.e.val, .bool true]) (by simp [results, Try.results23, go_sem, Ent.val, z0, z1, z2]) rfl ⟨by rw [HG2.out]; rfl, ?_⟩
      exact ((hb2.setCell (Nat.le_refl _) _).setCell (Nat.le_refl _) _).setCell (Nat.le_refl _) _
    · have HG2 : Hid (getE (List.map Nd.e ns) key = none) := by rw [Hid, HG.out, hx]; simp [hk]
      have t1 : (nd.e.k.toList == key.toList) = false := by rw [ba_beq]; simp [hk]
      clear hx HG HW hk
      go_wp2_with fail
      refine bodyPost_ret (v := .tuple #[Ent.zero.val, .bool false]) (by simp [results, Try.results23, go_sem, Ent.val, Ent.zero, z0, z1, z2]; rfl) rfl ⟨by rw [HG2.out]; rfl, ?_⟩
      exact ((hb2.setCell (Nat.le_refl _) _).setCell (Nat.le_refl _) _).setCell (Nat.le_refl _) _

set_option maxHeartbeats 2000000 in
theorem tall_any (B : Nat) (t : Nat) (l : List Ent) (F : List Nat) (w : World) (h : Tower B w t l F) (hn : l.length ≤ 1000000) :
    Calls Try.prog 21 #[.pointer (some ⟨t, 0, none⟩)] w fun e w' => ∃ v, e = .returned v ∧ Ents B w' v l ∧ Below w.heap.size w w' := by
  obtain ⟨ns, N, h1, h2, h3, rfl, rfl, h6⟩ := h
  rw [List.length_map] at hn
  have hp := h1.head.cell 3
  simp at hp
  rw [h2.head 0 (by omega), nxt_zero (fun nd hnd => (h3.high nd hnd).1)] at hp
  have H1 := Lib.hid h1
  have H2 := Lib.hid h2
  have H3 := Lib.hid h3
  clear h1 h2 h3 h6
  go_enter Try.func21, Try.ntmps21
  go_wp2_with fail
  go_loopg [3, 4] ns.length (fun g u x wr => ∃ k, k ≤ ns.length ∧ g = ns.length - k ∧ x = .pointer ((ns[k]?).map fun nd => ⟨nd.b, 0, none⟩) ∧ wr.ownsRow w.heap.size 25 3 u ((ns.take k).map Nd.e).length (((ns.take k).map Nd.e).flatMap Ent.cells) ∧ Below w.heap.size w wr)
  case atStart => exact ⟨0, Nat.zero_le _, rfl, rfl, World.ownsRow_nil _ _ _ _, Below.refl _ _⟩
  case round =>
    obtain ⟨k, hk, hgk, rfl, hown, hbl⟩ := hrel
    have HGK := Lib.hid hgk
    have HOWN := Lib.hid hown
    clear hgk hown hp
    cases hx : ns[k]? with
    | none =>
      have hkn : ns.length ≤ k := List.getElem?_eq_none_iff.1 hx
      simp only [Option.map_none]
      clear hx
      go_wp2_with fail
      go_ret
      refine ⟨_, rfl, ?_, hbl⟩
      have ho := HOWN.out
      rw [List.take_of_length_le hkn] at ho
      exact ⟨Rd.of_own ho, fun e he => by
        obtain ⟨nd, hnd, rfl⟩ := List.mem_map.1 he
        exact (H3.out.high nd hnd).2.2⟩
    | some nd =>
      have hlt : k < ns.length := (List.getElem?_eq_some_iff.1 hx).1
      simp only [Option.map_some]
      have hnd := List.mem_of_getElem? hx
      have hnode := H1.out.node nd hnd
      have hnb := hnode.lt
      have hnw := hnode.below hbl hnb
      have n0 := hnw.cell 0
      have n1 := hnw.cell 1
      have n2 := hnw.cell 2
      simp at n0 n1 n2
      have HP : Hid (N nd.b 0 = (ns[k + 1]?).map fun nd => ⟨nd.b, 0, none⟩) := by
        rw [Hid, H2.out.node k nd hx 0 (by have := (H3.out.high nd hnd).1; omega), nxt_zero (fun nd hnd => (H3.out.high nd (List.mem_of_mem_drop hnd)).1), List.getElem?_drop, Nat.add_zero]
      have HT : Hid ((ns.take (k + 1)).map Nd.e = (ns.take k).map Nd.e ++ [nd.e]) := by
        rw [Hid, List.take_succ_eq_append_getElem hlt, List.map_append, (List.getElem?_eq_some_iff.1 hx).2]; rfl
      have hlen : ((ns.take k).map Nd.e).length ≤ 1000000 := by rw [List.length_map, List.length_take]; omega
      have HNW := Lib.hid hnode
      have hbs := hbl.size
      clear hx hnode hnw hnd
      obtain ⟨i0, hi, hz0, hz1, hz2⟩ := info_parts info_entry
      have hownA := Lib.hid (own_alloc HOWN.out (.cells #[.string nd.e.k, .string nd.e.v, .bool nd.e.g] 25))
      generalize hL : (ns.take k).map Nd.e = L at *
      go_wp2_with (at_builtin; go_loud (refine wpList_append_rd _ rfl (.tmp 18) (.tmp 23) 22 rfl w.heap.size 25 i0 _ 3 40 Try.underlying22 hi hz0 hz1 hz2 rfl (by decide) u3 _ _ rfl hownA.out B 25 _ 1 _ rfl (rd_lit3 _ _ _ rfl _ _ _) (ent_one3 _ _ _) (by unfold maxLen; omega) (by omega) (by simp; omega) ?_); intro v1 w1 hown1 hg1 hat1; (have hb1 := below_own (hbl.alloc hbs _) (Nat.le_refl _) hownA.out hg1); (have hp := (HNW.out.below hb1 hnb).cell 3); (rw [HP.out] at hp); (simp at hp))
      have hown2 : w1.ownsRow w.heap.size 25 3 v1 ((ns.take (k + 1)).map Nd.e).length (((ns.take (k + 1)).map Nd.e).flatMap Ent.cells) := by
        rw [HT.out]; simpa [Ent.cells] using hown1
      clear hi hz0 hz1 hz2 hg1 hat1 hown1 hp
      go_roundg (ns.length - (k + 1))
      case measure => rw [HGK.out]; omega
      case rel => exact ⟨k + 1, by omega, rfl, rfl, hown2, hb1⟩

theorem Tower.nodup_ {w : World} {t : Nat} {ns : List Nd} {N : Nat → Nat → Option Addr} {cnt : Int} (h : TRep w t ns N cnt) (ho : TOk ns) : (t :: ns.map Nd.b).Nodup :=
  List.nodup_cons.2 ⟨fun hm => by obtain ⟨nd, hnd, e⟩ := List.mem_map.1 hm; exact h.ne nd hnd e, ho.nodup⟩

set_option maxHeartbeats 4000000 in
/-- Put, where the key is there. -/
theorem tput_same (B : Nat) (t : Nat) (ns : List Nd) (N : Nat → Nat → Option Addr) (e : Ent) (high : Int) (w : World) (h1 : TRep w t ns N ns.length) (h2 : TVal t ns N) (h3 : TOk ns) (hB : ∀ b ∈ t :: ns.map Nd.b, B ≤ b) (hn : ns.length ≤ 1000000) (he : EntOk e)
    (nd : Nd) (hx : ns[below ns e.k]? = some nd) (hk : nd.e.k = e.k) :
    Calls Try.prog 19 #[.pointer (some ⟨t, 0, none⟩), .agg #[.string e.k, .string e.v, .bool e.g], .int .i64 high] w fun d w' =>
      d = .returned (.tuple #[]) ∧ Tower B w' t (putE (ns.map Nd.e) e) (t :: ns.map Nd.b) ∧ Fr B (· ∈ t :: ns.map Nd.b) w w' := by
  have hbl := below_le ns e.k
  have hput := put_at h3.rises e
  have hrp := rises_put h3.rises e
  have hnd := Tower.nodup_ h1 h3
  obtain ⟨m, hm⟩ : ∃ m, below ns e.k = m := ⟨_, rfl⟩
  have HW := Lib.hid (way_any t ns N _ e.k (w.alloc (.cells #[.string e.k, .string e.v, .bool e.g] 25)) (h1.below ((Below.refl _ _).alloc (Nat.le_refl _) _)) h2 h3 hn)
  rw [hm] at hbl HW hput hx
  have hdrop := List.drop_eq_getElem_cons (List.getElem?_eq_some_iff.1 hx).1
  rw [(List.getElem?_eq_some_iff.1 hx).2] at hdrop
  rw [hdrop] at hput
  simp only [hk, if_true] at hput
  have HPUT : Hid (putE (ns.map Nd.e) e = (ns.take m ++ ⟨nd.b, e, nd.h⟩ :: ns.drop (m + 1)).map Nd.e) := by rw [Hid, hput, List.map_append, List.map_cons]
  have HRP := Lib.hid hrp
  have HND := Lib.hid hnd
  have HX := Lib.hid hx
  have H1 := Lib.hid h1
  have H2 := Lib.hid h2
  have H3 := Lib.hid h3
  have HB := Lib.hid hB
  have t1 : (nd.e.k.toList == e.k.toList) = true := by rw [hk]; simp
  clear hput hrp hnd hx h1 h2 h3 hB hm hdrop hk
  go_enter Try.func19, Try.ntmps19
  go_wp2_with fail
  refine HW.out.mono ?_
  rintro d w1 ⟨⟨i0, i1, i2, i3, rfl, q0, q1, q2, q3⟩, hb1⟩
  have hi0 := last_ground H3.out hbl q0
  subst hi0
  have hb0 : Below w.heap.size w w1 := ((Below.refl w.heap.size w).alloc (Nat.le_refl _) _).trans (hb1.mono (by simp))
  have hz : Blk w1 w.heap.size 25 #[.string e.k, .string e.v, .bool e.g] := (Blk.new w _ _).below hb1 (by simp)
  clear q0 q1 q2 q3 hb1
  have hb2 := hb0.alloc hb0.size (.cells #[.pointer (some ⟨blkOf t ns i0, 0, none⟩), .pointer (some ⟨blkOf t ns i1, 0, none⟩), .pointer (some ⟨blkOf t ns i2, 0, none⟩), .pointer (some ⟨blkOf t ns i3, 0, none⟩)] 99)
  have hz2 := hz.alloc (.cells #[.pointer (some ⟨blkOf t ns i0, 0, none⟩), .pointer (some ⟨blkOf t ns i1, 0, none⟩), .pointer (some ⟨blkOf t ns i2, 0, none⟩), .pointer (some ⟨blkOf t ns i3, 0, none⟩)] 99)
  have z0 := hz2.cell 0
  have z1 := hz2.cell 1
  have z2 := hz2.cell 2
  simp at z0 z1 z2
  have hp := (H1.out.below hb2).ptr (i := i0) (f := 0) hbl (by omega)
  have hpos : 0 < hOf ns i0 := by
    cases i0 with
    | zero => simp [hOf]
    | succ i =>
      obtain ⟨nd, hnd, _⟩ := getElem?_of_lt (show i < ns.length by omega)
      rw [hOf_succ hnd]
      have := (H3.out.high nd (List.mem_of_getElem? hnd)).1
      omega
  rw [H2.out.at_ hbl hpos (by omega), nxt_zero (fun nd hnd => (H3.out.high nd (List.mem_of_mem_drop hnd)).1), List.getElem?_drop] at hp
  simp only [Nat.add_zero] at hp
  rw [HX.out] at hp
  simp at hp
  have hnode := (H1.out.below hb2).node nd (List.mem_of_getElem? HX.out)
  have n0 := hnode.cell 0
  have n1 := hnode.cell 1
  have n2 := hnode.cell 2
  simp at n0 n1 n2
  have y0 := hnode.frozen 0
  have y1 := hnode.frozen 1
  have y2 := hnode.frozen 2
  clear hz hz2 hnode hpos HW
  go_wp2_with fail
  go_quiet (fail)
  go_wp2_with fail
  refine bodyPost_ret (results_none rfl _ _ _) rfl ?_
  have hr2 : TRep ((w1.alloc (.cells #[.pointer (some ⟨blkOf t ns i0, 0, none⟩), .pointer (some ⟨blkOf t ns i1, 0, none⟩), .pointer (some ⟨blkOf t ns i2, 0, none⟩), .pointer (some ⟨blkOf t ns i3, 0, none⟩)] 99)).drewN nq) t ns N ns.length := ⟨(H1.out.below hb2).head, (H1.out.below hb2).node⟩
  have hb3 := below_drewN' hb2 nq
  have hs := sh_put HX.out e
  have hmap : (ns.take i0 ++ ⟨nd.b, e, nd.h⟩ :: ns.drop (i0 + 1)).map Nd.b = ns.map Nd.b := by
    have h1 : ∀ l : List Nd, l.map Nd.b = (sh l).map Prod.fst := fun l => by simp [sh]
    rw [h1, h1, hs]
  have hlen : (ns.take i0 ++ ⟨nd.b, e, nd.h⟩ :: ns.drop (i0 + 1)).length = ns.length := by
    have := congrArg List.length hs; simpa [sh] using this
  have hmem := List.mem_of_getElem? HX.out
  have hmemF : nd.b ∈ t :: ns.map Nd.b := List.mem_cons_of_mem _ (List.mem_map.2 ⟨nd, hmem, rfl⟩)
  have hBn := HB.out nd.b hmemF
  refine ⟨rfl, ⟨_, N, by rw [hlen]; exact hr2.put_ HND.out HX.out e, H2.out.same hs, ⟨by rw [hmap]; exact H3.out.nodup, fun x hx => ?_, by rw [← HPUT.out]; exact HRP.out⟩, HPUT.out, by rw [hmap], HB.out⟩, ?_⟩
  · rcases List.mem_append.1 hx with hx | hx
    · exact H3.out.high x (List.mem_of_mem_take hx)
    · rcases List.mem_cons.1 hx with rfl | hx
      · exact ⟨(H3.out.high nd hmem).1, (H3.out.high nd hmem).2.1, he⟩
      · exact H3.out.high x (List.mem_of_mem_drop hx)
  · have hfr : Fr B (· ∈ t :: ns.map Nd.b) w ((w1.alloc (.cells #[.pointer (some ⟨blkOf t ns i0, 0, none⟩), .pointer (some ⟨blkOf t ns i1, 0, none⟩), .pointer (some ⟨blkOf t ns i2, 0, none⟩), .pointer (some ⟨blkOf t ns i3, 0, none⟩)] 99)).drewN nq) := Fr.of_below hb3
    have hT : ∀ o, (Addr.mk nd.b o none).block < w.heap.size → ∃ cs T fz, w.heap[(Addr.mk nd.b o none).block]? = some (.cells cs T fz) ∧ mutT T = true := fun o _ => ⟨_, _, _, H1.out.node nd hmem, by decide⟩
    exact ((hfr.setCell hBn (.inl hmemF) (hT 0) _).setCell hBn (.inl hmemF) (hT 1) _).setCell hBn (.inl hmemF) (hT 2) _

set_option maxHeartbeats 4000000 in
/-- Put, where the key is new. -/
theorem tput_new (B : Nat) (t : Nat) (ns : List Nd) (N : Nat → Nat → Option Addr) (e : Ent) (high : Int) (w : World) (h1 : TRep w t ns N ns.length) (h2 : TVal t ns N) (h3 : TOk ns) (hB : ∀ b ∈ t :: ns.map Nd.b, B ≤ b) (hBw : B ≤ w.heap.size) (hn : ns.length ≤ 1000000) (he : EntOk e)
    (hx : ∀ nd, ns[below ns e.k]? = some nd → nd.e.k ≠ e.k) (h : Nat) (hh : min (max high 1) 4 = (h : Int)) :
    Calls Try.prog 19 #[.pointer (some ⟨t, 0, none⟩), .agg #[.string e.k, .string e.v, .bool e.g], .int .i64 high] w fun d w' =>
      ∃ nb, d = .returned (.tuple #[]) ∧ w.heap.size ≤ nb ∧ Tower B w' t (putE (ns.map Nd.e) e) (t :: (ns.take (below ns e.k)).map Nd.b ++ nb :: (ns.drop (below ns e.k)).map Nd.b) ∧ Fr B (· ∈ t :: ns.map Nd.b) w w' := by
  have hh1 : 1 ≤ h ∧ h ≤ 4 := by omega
  have hbl := below_le ns e.k
  have hput := put_at h3.rises e
  have hrp := rises_put h3.rises e
  have hnd := Tower.nodup_ h1 h3
  obtain ⟨m, hm⟩ : ∃ m, below ns e.k = m := ⟨_, rfl⟩
  have HW := Lib.hid (way_any t ns N _ e.k (w.alloc (.cells #[.string e.k, .string e.v, .bool e.g] 25)) (h1.below ((Below.refl _ _).alloc (Nat.le_refl _) _)) h2 h3 hn)
  rw [hm] at hbl HW hput hx
  rw [hm]
  have HPUT : ∀ nb, Hid (putE (ns.map Nd.e) e = (ns.take m ++ ⟨nb, e, h⟩ :: ns.drop m).map Nd.e) := fun nb => by
    rw [Hid, hput, List.map_append, List.map_cons]
    congr 2
    cases hd : ns.drop m with
    | nil => rfl
    | cons x r =>
      have h1 : ns[m]? = some x := by
        have := List.getElem?_drop (xs := ns) (i := m) (j := 0)
        rw [hd] at this; simpa using this.symm
      simp only [if_neg (hx x h1)]
  have HPT : Hid (∀ nb, Hid (putE (ns.map Nd.e) e = (ns.take m ++ ⟨nb, e, h⟩ :: ns.drop m).map Nd.e)) := HPUT
  have HRP := Lib.hid hrp
  have HND := Lib.hid hnd
  have HX := Lib.hid hx
  have H1 := Lib.hid h1
  have H2 := Lib.hid h2
  have H3 := Lib.hid h3
  have HB := Lib.hid hB
  have HH := Lib.hid hh
  clear hput hrp hnd hx h1 h2 h3 hB hm HPUT hh
  go_enter Try.func19, Try.ntmps19
  go_wp2_with fail
  refine HW.out.mono ?_
  rintro d w1 ⟨⟨i0, i1, i2, i3, rfl, q0, q1, q2, q3⟩, hb1⟩
  have hi0 := last_ground H3.out hbl q0
  subst hi0
  have HQ : Hid (IsLast ns i0 0 i0 ∧ IsLast ns i0 1 i1 ∧ IsLast ns i0 2 i2 ∧ IsLast ns i0 3 i3) := ⟨q0, q1, q2, q3⟩
  have hb0 : Below w.heap.size w w1 := ((Below.refl w.heap.size w).alloc (Nat.le_refl _) _).trans (hb1.mono (by simp))
  have hz : Blk w1 w.heap.size 25 #[.string e.k, .string e.v, .bool e.g] := (Blk.new w _ _).below hb1 (by simp)
  clear q0 q1 q2 q3 hb1
  have hb2 := hb0.alloc hb0.size (.cells #[.pointer (some ⟨blkOf t ns i0, 0, none⟩), .pointer (some ⟨blkOf t ns i1, 0, none⟩), .pointer (some ⟨blkOf t ns i2, 0, none⟩), .pointer (some ⟨blkOf t ns i3, 0, none⟩)] 99)
  have hz2 := hz.alloc (.cells #[.pointer (some ⟨blkOf t ns i0, 0, none⟩), .pointer (some ⟨blkOf t ns i1, 0, none⟩), .pointer (some ⟨blkOf t ns i2, 0, none⟩), .pointer (some ⟨blkOf t ns i3, 0, none⟩)] 99)
  have z0 := hz2.cell 0
  have z1 := hz2.cell 1
  have z2 := hz2.cell 2
  simp at z0 z1 z2
  have hp := (H1.out.below hb2).ptr (i := i0) (f := 0) hbl (by omega)
  have hpos : 0 < hOf ns i0 := HQ.out.1.2.1
  rw [H2.out.at_ hbl hpos (by omega), nxt_zero (fun nd hnd => (H3.out.high nd (List.mem_of_mem_drop hnd)).1), List.getElem?_drop] at hp
  simp only [Nat.add_zero] at hp
  clear hz hz2 hpos HW
  have HB2 := Lib.hid hb2
  have hbase : ∀ (nq : Nat) , Hid (TPut B w (((w1.alloc (.cells #[.pointer (some ⟨blkOf t ns i0, 0, none⟩), .pointer (some ⟨blkOf t ns i1, 0, none⟩), .pointer (some ⟨blkOf t ns i2, 0, none⟩), .pointer (some ⟨blkOf t ns i3, 0, none⟩)] 99)).drewN nq).alloc (.cells #[.string e.k, .string e.v, .bool e.g, .pointer none, .pointer none, .pointer none, .pointer none] 101)) t ns N w1.heap.size (w1.heap.size + 1) 99 (at4 i0 i1 i2 i3) e h 0) := by
    intro nq
    have hb3 := below_drewN' HB2.out nq
    have hb4 := hb3.alloc hb3.size (.cells #[.string e.k, .string e.v, .bool e.g, .pointer none, .pointer none, .pointer none, .pointer none] 101)
    have hr4 := H1.out.below hb4
    have hnew := Blk.new ((w1.alloc (.cells #[.pointer (some ⟨blkOf t ns i0, 0, none⟩), .pointer (some ⟨blkOf t ns i1, 0, none⟩), .pointer (some ⟨blkOf t ns i2, 0, none⟩), .pointer (some ⟨blkOf t ns i3, 0, none⟩)] 99)).drewN nq) 101 #[.string e.k, .string e.v, .bool e.g, .pointer none, .pointer none, .pointer none, .pointer none]
    have harr : Blk ((w1.alloc (.cells #[.pointer (some ⟨blkOf t ns i0, 0, none⟩), .pointer (some ⟨blkOf t ns i1, 0, none⟩), .pointer (some ⟨blkOf t ns i2, 0, none⟩), .pointer (some ⟨blkOf t ns i3, 0, none⟩)] 99)).drewN nq) w1.heap.size 99 #[.pointer (some ⟨blkOf t ns i0, 0, none⟩), .pointer (some ⟨blkOf t ns i1, 0, none⟩), .pointer (some ⟨blkOf t ns i2, 0, none⟩), .pointer (some ⟨blkOf t ns i3, 0, none⟩)] := Blk.new w1 _ _
    have hlt : ∀ b ∈ t :: ns.map Nd.b, b < w.heap.size := by
      intro b hb
      rcases List.mem_cons.1 hb with rfl | hb
      · exact H1.out.head.lt
      · obtain ⟨nd, hnd, rfl⟩ := List.mem_map.1 hb; exact (H1.out.node nd hnd).lt
    have hs0 := HB2.out.size
    simp at hs0
    have hn1 : ∀ b ∈ t :: ns.map Nd.b, putN N (w1.heap.size + 1) (fun f => blkOf t ns (at4 i0 i1 i2 i3 f)) 0 b = N b := by
      intro b hb; funext g; unfold putN
      have := hlt b hb
      have := hb0.size
      rw [if_neg (by omega), if_neg (by omega)]
    have hn2 : putN N (w1.heap.size + 1) (fun f => blkOf t ns (at4 i0 i1 i2 i3 f)) 0 (w1.heap.size + 1) = fun _ => none := by
      funext g; unfold putN
      rw [if_neg (by omega), if_pos rfl]
    refine ⟨⟨?_, fun nd hnd => ?_⟩, harr.alloc _, Fr.of_below hb4, by have := hb0.size; omega⟩
    · rw [hn1 t (by simp)]; exact hr4.head
    · rcases List.mem_cons.1 hnd with rfl | hnd
      · simp only [hn2]; simpa using hnew
      · rw [hn1 nd.b (List.mem_cons_of_mem _ (List.mem_map.2 ⟨nd, hnd, rfl⟩))]; exact hr4.node nd hnd
  have HBASE := Lib.hid hbase
  clear hbase
  have hc3 : (high < 1 ∧ h = 1) ∨ high = (h : Int) ∨ (4 < high ∧ h = 4) := by have := HH.out; omega
  have hhi : (1 : Int) ≤ (h : Int) := by omega
  have hlo : (h : Int) ≤ 4 := by omega
  have HQ4 : Hid (∀ f, f < 4 → IsLast ns i0 f (at4 i0 i1 i2 i3 f)) := by
    intro f hf
    obtain ⟨q0, q1, q2, q3⟩ := HQ.out
    match f, hf with
    | 0, _ => exact q0
    | 1, _ => exact q1
    | 2, _ => exact q2
    | 3, _ => exact q3
  cases hy : ns[i0]? with
  | none =>
    rw [hy] at hp
    simp at hp
    clear hy
    rcases hc3 with ⟨hc, hc1⟩ | rfl | ⟨hc, hc1⟩
    all_goals
      go_wp2_with fail
      go_quiet (fail)
      go_wp2_with fail
      have hst := Lib.hid (HBASE.out nq).out
      clear z0 z1 z2 hp
      (try clear n0)
      go_loopw [9, 42] (fun x s wr => ∃ f : Nat, s = .int .i64 f ∧ f ≤ h ∧ Hid (TPut B w wr t ns N w1.heap.size (w1.heap.size + 1) 99 (at4 i0 i1 i2 i3) e h f)) (fun _ s _ => ((h : Int) - intOf s).toNat)
      case atStart => exact ⟨0, rfl, Nat.zero_le _, hst⟩
      case round =>
        obtain ⟨f, rfl, hf, hT⟩ := hrel
        by_cases hfh : f < h
        · have hq := HQ4.out f (by omega)
          have hql := hq.1
          obtain ⟨c1, c2, c3, ⟨v4, c4⟩, c5, c6, c7⟩ := hT.out.facts H1.out (by omega) (by omega)
          have g1 : (0 : Int) ≤ (f : Int) := by omega
          have g2 : (f : Int) < 4 := by omega
          have g3 : f < 4 := by omega
          clear hst
          go_wp2_with fail
          go_region
          go_wp2_with fail
          go_roundw
          case rel => exact ⟨f + 1, by simp, by omega, (hT.out.step H1.out HND.out (by omega) g3 HB.out hBw ⟨by omega, hb0.size⟩).drew⟩
          case measure => simp [intOf] <;> omega
        · obtain rfl : f = h := by omega
          obtain ⟨c1, c2⟩ := hT.out.cnt
          clear hst
          go_wp2_with fail
          go_end0
          obtain ⟨r1, r2⟩ := hT.out.done H1.out H2.out H3.out HND.out HB.out hBw hh1 he hbl HQ4.out ((HPT.out _).out)
          exact ⟨_, rfl, hT.out.new, r1, r2⟩
  | some nd =>
    rw [hy] at hp
    simp at hp
    have hnode := (H1.out.below hb2).node nd (List.mem_of_getElem? hy)
    have n0 := hnode.cell 0
    simp at n0
    have t1 : (nd.e.k.toList == e.k.toList) = false := by rw [ba_beq]; simp [HX.out nd hy]
    clear hnode hy
    rcases hc3 with ⟨hc, hc1⟩ | rfl | ⟨hc, hc1⟩
    all_goals
      go_wp2_with fail
      go_quiet (fail)
      go_wp2_with fail
      have hst := Lib.hid (HBASE.out nq).out
      clear z0 z1 z2 hp
      (try clear n0)
      go_loopw [9, 42] (fun x s wr => ∃ f : Nat, s = .int .i64 f ∧ f ≤ h ∧ Hid (TPut B w wr t ns N w1.heap.size (w1.heap.size + 1) 99 (at4 i0 i1 i2 i3) e h f)) (fun _ s _ => ((h : Int) - intOf s).toNat)
      case atStart => exact ⟨0, rfl, Nat.zero_le _, hst⟩
      case round =>
        obtain ⟨f, rfl, hf, hT⟩ := hrel
        by_cases hfh : f < h
        · have hq := HQ4.out f (by omega)
          have hql := hq.1
          obtain ⟨c1, c2, c3, ⟨v4, c4⟩, c5, c6, c7⟩ := hT.out.facts H1.out (by omega) (by omega)
          have g1 : (0 : Int) ≤ (f : Int) := by omega
          have g2 : (f : Int) < 4 := by omega
          have g3 : f < 4 := by omega
          clear hst
          go_wp2_with fail
          go_region
          go_wp2_with fail
          go_roundw
          case rel => exact ⟨f + 1, by simp, by omega, (hT.out.step H1.out HND.out (by omega) g3 HB.out hBw ⟨by omega, hb0.size⟩).drew⟩
          case measure => simp [intOf] <;> omega
        · obtain rfl : f = h := by omega
          obtain ⟨c1, c2⟩ := hT.out.cnt
          clear hst
          go_wp2_with fail
          go_end0
          obtain ⟨r1, r2⟩ := hT.out.done H1.out H2.out H3.out HND.out HB.out hBw hh1 he hbl HQ4.out ((HPT.out _).out)
          exact ⟨_, rfl, hT.out.new, r1, r2⟩

/-- Put, whatever the key. -/
theorem tput_any (B : Nat) (t : Nat) (l : List Ent) (F : List Nat) (e : Ent) (high : Int) (w : World) (h : Tower B w t l F) (hBw : B ≤ w.heap.size) (hn : l.length ≤ 1000000) (he : EntOk e) :
    Calls Try.prog 19 #[.pointer (some ⟨t, 0, none⟩), .agg #[.string e.k, .string e.v, .bool e.g], .int .i64 high] w fun d w' =>
      ∃ F', d = .returned (.tuple #[]) ∧ Tower B w' t (putE l e) F' ∧ Fr B (· ∈ F) w w' ∧ ∀ b ∈ F', b ∈ F ∨ w.heap.size ≤ b := by
  obtain ⟨ns, N, h1, h2, h3, rfl, rfl, h6⟩ := h
  rw [List.length_map] at hn
  have new : (∀ nd, ns[below ns e.k]? = some nd → nd.e.k ≠ e.k) → Calls Try.prog 19 #[.pointer (some ⟨t, 0, none⟩), .agg #[.string e.k, .string e.v, .bool e.g], .int .i64 high] w fun d w' =>
      ∃ F', d = .returned (.tuple #[]) ∧ Tower B w' t (putE (ns.map Nd.e) e) F' ∧ Fr B (· ∈ t :: ns.map Nd.b) w w' ∧ ∀ b ∈ F', b ∈ t :: ns.map Nd.b ∨ w.heap.size ≤ b := by
    intro hx
    obtain ⟨h, hh⟩ : ∃ h : Nat, min (max high 1) 4 = (h : Int) := ⟨(min (max high 1) 4).toNat, by omega⟩
    refine (tput_new B t ns N e high w h1 h2 h3 h6 hBw hn he hx h hh).mono ?_
    rintro d w' ⟨nb, rfl, hnb, hT, hF⟩
    refine ⟨_, rfl, hT, hF, fun b hb => ?_⟩
    simp only [List.cons_append, List.mem_cons, List.mem_append, List.mem_map] at hb
    rcases hb with rfl | ⟨x, hx, rfl⟩ | rfl | ⟨x, hx, rfl⟩
    · exact .inl (by simp)
    · exact .inl (List.mem_cons_of_mem _ (List.mem_map.2 ⟨x, List.mem_of_mem_take hx, rfl⟩))
    · exact .inr hnb
    · exact .inl (List.mem_cons_of_mem _ (List.mem_map.2 ⟨x, List.mem_of_mem_drop hx, rfl⟩))
  cases hx : ns[below ns e.k]? with
  | none => exact new fun nd h => by rw [hx] at h; cases h
  | some nd =>
    by_cases hk : nd.e.k = e.k
    · refine (tput_same B t ns N e high w h1 h2 h3 h6 hn he nd hx hk).mono ?_
      rintro d w' ⟨rfl, hT, hF⟩
      exact ⟨_, rfl, hT, hF, fun b hb => .inl hb⟩
    · exact new fun nd' h => by rw [hx] at h; injection h with h; rw [← h]; exact hk
/-- Get, its result written out. -/
theorem tget_two (B : Nat) (t : Nat) (l : List Ent) (F : List Nat) (key : ByteArray) (w : World) (h : Tower B w t l F) (hn : l.length ≤ 1000000) :
    Calls Try.prog 23 #[.pointer (some ⟨t, 0, none⟩), .string key] w fun e w' => (∃ x : Ent, x = (getE l key).getD Ent.zero ∧ e = .returned (.tuple #[.agg #[.string x.k, .string x.v, .bool x.g], .bool (getE l key).isSome])) ∧ Below w.heap.size w w' := by
  refine (tget_any B t l F key w h hn).mono ?_
  rintro e w' ⟨rfl, hb⟩
  exact ⟨⟨_, rfl, rfl⟩, hb⟩
end Go.Proofs.Ytaepdbkfaoiimab
/- How a store lies in memory; take, used. Conditions: none but those that each names. -/
set_option linter.unusedVariables false
set_option linter.unusedSimpArgs false
namespace Go.Proofs.Ytaepdbkfaoiimab
open Go.RowKit

/-- The store of block q, on the chip of block p; what is at hand lies in the blocks F. -/
def StoreR (B : Nat) (w : World) (q p : Nat) (s : SM) (F : List Nat) : Prop :=
  ∃ A1 c1 A2 c2 t n, Blk w q 148 #[.pointer (some ⟨p, 0, none⟩), .int .i64 s.m.ep, .int .i64 s.m.log, .slice A1 s.m.nw.length c1, .slice A2 s.m.od.length c2, .int .i64 s.at_, .pointer (some ⟨t, 0, none⟩), .int .i64 n] ∧
    Ints B w (.slice A1 s.m.nw.length c1) s.m.nw ∧ Ints B w (.slice A2 s.m.od.length c2) s.m.od ∧ Tower B w t s.mem F ∧ B ≤ q ∧ q ∉ F
section
variable {B : Nat} {M : Nat → Prop} {w w' : World} {q p : Nat} {s : SM} {F : List Nat} {c : Chip}
theorem StoreR.fr (h : StoreR B w q p s F) (hf : Fr B M w w') (hM : ∀ b ∈ q :: F, ¬ M b) : StoreR B w' q p s F := by
  obtain ⟨A1, c1, A2, c2, t, n, h1, h2, h3, h4, h5, h6⟩ := h
  exact ⟨A1, c1, A2, c2, t, n, h1.fr hf (.inr (.inl (hM q (by simp)))), h2.fr hf, h3.fr hf, h4.fr hf fun b hb => hM b (by simp [hb]), h5, h6⟩
theorem StoreR.below (h : StoreR B w q p s F) (hb : Below w.heap.size w w') : StoreR B w' q p s F := h.fr (M := fun _ => False) (.of_below hb) fun _ _ => id
theorem StoreR.drewN (h : StoreR B w q p s F) (n : Nat) : StoreR B (w.drewN n) q p s F := h.fr (M := fun _ => False) ((Fr.refl _ _ _).drewN n) fun _ _ => id
theorem StoreR.lt (h : StoreR B w q p s F) : q < w.heap.size := by obtain ⟨A1, c1, A2, c2, t, n, h1, _⟩ := h; exact h1.lt
theorem StoreR.base (h : StoreR B w q p s F) : B ≤ q := by obtain ⟨A1, c1, A2, c2, t, n, _, _, _, _, h5, _⟩ := h; exact h5
/-- A block of another type is none of the tower's. -/
theorem Tower.type {t : Nat} {l : List Ent} (h : Tower B w t l F) {g : Nat} {cs : Array Value} {T : TypeId} {fz : Nat × Nat} (hg : w.heap[g]? = some (.cells cs T fz)) (h1 : T ≠ 103) (h2 : T ≠ 101) : g ∉ F := by
  obtain ⟨ns, N, k1, k2, k3, rfl, rfl, k6⟩ := h
  intro hm
  rcases List.mem_cons.1 hm with rfl | hm
  · have := k1.head
    unfold Blk at this
    rw [hg] at this
    injection this with this
    injection this with _ e
    exact h1 e
  · obtain ⟨nd, hnd, rfl⟩ := List.mem_map.1 hm
    have := k1.node nd hnd
    unfold Blk at this
    rw [hg] at this
    injection this with this
    injection this with _ e
    exact h2 e
theorem StoreR.apart (h : StoreR B w q p s F) (hc : ChipR B w p c) : ∀ b ∈ q :: F, b ≠ p := by
  obtain ⟨A1, c1, A2, c2, t, n, h1, _, _, h4, _, _⟩ := h
  obtain ⟨V, u, hv, _⟩ := hc
  have hp : w.heap[p]? = some (.cells (chipL V c u).toArray 118 (0, 0)) := hv.blk
  intro b hb
  rcases List.mem_cons.1 hb with rfl | hb
  · rintro rfl
    unfold Blk at h1
    rw [hp] at h1
    injection h1 with h1
    injection h1 with _ e
    exact absurd e (by decide)
  · rintro rfl
    exact h4.type hp (by decide) (by decide) hb
/-- Steps on the chip alone. -/
theorem StoreR.chip (h : StoreR B w q p s F) (hc : ChipR B w p c) (hf : Fr B (· = p) w w') : StoreR B w' q p s F := h.fr hf (h.apart hc)
end
set_option maxRecDepth 20000 in
set_option maxHeartbeats 4000000 in
theorem used_any (B : Nat) (q p : Nat) (s : SM) (F : List Nat) (w : World) (h : StoreR B w q p s F) (h1 : s.m.nw.length ≤ 1000) (h2 : s.m.od.length ≤ 1000) :
    Calls Try.prog 107 #[.pointer (some ⟨q, 0, none⟩)] w fun e w' => ∃ v, e = .returned v ∧ Ints B w' v s.m.all ∧ Below w.heap.size w w' := by
  have hlt := h.lt
  obtain ⟨A1, c1, A2, c2, t, n, hk, hn, ho, _, _, _⟩ := h
  obtain ⟨_, _, e1, k1, k2, _⟩ := hn.form
  obtain ⟨_, _, e2, k3, k4, _⟩ := ho.form
  cases e1; cases e2
  have HN := Lib.hid hn
  have HO := Lib.hid ho
  have x2 := hk.cell 2
  have x3 := hk.cell 3
  have x4 := hk.cell 4
  simp at x2 x3 x4
  have HC : Hid (∀ w' : World, Below w.heap.size w w' → (w'.cell? ⟨q, 2, none⟩ = some (.int .i64 s.m.log) ∧ w'.cell? ⟨q, 3, none⟩ = some (.slice A1 s.m.nw.length c1) ∧ w'.cell? ⟨q, 4, none⟩ = some (.slice A2 s.m.od.length c2)) ∧ Below w.heap.size w w') := fun w' hb =>
    ⟨⟨(hb.cell (p := ⟨q, 2, none⟩) hlt).trans x2, (hb.cell (p := ⟨q, 3, none⟩) hlt).trans x3, (hb.cell (p := ⟨q, 4, none⟩) hlt).trans x4⟩, hb⟩
  have hBa : Below w.heap.size w ((w.alloc (.cells #[.int .i64 s.m.log] 3)).alloc (.cells #[.slice A1 s.m.nw.length c1, .slice A2 s.m.od.length c2] 34)).drew := (((Below.refl _ _).alloc (Nat.le_refl _) _).alloc (by simp) _).drew
  have hBb : Below w.heap.size w ((w.alloc (.cells #[.slice A1 s.m.nw.length c1, .slice A2 s.m.od.length c2] 34)).alloc (.cells #[.int .i64 s.m.log] 3)).drew := (((Below.refl _ _).alloc (Nat.le_refl _) _).alloc (by simp) _).drew
  have hBc : Below w.heap.size w (w.alloc (.cells #[.slice A1 s.m.nw.length c1, .slice A2 s.m.od.length c2] 34)).drew := ((Below.refl _ _).alloc (Nat.le_refl _) _).drew
  have ga : Blk ((w.alloc (.cells #[.int .i64 s.m.log] 3)).alloc (.cells #[.slice A1 s.m.nw.length c1, .slice A2 s.m.od.length c2] 34)).drew (w.heap.size + 1) 34 #[.slice A1 s.m.nw.length c1, .slice A2 s.m.od.length c2] := by
    have := Blk.drewN (Blk.new (w.alloc (.cells #[.int .i64 s.m.log] 3)) 34 #[.slice A1 s.m.nw.length c1, .slice A2 s.m.od.length c2]) 1
    simp only [World.size_alloc] at this
    exact this
  have gb : Blk ((w.alloc (.cells #[.slice A1 s.m.nw.length c1, .slice A2 s.m.od.length c2] 34)).alloc (.cells #[.int .i64 s.m.log] 3)).drew w.heap.size 34 #[.slice A1 s.m.nw.length c1, .slice A2 s.m.od.length c2] := Blk.drewN ((Blk.new w 34 #[.slice A1 s.m.nw.length c1, .slice A2 s.m.od.length c2]).alloc (.cells #[.int .i64 s.m.log] 3)) 1
  have gc : Blk (w.alloc (.cells #[.slice A1 s.m.nw.length c1, .slice A2 s.m.od.length c2] 34)).drew w.heap.size 34 #[.slice A1 s.m.nw.length c1, .slice A2 s.m.od.length c2] := Blk.drewN (Blk.new w 34 #[.slice A1 s.m.nw.length c1, .slice A2 s.m.od.length c2]) 1
  have la : Blk ((w.alloc (.cells #[.int .i64 s.m.log] 3)).alloc (.cells #[.slice A1 s.m.nw.length c1, .slice A2 s.m.od.length c2] 34)).drew w.heap.size 3 #[.int .i64 s.m.log] := Blk.drewN ((Blk.new w 3 #[.int .i64 s.m.log]).alloc (.cells #[.slice A1 s.m.nw.length c1, .slice A2 s.m.od.length c2] 34)) 1
  have lb : Blk ((w.alloc (.cells #[.slice A1 s.m.nw.length c1, .slice A2 s.m.od.length c2] 34)).alloc (.cells #[.int .i64 s.m.log] 3)).drew (w.heap.size + 1) 3 #[.int .i64 s.m.log] := by
    have := Blk.drewN (Blk.new (w.alloc (.cells #[.slice A1 s.m.nw.length c1, .slice A2 s.m.od.length c2] 34)) 3 #[.int .i64 s.m.log]) 1
    simp only [World.size_alloc] at this
    exact this
  have CA : Hid (Calls Try.prog 59 #[.slice (some ⟨w.heap.size + 1, 0, none⟩) 2 2] ((w.alloc (.cells #[.int .i64 s.m.log] 3)).alloc (.cells #[.slice A1 s.m.nw.length c1, .slice A2 s.m.od.length c2] 34)).drew fun e w3 => ∃ v3, e = .returned v3 ∧ Ints B w3 v3 (s.m.nw ++ s.m.od) ∧ Below w.heap.size w w3 ∧ Blk w3 w.heap.size 3 #[.int .i64 s.m.log]) :=
    (concat_rd B _ _ _ s.m.nw s.m.od _ ga (HN.out.below hBa) (HO.out.below hBa) (by omega) (by omega)).mono fun e w3 ⟨v3, h3, h4, h5⟩ => ⟨v3, h3, h4, hBa.trans (h5.mono (by simp <;> omega)), la.below h5 la.lt⟩
  have CB : Hid (Calls Try.prog 59 #[.slice (some ⟨w.heap.size, 0, none⟩) 2 2] ((w.alloc (.cells #[.slice A1 s.m.nw.length c1, .slice A2 s.m.od.length c2] 34)).alloc (.cells #[.int .i64 s.m.log] 3)).drew fun e w3 => ∃ v3, e = .returned v3 ∧ Ints B w3 v3 (s.m.nw ++ s.m.od) ∧ Below w.heap.size w w3 ∧ Blk w3 (w.heap.size + 1) 3 #[.int .i64 s.m.log]) :=
    (concat_rd B _ _ _ s.m.nw s.m.od _ gb (HN.out.below hBb) (HO.out.below hBb) (by omega) (by omega)).mono fun e w3 ⟨v3, h3, h4, h5⟩ => ⟨v3, h3, h4, hBb.trans (h5.mono (by simp <;> omega)), lb.below h5 lb.lt⟩
  have CC : Hid (Calls Try.prog 59 #[.slice (some ⟨w.heap.size, 0, none⟩) 2 2] (w.alloc (.cells #[.slice A1 s.m.nw.length c1, .slice A2 s.m.od.length c2] 34)).drew fun e w3 => ∃ v3, e = .returned v3 ∧ Ints B w3 v3 (s.m.nw ++ s.m.od) ∧ Below w.heap.size w w3) :=
    (concat_rd B _ _ _ s.m.nw s.m.od _ gc (HN.out.below hBc) (HO.out.below hBc) (by omega) (by omega)).mono fun e w3 ⟨v3, h3, h4, h5⟩ => ⟨v3, h3, h4, hBc.trans (h5.mono (by simp))⟩
  have HBA : Hid (Below w.heap.size w ((w.alloc (.cells #[.int .i64 s.m.log] 3)).alloc (.cells #[.slice A1 s.m.nw.length c1, .slice A2 s.m.od.length c2] 34)).drew ∧ Below w.heap.size w ((w.alloc (.cells #[.slice A1 s.m.nw.length c1, .slice A2 s.m.od.length c2] 34)).alloc (.cells #[.int .i64 s.m.log] 3)).drew ∧ Below w.heap.size w (w.alloc (.cells #[.slice A1 s.m.nw.length c1, .slice A2 s.m.od.length c2] 34)).drew) := ⟨hBa, hBb, hBc⟩
  have HB0 : Hid (Below w.heap.size w w.drew) := (Below.refl _ _).drew
  obtain ⟨i0, hi, hz0, hz1, hz2⟩ := info_parts info_int
  clear hBa hBb hBc ga gb gc la lb hk hn ho
  go_enter Try.func107, Try.ntmps107
  go_wp2_with fail
  go_region_held3 (fun w' => (w'.cell? ⟨q, 2, none⟩ = some (.int .i64 s.m.log) ∧ w'.cell? ⟨q, 3, none⟩ = some (.slice A1 s.m.nw.length c1) ∧ w'.cell? ⟨q, 4, none⟩ = some (.slice A2 s.m.od.length c2)) ∧ Below w.heap.size w w')
    ((first
      | exact HC.out _ hB5
      | exact HC.out _ hB6
      | exact HC.out _ hB4
      | exact HC.out _ HB0.out
      | exact HC.out _ HBA.out.2.2
      | exact HC.out _ HBA.out.1
      | exact HC.out _ HBA.out.2.1
      | exact HC.out _ ((Below.refl _ _).alloc (by simp) _).drew))
    ((first
      | (go_at_call 59; ((with_reducible refine CA.out.mono ?_); rintro e w3 ⟨v3, rfl, hi3, hB4, q17⟩))
      | (go_at_call 59; ((with_reducible refine CB.out.mono ?_); rintro e w3 ⟨v3, rfl, hi3, hB4, q17⟩))
      | (go_at_call 59; ((with_reducible refine CC.out.mono ?_); rintro e w3 ⟨v3, rfl, hi3, hB4⟩; have q18 := Blk.new w3 3 #[.int .i64 s.m.log]; have hi4 : Ints B (w3.alloc (.cells #[.int .i64 s.m.log] 3)) v3 (s.m.nw ++ s.m.od) := hi3.below ((Below.refl _ _).alloc (Nat.le_refl _) _); have s18 : w.heap.size ≤ w3.heap.size := (by have := hB4.size; omega); have hB6 := hB4.alloc s18 (.cells #[.int .i64 s.m.log] 3)))
      | (refine step_append_rd rfl (.tmp 8) (.tmp 20) 34 rfl w.heap.size 3 i0 _ 1 8 Try.underlying34 hi hz0 hz1 hz2 rfl (by decide) _ 1 [.int .i64 s.m.log] rfl (own_one (base := w.heap.size) q17 (by omega)) B 3 v3 _ _ rfl hi3 ints_one (by unfold maxLen; simp <;> omega) (by simp <;> omega) (by have := hB4.size; omega) ?_; intro v4 w4 hown4 hg4 hat4; have hB5 : Below w.heap.size w w4 := hB4.grown hg4 hB4.size (own_ge (own_one (base := w.heap.size) q17 (by omega))))
      | (refine step_append_rd rfl (.tmp 8) (.tmp 20) 34 rfl w.heap.size 3 i0 (.int .i64 0) 1 8 Try.underlying34 hi hz0 hz1 hz2 rfl (by decide) (.slice (some ⟨w3.heap.size, 0, none⟩) 1 1) 1 [.int .i64 s.m.log] rfl (own_one (base := w.heap.size) q18 s18) B 3 v3 (s.m.nw ++ s.m.od).length ((s.m.nw ++ s.m.od).map (.int .i64)) rfl hi4 ints_one (by unfold maxLen; simp <;> omega) (by simp <;> omega) (by have := hB6.size; simp at this ⊢; omega) ?_; intro v4 w4 hown4 hg4 hat4; have hB5 : Below w.heap.size w w4 := hB6.grown hg4 hB6.size (own_ge (own_one q18 s18)))))
  all_goals
    have HI4 : Hid (Ints B w4 v4 s.m.all) := by
      have := Rd.of_own (B := B) hown4
      have e : (1 + (s.m.nw ++ s.m.od).length) = s.m.all.length := by simp [Man.all]; omega
      rw [e] at this
      exact this
    have HB5 := Lib.hid hB5
    clear hown4 hg4 hat4 hi3 hB4 hB5
    go_wp2_with fail
    go_ret
    exact ⟨v4, rfl, HI4.out, HB5.out⟩
end Go.Proofs.Ytaepdbkfaoiimab
/- The contracts of store.take, Manifest, note. Conditions: none but those that each names. -/
set_option linter.unusedVariables false
set_option linter.unusedSimpArgs false
namespace Go.Proofs.Ytaepdbkfaoiimab
open Go.RowKit
attribute [local go_sem ↓] eql_err eql_nilerr neq_err neq_nilerr guard_err guard_nilerr guardn_err guardn_nilerr
set_option maxRecDepth 20000 in
set_option maxHeartbeats 4000000 in
theorem take_any (B : Nat) (q p : Nat) (s : SM) (F : List Nat) (v : Value) (l : List Ent) (w : World) (h : StoreR B w q p s F) (hl : Ents B w v l) (hlen : s.mem.length + l.length ≤ 1000000) (hB : B ≤ w.heap.size) :
    Calls Try.prog 88 #[.pointer (some ⟨q, 0, none⟩), v] w fun e w' => ∃ F', e = .returned (.tuple #[]) ∧ StoreR B w' q p { s with mem := l.foldl putE s.mem } F' ∧ Fr B (· ∈ q :: F) w w' ∧ ∀ b ∈ F', b ∈ F ∨ w.heap.size ≤ b := by
  obtain ⟨A, cp, rfl, hc1, hc2, _⟩ := hl.form
  have HL := Lib.hid hl
  have HR := Lib.hid h
  have hq0 := h.lt
  have hqB := h.base
  clear hl h
  go_enter Try.func88, Try.ntmps88
  go_wp2_with fail
  go_loopw [8] (fun i wr => ∃ (k : Nat) (F' : List Nat), i = .int .i64 (k : Int) ∧ k ≤ l.length ∧ Hid (StoreR B wr q p { s with mem := (l.take k).foldl putE s.mem } F') ∧ Hid (Fr B (· ∈ q :: F) w wr) ∧ Hid (∀ b ∈ F', b ∈ F ∨ w.heap.size ≤ b)) (fun i _ => l.length - (intOf i).toNat)
  case atStart => exact ⟨0, F, rfl, Nat.zero_le _, HR.out, Fr.refl _ _ _, fun b hb => .inl hb⟩
  case round =>
    obtain ⟨k, F', rfl, hk, hS, hfr, hnew⟩ := hrel
    by_cases hlt : k < l.length
    · obtain ⟨y, hy, hty, _⟩ := getElem?_of_lt hlt
      obtain ⟨A', cp', e, _, _, hcell⟩ := (HL.out.fr hfr.out).form
      obtain ⟨bb, oo, rfl, hbb, y1, y2, y3⟩ := hcell k y hy
      cases e
      have hyok := HL.out.2 y (List.mem_of_getElem? hy)
      have HYO := Lib.hid hyok
      have hnext : (l.take (k + 1)).foldl putE s.mem = putE ((l.take k).foldl putE s.mem) y := by rw [hty, List.foldl_append]; rfl
      have HNX := Lib.hid hnext
      have hml : ((l.take k).foldl putE s.mem).length ≤ 1000000 := by
        have h1 := puts_len (l.take k) s.mem
        have h2 : (l.take k).length ≤ l.length := List.length_take_le' _ _
        omega
      obtain ⟨A1, c1, A2, c2, t, n, hk', hn, ho, ht, hBq, hqF⟩ := hS.out
      generalize hM0 : (l.take k).foldl putE s.mem = M0 at *
      simp only at hk' hn ho ht
      have x6 := hk'.cell 6
      have x7 := hk'.cell 7
      have f7 := hk'.frozen 7
      simp at x6 x7
      have hqw := hk'.lt
      have hk2 : Blk ((wr.setCell ⟨q, 7, none⟩ (.int .i64 (wrap64 (n + 1)))).alloc (.cells #[.string y.k, .string y.v, .bool y.g] 25)).drew q 148 #[.pointer (some ⟨p, 0, none⟩), .int .i64 s.m.ep, .int .i64 s.m.log, .slice A1 s.m.nw.length c1, .slice A2 s.m.od.length c2, .int .i64 s.at_, .pointer (some ⟨t, 0, none⟩), .int .i64 (wrap64 (n + 1))] := ((hk'.set_ 7 _).alloc _).drewN 1
      have hmut : ∃ cs T fz, wr.heap[q]? = some (.cells cs T fz) ∧ mutT T = true := ⟨_, _, _, hk', by decide⟩
      have hfq : Fr B (· = q) wr ((wr.setCell ⟨q, 7, none⟩ (.int .i64 (wrap64 (n + 1)))).alloc (.cells #[.string y.k, .string y.v, .bool y.g] 25)).drew := (((Fr.refl B (· = q) wr).setCell (p := ⟨q, 7, none⟩) hqB (.inl rfl) (fun _ => hmut) _).alloc (.cells #[.string y.k, .string y.v, .bool y.g] 25)).drewN 1
      have hey : Blk ((wr.setCell ⟨q, 7, none⟩ (.int .i64 (wrap64 (n + 1)))).alloc (.cells #[.string y.k, .string y.v, .bool y.g] 25)).drew wr.heap.size 25 #[.string y.k, .string y.v, .bool y.g] := by
        have := (Blk.new (wr.setCell ⟨q, 7, none⟩ (.int .i64 (wrap64 (n + 1)))) 25 #[.string y.k, .string y.v, .bool y.g]).drewN 1
        rw [show (wr.setCell ⟨q, 7, none⟩ (.int .i64 (wrap64 (n + 1)))).heap.size = wr.heap.size from by simp [World.setCell]] at this
        exact this
      have HT2 : Hid (Tower B ((wr.setCell ⟨q, 7, none⟩ (.int .i64 (wrap64 (n + 1)))).alloc (.cells #[.string y.k, .string y.v, .bool y.g] 25)).drew t M0 F') := ht.fr hfq (fun b hb e => hqF (e ▸ hb))
      have HF2 : Hid (Fr B (· ∈ q :: F) w ((wr.setCell ⟨q, 7, none⟩ (.int .i64 (wrap64 (n + 1)))).alloc (.cells #[.string y.k, .string y.v, .bool y.g] 25)).drew) := hfr.out.trans' hfq (fun b _ e => by subst e; simp)
      have HK2 := Lib.hid hk2
      have HN2 : Hid (Ints B ((wr.setCell ⟨q, 7, none⟩ (.int .i64 (wrap64 (n + 1)))).alloc (.cells #[.string y.k, .string y.v, .bool y.g] 25)).drew (.slice A1 s.m.nw.length c1) s.m.nw) := hn.fr hfq
      have HO2 : Hid (Ints B ((wr.setCell ⟨q, 7, none⟩ (.int .i64 (wrap64 (n + 1)))).alloc (.cells #[.string y.k, .string y.v, .bool y.g] 25)).drew (.slice A2 s.m.od.length c2) s.m.od) := ho.fr hfq
      have z6 := hk2.cell 6
      have z7 := hk2.cell 7
      have z0 := hey.cell 0
      have z1 := hey.cell 1
      have z2 := hey.cell 2
      simp at z6 z7 z0 z1 z2
      have HZ : Hid ((((wr.setCell ⟨q, 7, none⟩ (.int .i64 (wrap64 (n + 1)))).alloc (.cells #[.string y.k, .string y.v, .bool y.g] 25)).drew.cell? ⟨q, 6, none⟩ = some (.pointer (some ⟨t, 0, none⟩)) ∧ ((wr.setCell ⟨q, 7, none⟩ (.int .i64 (wrap64 (n + 1)))).alloc (.cells #[.string y.k, .string y.v, .bool y.g] 25)).drew.cell? ⟨q, 7, none⟩ = some (.int .i64 (wrap64 (n + 1)))) ∧ ((wr.setCell ⟨q, 7, none⟩ (.int .i64 (wrap64 (n + 1)))).alloc (.cells #[.string y.k, .string y.v, .bool y.g] 25)).drew.cell? ⟨wr.heap.size, 0, none⟩ = some (.string y.k) ∧ ((wr.setCell ⟨q, 7, none⟩ (.int .i64 (wrap64 (n + 1)))).alloc (.cells #[.string y.k, .string y.v, .bool y.g] 25)).drew.cell? ⟨wr.heap.size, 1, none⟩ = some (.string y.v) ∧ ((wr.setCell ⟨q, 7, none⟩ (.int .i64 (wrap64 (n + 1)))).alloc (.cells #[.string y.k, .string y.v, .bool y.g] 25)).drew.cell? ⟨wr.heap.size, 2, none⟩ = some (.bool y.g)) := ⟨⟨z6, z7⟩, z0, z1, z2⟩
      have HZ3 : Hid (∀ w', Fr B (· ∈ F') ((wr.setCell ⟨q, 7, none⟩ (.int .i64 (wrap64 (n + 1)))).alloc (.cells #[.string y.k, .string y.v, .bool y.g] 25)).drew w' → ((w'.cell? ⟨q, 6, none⟩ = some (.pointer (some ⟨t, 0, none⟩)) ∧ w'.cell? ⟨q, 7, none⟩ = some (.int .i64 (wrap64 (n + 1)))) ∧ w'.cell? ⟨wr.heap.size, 0, none⟩ = some (.string y.k) ∧ w'.cell? ⟨wr.heap.size, 1, none⟩ = some (.string y.v) ∧ w'.cell? ⟨wr.heap.size, 2, none⟩ = some (.bool y.g))) := by
        intro w' hf
        have a := hk2.fr hf (.inr (.inl hqF))
        have b := hey.fr hf (.inr (.inr (by decide)))
        have a6 := a.cell 6
        have a7 := a.cell 7
        have b0 := b.cell 0
        have b1 := b.cell 1
        have b2 := b.cell 2
        simp at a6 a7 b0 b1 b2
        exact ⟨⟨a6, a7⟩, b0, b1, b2⟩
      have hBs : B ≤ ((wr.setCell ⟨q, 7, none⟩ (.int .i64 (wrap64 (n + 1)))).alloc (.cells #[.string y.k, .string y.v, .bool y.g] 25)).drew.heap.size := Nat.le_trans hB HF2.out.size
      have g1 : (0 : Int) ≤ (k : Int) := by omega
      have g2 : (k : Int) < (l.length : Int) := by omega
      clear hmut hk' hn ho ht hk2 hfq hey z6 z7 z0 z1 z2 hy hty hnext hyok hM0
      go_wp2_with fail
      go_region_held3 (fun w' => ((w'.cell? ⟨q, 6, none⟩ = some (.pointer (some ⟨t, 0, none⟩)) ∧ w'.cell? ⟨q, 7, none⟩ = some (.int .i64 (wrap64 (n + 1)))) ∧ w'.cell? ⟨wr.heap.size, 0, none⟩ = some (.string y.k) ∧ w'.cell? ⟨wr.heap.size, 1, none⟩ = some (.string y.v) ∧ w'.cell? ⟨wr.heap.size, 2, none⟩ = some (.bool y.g)))
        ((first | exact HZ.out | exact HZ3.out _ hF3))
        ((first | (go_at_call 19; refine (tput_any B t M0 F' y _ _ HT2.out hBs hml HYO.out).mono ?_; rintro d w3 ⟨F2, rfl, hT3, hF3, hnew3⟩)))
      have HS3 : Hid (StoreR B w3 q p { s with mem := putE M0 y } F2) := ⟨A1, c1, A2, c2, t, _, HK2.out.fr hF3 (.inr (.inl hqF)), HN2.out.fr hF3, HO2.out.fr hF3, hT3, hBq, fun hm => (hnew3 q hm).elim hqF (fun h => by have := HK2.out.lt; omega)⟩
      have HF3 : Hid (Fr B (· ∈ q :: F) w w3) := HF2.out.trans' hF3 (fun b hb hm => (hnew.out b hm).elim (fun h => by simp [h]) (fun h => by omega))
      have HW3 : Hid (∀ b ∈ F2, b ∈ F ∨ w.heap.size ≤ b) := fun b hb => (hnew3 b hb).elim (hnew.out b) (fun h => .inr (Nat.le_trans HF2.out.size h))
      clear hT3 hF3 hnew3
      go_wp2_with fail
      go_roundw
      case rel => exact ⟨k + 1, F2, by go_num, by omega, by rw [Hid, HNX.out]; exact HS3.out, HF3.out, HW3.out⟩
      case measure => simp [intOf] <;> omega
    · obtain rfl : k = l.length := by omega
      have g2 : decide ((l.length : Int) < (l.length : Int)) = false := by simp
      rw [List.take_length] at hS
      go_wp2_with fail
      go_end0
      exact ⟨F', rfl, hS.out, hfr.out, hnew.out⟩
theorem store_noted {B q p t : Nat} {c : Chip} {m : Man} {a : Int} {mem : List Ent} {tabs : List (List Ent)} {F : List Nat} {w3 : World} {x1 x2 x3 x4 x5 : Value} {n : Int} {A1 A2 : Option Addr} {c1 c2 : Nat}
    (hk : Blk w3 q 148 #[.pointer (some ⟨p, 0, none⟩), x1, x2, x3, x4, x5, .pointer (some ⟨t, 0, none⟩), .int .i64 n])
    (hn : Ints B w3 (.slice A1 m.nw.length c1) m.nw) (ho : Ints B w3 (.slice A2 m.od.length c2) m.od) (ht : Tower B w3 t mem F) (hq : q ∉ F) (hB : B ≤ q) (hc : ChipR B w3 p c) (hqp : q ≠ p) :
    StoreR B (((((w3.setCell ⟨q, 1, none⟩ (.int .i64 m.ep)).setCell ⟨q, 2, none⟩ (.int .i64 m.log)).setCell ⟨q, 3, none⟩ (.slice A1 m.nw.length c1)).setCell ⟨q, 4, none⟩ (.slice A2 m.od.length c2)).setCell ⟨q, 5, none⟩ (.int .i64 a)) q p ⟨m, a, mem, tabs⟩ F ∧ ChipR B (((((w3.setCell ⟨q, 1, none⟩ (.int .i64 m.ep)).setCell ⟨q, 2, none⟩ (.int .i64 m.log)).setCell ⟨q, 3, none⟩ (.slice A1 m.nw.length c1)).setCell ⟨q, 4, none⟩ (.slice A2 m.od.length c2)).setCell ⟨q, 5, none⟩ (.int .i64 a)) p c ∧ Fr B (· = q) w3 (((((w3.setCell ⟨q, 1, none⟩ (.int .i64 m.ep)).setCell ⟨q, 2, none⟩ (.int .i64 m.log)).setCell ⟨q, 3, none⟩ (.slice A1 m.nw.length c1)).setCell ⟨q, 4, none⟩ (.slice A2 m.od.length c2)).setCell ⟨q, 5, none⟩ (.int .i64 a)) := by
  have hmut : ∃ cs T fz, w3.heap[q]? = some (.cells cs T fz) ∧ mutT T = true := ⟨_, _, _, hk, by decide⟩
  have hf : Fr B (· = q) w3 (((((w3.setCell ⟨q, 1, none⟩ (.int .i64 m.ep)).setCell ⟨q, 2, none⟩ (.int .i64 m.log)).setCell ⟨q, 3, none⟩ (.slice A1 m.nw.length c1)).setCell ⟨q, 4, none⟩ (.slice A2 m.od.length c2)).setCell ⟨q, 5, none⟩ (.int .i64 a)) := (((((Fr.refl B (· = q) w3).setCell (p := ⟨q, 1, none⟩) hB (.inl rfl) (fun _ => hmut) _).setCell (p := ⟨q, 2, none⟩) hB (.inl rfl) (fun _ => hmut) _).setCell (p := ⟨q, 3, none⟩) hB (.inl rfl) (fun _ => hmut) _).setCell (p := ⟨q, 4, none⟩) hB (.inl rfl) (fun _ => hmut) _).setCell (p := ⟨q, 5, none⟩) hB (.inl rfl) (fun _ => hmut) _
  exact ⟨⟨A1, c1, A2, c2, t, n, ((((hk.set_ 1 _).set_ 2 _).set_ 3 _).set_ 4 _).set_ 5 _, hn.fr hf, ho.fr hf, ht.fr hf (fun b hb e => hq (e ▸ hb)), hB, hq⟩, hc.keep hf (fun e => hqp e.symm), hf⟩
theorem noteM_ok {c : Chip} {s : SM} {m0 : Man} (h : (noteR c s.at_ { m0 with ep := s.m.ep + 1 }).2.2 = 0) : noteM c s m0 = ((noteR c s.at_ { m0 with ep := s.m.ep + 1 }).1, { s with m := { m0 with ep := s.m.ep + 1 }, at_ := (noteR c s.at_ { m0 with ep := s.m.ep + 1 }).2.1 }, 0) := if_pos h
theorem noteM_bad {c : Chip} {s : SM} {m0 : Man} (h : (noteR c s.at_ { m0 with ep := s.m.ep + 1 }).2.2 ≠ 0) : noteM c s m0 = ((noteR c s.at_ { m0 with ep := s.m.ep + 1 }).1, s, (noteR c s.at_ { m0 with ep := s.m.ep + 1 }).2.2) := if_neg h
set_option maxRecDepth 20000 in
set_option maxHeartbeats 4000000 in
theorem snote_any (B : Nat) (q p : Nat) (c : Chip) (s : SM) (F : List Nat) (v : Value) (m0 : Man) (w : World) (h : StoreR B w q p s F) (hc : ChipR B w p c) (hm : ManV B w v m0) (h1 : m0.nw.length ≤ 1000) (h2 : m0.od.length ≤ 1000) (ha : s.at_ = 0 ∨ s.at_ = 1) (hep : 0 ≤ s.m.ep) (hep2 : s.m.ep ≤ 1000000) :
    Calls Try.prog 108 #[.pointer (some ⟨q, 0, none⟩), v] w fun e w' => e = .returned (errV (noteM c s m0).2.2) ∧ ChipR B w' p (noteM c s m0).1 ∧ StoreR B w' q p (noteM c s m0).2.1 F ∧ Fr B (fun b => b = q ∨ b = p) w w' := by
  obtain ⟨vn, vo, rfl, hn0, ho0⟩ := hm
  obtain ⟨B1, d1, rfl, _, _, _⟩ := hn0.form
  obtain ⟨B2, d2, rfl, _, _, _⟩ := ho0.form
  have hap := h.apart hc
  have hqp : q ≠ p := hap q (by simp)
  have hq0 := h.lt
  have hqB := h.base
  have hb0 : Below w.heap.size w (w.alloc (.cells #[.int .i64 (s.m.ep + 1), .int .i64 m0.log, .slice B1 m0.nw.length d1, .slice B2 m0.od.length d2] 50)) := (Below.refl _ _).alloc (Nat.le_refl _) _
  have HS1 := Lib.hid (h.below hb0)
  have HC1 := Lib.hid (hc.below hb0)
  have HN1 := Lib.hid (hn0.below hb0)
  have HO1 := Lib.hid (ho0.below hb0)
  have HM1 : Hid (Blk (w.alloc (.cells #[.int .i64 (s.m.ep + 1), .int .i64 m0.log, .slice B1 m0.nw.length d1, .slice B2 m0.od.length d2] 50)) w.heap.size 50 #[.int .i64 (s.m.ep + 1), .int .i64 m0.log, .slice B1 m0.nw.length d1, .slice B2 m0.od.length d2]) := Blk.new w _ _
  have HF1 : Hid (Fr B (fun b => b = q ∨ b = p) w (w.alloc (.cells #[.int .i64 (s.m.ep + 1), .int .i64 m0.log, .slice B1 m0.nw.length d1, .slice B2 m0.od.length d2] 50)).drew) := ((Fr.refl _ _ _).alloc _).drewN 1
  have hnt := note_any B p c s.at_ (.agg #[.int .i64 (s.m.ep + 1), .int .i64 m0.log, .slice B1 m0.nw.length d1, .slice B2 m0.od.length d2]) { m0 with ep := s.m.ep + 1 } (w.alloc (.cells #[.int .i64 (s.m.ep + 1), .int .i64 m0.log, .slice B1 m0.nw.length d1, .slice B2 m0.od.length d2] 50)).drew (HC1.out.drewN 1) ha ⟨_, _, rfl, HN1.out, HO1.out⟩ h1 h2
  obtain ⟨A1, c1, A2, c2, t, n, hk, hn, ho, ht, hBq, hqF⟩ := h
  have HKQ : Hid (Blk (w.alloc (.cells #[.int .i64 (s.m.ep + 1), .int .i64 m0.log, .slice B1 m0.nw.length d1, .slice B2 m0.od.length d2] 50)).drew q 148 #[.pointer (some ⟨p, 0, none⟩), .int .i64 s.m.ep, .int .i64 s.m.log, .slice A1 s.m.nw.length c1, .slice A2 s.m.od.length c2, .int .i64 s.at_, .pointer (some ⟨t, 0, none⟩), .int .i64 n]) := (hk.alloc _).drewN 1
  have HMD : Hid (Blk (w.alloc (.cells #[.int .i64 (s.m.ep + 1), .int .i64 m0.log, .slice B1 m0.nw.length d1, .slice B2 m0.od.length d2] 50)).drew w.heap.size 50 #[.int .i64 (s.m.ep + 1), .int .i64 m0.log, .slice B1 m0.nw.length d1, .slice B2 m0.od.length d2]) := HM1.out.drewN 1
  have HZ : Hid (∀ {w'}, Fr B (· = p) (w.alloc (.cells #[.int .i64 (s.m.ep + 1), .int .i64 m0.log, .slice B1 m0.nw.length d1, .slice B2 m0.od.length d2] 50)).drew w' → (w'.cell? ⟨q, 0, none⟩ = some (.pointer (some ⟨p, 0, none⟩)) ∧ w'.cell? ⟨q, 5, none⟩ = some (.int .i64 s.at_)) ∧ w'.cell? ⟨w.heap.size, 0, none⟩ = some (.int .i64 (s.m.ep + 1)) ∧ w'.cell? ⟨w.heap.size, 1, none⟩ = some (.int .i64 m0.log) ∧ w'.cell? ⟨w.heap.size, 2, none⟩ = some (.slice B1 m0.nw.length d1) ∧ w'.cell? ⟨w.heap.size, 3, none⟩ = some (.slice B2 m0.od.length d2)) := by
    intro w' hf
    have a := HKQ.out.fr hf (.inr (.inl hqp))
    have b := HMD.out.fr hf (.inr (.inr (by decide)))
    have a0 := a.cell 0
    have a5 := a.cell 5
    have b0 := b.cell 0
    have b1 := b.cell 1
    have b2 := b.cell 2
    have b3 := b.cell 3
    simp at a0 a5 b0 b1 b2 b3
    exact ⟨⟨a0, a5⟩, b0, b1, b2, b3⟩
  have HSD : Hid (StoreR B (w.alloc (.cells #[.int .i64 (s.m.ep + 1), .int .i64 m0.log, .slice B1 m0.nw.length d1, .slice B2 m0.od.length d2] 50)).drew q p s F) := HS1.out.drewN 1
  have HND : Hid (Ints B (w.alloc (.cells #[.int .i64 (s.m.ep + 1), .int .i64 m0.log, .slice B1 m0.nw.length d1, .slice B2 m0.od.length d2] 50)).drew (.slice B1 m0.nw.length d1) m0.nw) := HN1.out.drewN 1
  have HOD : Hid (Ints B (w.alloc (.cells #[.int .i64 (s.m.ep + 1), .int .i64 m0.log, .slice B1 m0.nw.length d1, .slice B2 m0.od.length d2] 50)).drew (.slice B2 m0.od.length d2) m0.od) := HO1.out.drewN 1
  have HTD : Hid (Tower B (w.alloc (.cells #[.int .i64 (s.m.ep + 1), .int .i64 m0.log, .slice B1 m0.nw.length d1, .slice B2 m0.od.length d2] 50)).drew t s.mem F) := (ht.below hb0).drewN 1
  have HAP := Lib.hid hap
  have x1 := hk.cell 1
  simp at x1
  clear hk hn ho ht hn0 ho0 hb0 hc hap HS1 HC1 HN1 HO1 HM1
  by_cases hr : (noteR c s.at_ { m0 with ep := s.m.ep + 1 }).2.2 = 0
  · have HE := Lib.hid (noteM_ok hr)
    rw [hr] at hnt
    generalize noteR c s.at_ { m0 with ep := s.m.ep + 1 } = r at *
    obtain ⟨c', a', n'⟩ := r
    simp only at hr hnt HE
    rw [show errV 0 = Value.nilIface from rfl] at hnt
    have HNT := Lib.hid hnt
    clear hr hnt
    go_enter Try.func108, Try.ntmps108
    go_wp2_with fail
    go_region_held3 (fun w' => (w'.cell? ⟨q, 0, none⟩ = some (.pointer (some ⟨p, 0, none⟩)) ∧ w'.cell? ⟨q, 5, none⟩ = some (.int .i64 s.at_)) ∧ w'.cell? ⟨w.heap.size, 0, none⟩ = some (.int .i64 (s.m.ep + 1)) ∧ w'.cell? ⟨w.heap.size, 1, none⟩ = some (.int .i64 m0.log) ∧ w'.cell? ⟨w.heap.size, 2, none⟩ = some (.slice B1 m0.nw.length d1) ∧ w'.cell? ⟨w.heap.size, 3, none⟩ = some (.slice B2 m0.od.length d2))
      ((first | exact HZ.out (Fr.refl _ _ _) | exact HZ.out hf3))
      ((first | (go_at_call 44; refine HNT.out.mono ?_; rintro d w3 ⟨rfl, hc3, hf3⟩)))
    have hkq := HKQ.out.fr hf3 (.inr (.inl hqp))
    have hmd := HMD.out.fr hf3 (.inr (.inr (by decide)))
    have b0 := hmd.cell 0
    have b1 := hmd.cell 1
    have b2 := hmd.cell 2
    have b3 := hmd.cell 3
    have r1 := hkq.cell 1
    have r2 := hkq.cell 2
    have r3 := hkq.cell 3
    have r4 := hkq.cell 4
    have r5 := hkq.cell 5
    have f1 := hkq.frozen 1
    have f2 := hkq.frozen 2
    have f3 := hkq.frozen 3
    have f4 := hkq.frozen 4
    have f5 := hkq.frozen 5
    simp at b0 b1 b2 b3 r1 r2 r3 r4 r5
    have HFIN := Lib.hid (store_noted (c := c') (p := p) (m := { m0 with ep := s.m.ep + 1 }) (tabs := s.tabs) (a := a') hkq (HND.out.fr hf3) (HOD.out.fr hf3) (HTD.out.fr hf3 (fun b hb => HAP.out b (by simp [hb]))) hqF hqB hc3 hqp)
    have HF3 : Hid (Fr B (fun b => b = q ∨ b = p) w w3) := HF1.out.trans' hf3 (fun b _ e => .inr e)
    clear hkq hmd hc3 hf3
    go_wp2_with fail
    go_ret
    rw [HE.out]
    exact ⟨rfl, HFIN.out.2.1, HFIN.out.1, HF3.out.trans' HFIN.out.2.2 (fun b _ e => .inl e)⟩
  · have HE := Lib.hid (noteM_bad hr)
    have he := errV_pos hr
    rw [he] at hnt
    have HEV := Lib.hid he
    generalize noteR c s.at_ { m0 with ep := s.m.ep + 1 } = r at *
    obtain ⟨c', a', n'⟩ := r
    simp only at hr hnt HE HEV
    have HNT := Lib.hid hnt
    clear hr hnt he
    go_enter Try.func108, Try.ntmps108
    go_wp2_with fail
    go_region_held3 (fun w' => (w'.cell? ⟨q, 0, none⟩ = some (.pointer (some ⟨p, 0, none⟩)) ∧ w'.cell? ⟨q, 5, none⟩ = some (.int .i64 s.at_)) ∧ w'.cell? ⟨w.heap.size, 0, none⟩ = some (.int .i64 (s.m.ep + 1)) ∧ w'.cell? ⟨w.heap.size, 1, none⟩ = some (.int .i64 m0.log) ∧ w'.cell? ⟨w.heap.size, 2, none⟩ = some (.slice B1 m0.nw.length d1) ∧ w'.cell? ⟨w.heap.size, 3, none⟩ = some (.slice B2 m0.od.length d2))
      ((first | exact HZ.out (Fr.refl _ _ _) | exact HZ.out hf3))
      ((first | (go_at_call 44; refine HNT.out.mono ?_; rintro d w3 ⟨rfl, hc3, hf3⟩)))
    have HC3 := Lib.hid hc3
    have HS3 : Hid (StoreR B w3 q p s F) := HSD.out.fr hf3 HAP.out
    have HF3 : Hid (Fr B (fun b => b = q ∨ b = p) w w3) := HF1.out.trans' hf3 (fun b _ e => .inr e)
    clear hc3 hf3
    go_wp2_with fail
    go_ret
    rw [HE.out]
    exact ⟨by rw [HEV.out]; rfl, HC3.out, HS3.out, HF3.out⟩
end Go.Proofs.Ytaepdbkfaoiimab
/- The contracts of store.lists, Rows. Conditions: none but those that each names. -/
set_option linter.unusedVariables false
set_option linter.unusedSimpArgs false
namespace Go.Proofs.Ytaepdbkfaoiimab
open Go.RowKit
attribute [local go_sem ↓] eql_err eql_nilerr neq_err neq_nilerr guard_err guard_nilerr guardn_err guardn_nilerr
theorem info_ents : (Try.prog.info? 22).map (fun i => (i.zero, i.size, i.bytes)) = some (some (.slice none 0 0), 1, 24) := by kernel_rfl
theorem one_slice (A : Option Addr) (n c : Nat) : ∀ u ∈ [Value.slice A n c], u.oneCell' = true := by
  intro u hu
  simp at hu
  subst hu
  rfl
theorem own_ty {w : World} {base : Nat} {e : TypeId} {size : Nat} {v : Value} {n : Nat} {xs : List Value} (h : w.ownsRow base e size v n xs) : ∀ g, v.ownBlock = some g → base ≤ g ∧ ∃ cs fz, w.heap[g]? = some (.cells cs e fz) := by
  intro g hg
  rcases h.2 with ⟨rfl, _⟩ | ⟨g', cap, cur, rfl, h1, h2, _⟩
  · cases hg
  · cases hg
    exact ⟨h1, cur, _, h2⟩
/-- The tables' blocks, put together, where the store lies as it did. -/
theorem concat_store {B q p : Nat} {s : SM} {F : List Nat} {w W : World} {A1 A2 : Option Addr} {c1 c2 : Nat} (hn : Ints B w (.slice A1 s.m.nw.length c1) s.m.nw) (ho : Ints B w (.slice A2 s.m.od.length c2) s.m.od) (hb : Below w.heap.size w W) (h1 : s.m.nw.length ≤ 1000) (h2 : s.m.od.length ≤ 1000) :
    Calls Try.prog 59 #[.slice (some ⟨W.heap.size, 0, none⟩) 2 2] (W.alloc (.cells #[.slice A1 s.m.nw.length c1, .slice A2 s.m.od.length c2] 34)).drew fun e w3 => ∃ v3, e = .returned v3 ∧ Ints B w3 v3 (s.m.nw ++ s.m.od) ∧ Below w.heap.size w w3 ∧ Below W.heap.size W w3 := by
  have hbc : Below W.heap.size W (W.alloc (.cells #[.slice A1 s.m.nw.length c1, .slice A2 s.m.od.length c2] 34)).drew := ((Below.refl _ _).alloc (Nat.le_refl _) _).drew
  have hB : Below w.heap.size w (W.alloc (.cells #[.slice A1 s.m.nw.length c1, .slice A2 s.m.od.length c2] 34)).drew := hb.trans (hbc.mono hb.size)
  have gc : Blk (W.alloc (.cells #[.slice A1 s.m.nw.length c1, .slice A2 s.m.od.length c2] 34)).drew W.heap.size 34 #[.slice A1 s.m.nw.length c1, .slice A2 s.m.od.length c2] := Blk.drewN (Blk.new W 34 #[.slice A1 s.m.nw.length c1, .slice A2 s.m.od.length c2]) 1
  refine (concat_rd B _ _ _ s.m.nw s.m.od _ gc (hn.below hB) (ho.below hB) (by omega) (by omega)).mono ?_
  rintro e w3 ⟨v3, h3, h4, h5⟩
  have h5' : Below W.heap.size W w3 := hbc.trans (h5.mono (by simp))
  exact ⟨v3, h3, h4, hb.trans (h5'.mono hb.size), h5'⟩
set_option maxRecDepth 20000 in
set_option maxHeartbeats 4000000 in
theorem lists_any (B : Nat) (q p : Nat) (c : Chip) (s : SM) (F : List Nat) (w : World) (h : StoreR B w q p s F) (hc : ChipR B w p c) (hi : Inv c s) :
    Calls Try.prog 105 #[.pointer (some ⟨q, 0, none⟩)] w fun e w' => ∃ v, e = .returned (.tuple #[v, .nilIface]) ∧ Lss B w' v (s.mem :: s.tabs) ∧ Below w.heap.size w w' := by
  have fin : ∀ (wr : World) (tmps : Array Value) (v : Value), Lss B wr v (s.mem :: s.tabs) → Below w.heap.size w wr → tmps[2]? = some v → tmps[3]? = some .nilIface →
      bodyPost Try.prog Try.f105 (fun e w' => ∃ v, e = .returned (.tuple #[v, .nilIface]) ∧ Lss B w' v (s.mem :: s.tabs) ∧ Below w.heap.size w w') .ret { tmps := tmps, defers := [] } wr := by
    intro wr tmps v hv hb t2 t3
    exact bodyPost_ret (v := .tuple #[v, .nilIface]) (by simp [results, Try.results105, go_sem, t2, t3]) rfl ⟨v, rfl, hv, hb⟩
  have FIN := Lib.hid fin
  clear fin
  have hlt := h.lt
  have hn5 := hi.body.nwl
  have ho3 := hi.body.odl
  have hml := Fallen.mem_len hi
  have hrng := hi.body.rng
  have HUP := Lib.hid hi.up
  have HTB := Lib.hid hi.body.tabs
  have HCR := Lib.hid hc
  have HRN : Hid (∀ b ∈ s.m.nw ++ s.m.od, 2 ≤ b ∧ b < 24) := fun b hb => hrng b (by simp only [Man.all, List.mem_cons]; exact .inr hb)
  have hbl : (s.m.nw ++ s.m.od).length ≤ 8 := by rw [List.length_append]; omega
  have hBw : B ≤ w.heap.size := Nat.le_of_lt (Nat.lt_of_le_of_lt h.base hlt)
  obtain ⟨bs, hbs⟩ : ∃ bs, bs = s.m.nw ++ s.m.od := ⟨_, rfl⟩
  rw [← hbs] at HTB HRN hbl
  have HBS := Lib.hid hbs
  clear hbs
  obtain ⟨A1, c1, A2, c2, t, n, hk, hn, ho, ht, _, _⟩ := h
  have HN := Lib.hid hn
  have HO := Lib.hid ho
  have x0 := hk.cell 0
  have x3 := hk.cell 3
  have x4 := hk.cell 4
  have x6 := hk.cell 6
  simp at x0 x3 x4 x6
  have HC : Hid (∀ w' : World, Below w.heap.size w w' → (w'.cell? ⟨q, 3, none⟩ = some (.slice A1 s.m.nw.length c1) ∧ w'.cell? ⟨q, 4, none⟩ = some (.slice A2 s.m.od.length c2)) ∧ Below w.heap.size w w') := fun w' hb =>
    ⟨⟨(hb.cell (p := ⟨q, 3, none⟩) hlt).trans x3, (hb.cell (p := ⟨q, 4, none⟩) hlt).trans x4⟩, hb⟩
  have HC0 : Hid (∀ w' : World, Below w.heap.size w w' → w'.cell? ⟨q, 0, none⟩ = some (.pointer (some ⟨p, 0, none⟩))) := fun w' hb => (hb.cell (p := ⟨q, 0, none⟩) hlt).trans x0
  have HALL := Lib.hid (tall_any B t s.mem F w ht (by omega))
  clear hrng hi hc hk hn ho ht x0 x3 x4
  go_enter Try.func105, Try.ntmps105
  go_wp2_with fail
  refine HALL.out.mono ?_
  rintro e w1 ⟨v1, rfl, hv1, hb1⟩
  obtain ⟨A0, c0, rfl, _, _, _⟩ := hv1.form
  have HV1 := Lib.hid hv1
  have HB1 := Lib.hid hb1
  clear hv1 hb1 HALL
  have hs1 := HB1.out.size
  have HB2 : Hid (Below w.heap.size w (w1.alloc (.cells #[.slice A0 s.mem.length c0] 22))) := HB1.out.alloc hs1 _
  have HOW : Hid ((w1.alloc (.cells #[.slice A0 s.mem.length c0] 22)).ownsRow w.heap.size 22 1 (.slice (some ⟨w1.heap.size, 0, none⟩) 1 1) 1 [.slice A0 s.mem.length c0]) := own_one (Blk.new w1 _ _) hs1
  have HV2 : Hid (Ents B (w1.alloc (.cells #[.slice A0 s.mem.length c0] 22)) (.slice A0 s.mem.length c0) s.mem) := HV1.out.below ((Below.refl _ _).alloc (Nat.le_refl _) _)
  have hsz2 : (w1.alloc (.cells #[.slice A0 s.mem.length c0] 22)).heap.size = w1.heap.size + 1 := by simp
  have hCC := concat_store (q := q) (p := p) (F := F) HN.out HO.out HB2.out (by omega) (by omega)
  rw [hsz2, ← HBS.out] at hCC
  have HCC := Lib.hid hCC
  have HB2D : Hid (Below w.heap.size w (w1.alloc (.cells #[.slice A0 s.mem.length c0] 22)).drew) := HB2.out.drew
  clear hCC hsz2 HV1 HB1
  go_wp2_with fail
  go_region_held3 (fun w' => (w'.cell? ⟨q, 3, none⟩ = some (.slice A1 s.m.nw.length c1) ∧ w'.cell? ⟨q, 4, none⟩ = some (.slice A2 s.m.od.length c2)) ∧ Below w.heap.size w w')
    ((first | exact HC.out _ HB2D.out | exact HC.out _ hB3 | exact HC.out _ (HB2.out.alloc HB2.out.size _).drew))
    ((first | (go_at_call 59; refine HCC.out.mono ?_; rintro e w3 ⟨v3, rfl, hi3, hB3, hBW⟩; obtain ⟨A3, c3, rfl, k5, k6, kc⟩ := hi3.form)))
  have HI3 := Lib.hid hi3
  have HB3 := Lib.hid hB3
  have HTL : Hid (bs.length = s.tabs.length) := tabsAt_len HTB.out
  have hBW : Below (w1.alloc (.cells #[.slice A0 s.mem.length c0] 22)).heap.size (w1.alloc (.cells #[.slice A0 s.mem.length c0] 22)) w3 := by rw [World.size_alloc]; exact hBW
  have HO3 : Hid (w3.ownsRow w.heap.size 22 1 (.slice (some ⟨w1.heap.size, 0, none⟩) 1 1) 1 [.slice A0 s.mem.length c0]) := own_below HOW.out hBW
  have HV3 : Hid (Ents B w3 (.slice A0 s.mem.length c0) s.mem) := HV2.out.below hBW
  clear hi3 hB3 hBW kc HC HN HO HB2 HB2D HCC HOW HV2
  go_wp2_with fail
  go_loopw [4, 28] (fun u i wr => ∃ (k : Nat) (vs : List Value), k ≤ bs.length ∧ i = .int .i64 (k : Int) ∧ Hid (wr.ownsRow w.heap.size 22 1 u (k + 1) vs) ∧ Hid (vs.length = k + 1 ∧ ∀ (i : Nat) (x : Value) (l : List Ent), vs[i]? = some x → (s.mem :: s.tabs)[i]? = some l → Ents B wr x l) ∧ Hid (Ints B wr (.slice A3 bs.length c3) bs) ∧ Below w.heap.size w wr) (fun _ i _ => bs.length - (intOf i).toNat)
  case atStart =>
    refine ⟨0, [.slice A0 s.mem.length c0], Nat.zero_le _, rfl, HO3.out, ⟨rfl, fun i x l hx hl => ?_⟩, HI3.out, HB3.out⟩
    cases i with
    | zero => simp at hx hl; subst hx; subst hl; exact HV3.out
    | succ i => simp at hx
  case round =>
    obtain ⟨k, vs, hk, rfl, hown, hvs, hi4, hbl4⟩ := hrel
    clear HI3 HB3 HO3 HV3
    by_cases hlt : k < bs.length
    · obtain ⟨x, hx, _, _⟩ := getElem?_of_lt hlt
      obtain ⟨l, hl, htab⟩ := tabsAt_at HTB.out k x hx
      have hxr := HRN.out x (List.mem_of_getElem? hx)
      obtain ⟨xn, rfl⟩ := Int.eq_ofNat_of_zero_le (show 0 ≤ x by omega)
      rw [Int.toNat_natCast] at htab
      obtain ⟨A4, c4, e4, _, _, hcell⟩ := hi4.out.form
      obtain ⟨bb, oo, rfl, hbb, y1⟩ := hcell k _ hx
      cases e4
      have HT := Lib.hid (taball_any B p xn c l wr (HCR.out.below hbl4) (by omega) HUP.out htab)
      have HL := Lib.hid hl
      have x0 := HC0.out wr hbl4
      have HB4 := Lib.hid hbl4
      have hs4 := hbl4.size
      obtain ⟨i0, hi, hz0, hz1, hz2⟩ := info_parts info_ents
      have g1 : (0 : Int) ≤ (k : Int) := by omega
      have g2 : (k : Int) < (bs.length : Int) := by omega
      clear hx hl htab hcell hxr hbl4
      go_wp2_with (first
        | (go_at_call 49; refine HT.out.mono ?_; rintro e5 w5 ⟨v5, rfl, hv5, hb5⟩; obtain ⟨A5, c5, rfl, _, _, _⟩ := hv5.form; have HV5 := Lib.hid hv5; have HB5 := Lib.hid hb5; have HOW5 := Lib.hid (own_below hown.out hb5); clear hv5 hb5; have hs5 := HB5.out.size)
        | (at_builtin; go_loud (refine wpList_append_rd _ rfl (.tmp 44) (.tmp 46) 29 rfl w.heap.size 22 i0 (.slice none 0 0) 1 24 Try.underlying29 hi hz0 hz1 hz2 rfl (by decide) u4 (k + 1) vs rfl (own_alloc HOW5.out (.cells #[.slice A5 l.length c5] 22)) B 22 (.slice (some ⟨w5.heap.size, 0, none⟩) 1 1) 1 [.slice A5 l.length c5] rfl (Rd.of_own (base := 0) (own_one (Blk.new w5 _ _) (Nat.zero_le _))) (one_slice _ _ _) (by unfold maxLen; omega) (by omega) (by simp; omega) ?_); intro v6 w6 hown6 hg6 hat6))
      have hbA : Below wr.heap.size wr (w5.alloc (.cells #[.slice A5 l.length c5] 22)) := HB5.out.alloc hs5 _
      have hownA := own_alloc HOW5.out (.cells #[.slice A5 l.length c5] 22)
      have hgr : ∀ g, u4.ownBlock = some g → g < (w5.alloc (.cells #[.slice A5 l.length c5] 22)).heap.size → B ≤ g ∧ ∃ cs T' fz, (w5.alloc (.cells #[.slice A5 l.length c5] 22)).heap[g]? = some (.cells cs T' fz) ∧ T' = 22 := fun g hg _ => by
        obtain ⟨h1, cs, fz, h2⟩ := own_ty hownA g hg
        exact ⟨by omega, cs, _, fz, h2, rfl⟩
      have hki : ∀ {y : Value} {m : List Int}, Ints B (w5.alloc (.cells #[.slice A5 l.length c5] 22)) y m → Ints B w6 y m := fun {y m} h => Rd.grown h hg6 (fun g hg hlt => by obtain ⟨h1, cs, T', fz, h2, h3⟩ := hgr g hg hlt; exact ⟨h1, cs, T', fz, h2, by rw [h3]; decide⟩)
      have hke : ∀ {y : Value} {m : List Ent}, Ents B (w5.alloc (.cells #[.slice A5 l.length c5] 22)) y m → Ents B w6 y m := fun {y m} h => ⟨Rd.grown h.1 hg6 (fun g hg hlt => by obtain ⟨h1, cs, T', fz, h2, h3⟩ := hgr g hg hlt; exact ⟨h1, cs, T', fz, h2, by rw [h3]; decide⟩), h.2⟩
      have HI6 : Hid (Ints B w6 (.slice (some ⟨bb, oo, none⟩) bs.length c3) bs) := hki (hi4.out.below hbA)
      have HVS6 : Hid ((vs ++ [Value.slice A5 l.length c5]).length = k + 1 + 1 ∧ ∀ (i : Nat) (x : Value) (l' : List Ent), (vs ++ [Value.slice A5 l.length c5])[i]? = some x → (s.mem :: s.tabs)[i]? = some l' → Ents B w6 x l') := by
        refine ⟨by rw [List.length_append, hvs.out.1]; rfl, fun i x l' hx hl' => ?_⟩
        rcases Nat.lt_or_ge i (k + 1) with hik | hik
        · rw [List.getElem?_append_left (by rw [hvs.out.1]; exact hik)] at hx
          exact hke ((hvs.out.2 i x l' hx hl').below hbA)
        · have : i = k + 1 := by
            rcases Nat.lt_or_ge i (k + 2) with h | h
            · omega
            · rw [List.getElem?_eq_none (by rw [List.length_append, hvs.out.1]; exact h)] at hx; cases hx
          subst this
          rw [List.getElem?_append_right (by rw [hvs.out.1]; omega), hvs.out.1, Nat.sub_self] at hx
          simp at hx
          subst hx
          rw [List.getElem?_cons_succ, HL.out] at hl'
          cases hl'
          exact hke (HV5.out.below ((Below.refl _ _).alloc (Nat.le_refl _) _))
      have HB6 : Hid (Below w.heap.size w w6) := below_own (HB4.out.trans (hbA.mono hs4)) (Nat.le_refl _) hownA hg6
      have HOW6 := Lib.hid hown6
      clear hbA hownA hgr hki hke hi hz0 hz1 hz2 hown6 hg6 hat6
      go_wp2_with fail
      go_roundw
      case rel => exact ⟨k + 1, _, by omega, by go_num, HOW6, HVS6, HI6, HB6.out⟩
      case measure => simp [intOf] <;> omega
    · have g2 : decide ((k : Int) < (bs.length : Int)) = false := decide_eq_false (by omega)
      have hk' : k = bs.length := by omega
      have hvl := hvs.out.1
      have htl := HTL.out
      have HLS : Hid (Lss B wr u4 (s.mem :: s.tabs)) := ⟨vs, by rw [hvl, List.length_cons]; omega, by have := Rd.of_own (B := B) hown.out; rw [show k + 1 = (s.mem :: s.tabs).length from by rw [List.length_cons]; omega] at this; exact this, hvs.out.2⟩
      clear hk' hvl htl
      go_wp2_with fail
      exact FIN.out _ _ _ HLS.out hbl4 rfl rfl
end Go.Proofs.Ytaepdbkfaoiimab
/- The contract of store.Open. Conditions: the chip has a store. -/
set_option linter.unusedVariables false
set_option linter.unusedSimpArgs false
namespace Go.Proofs.Ytaepdbkfaoiimab
open Go.RowKit
attribute [local go_sem ↓] eql_err eql_nilerr neq_err neq_nilerr guard_err guard_nilerr guardn_err guardn_nilerr
theorem Fr.off {B n : Nat} {M : Nat → Prop} {w w' : World} (h : Fr B M w w') (hM : ∀ b, M b → n ≤ b) (hn : n ≤ w.heap.size) : Below n w w' :=
  ⟨h.os, h.tape, h.output, h.size, fun k hk => h.block k (Nat.lt_of_lt_of_le hk hn) (.inr (.inl fun hm => by have := hM k hm; omega))⟩
theorem findR_ok {c : Chip} {s : SM} (hi : Inv c s) : findR c = (s.m, s.at_, 0) := by
  unfold findR
  rw [hi.up, if_neg (by simp), hi.head.find, if_neg (by have := hi.head.at_; simp only; omega)]
/-- A page of the log is read. -/
theorem log_read {c : Chip} {b i : Nat} {x : Sheet} (hd : c.down = false) (hb : b < 24) (hi : i < 8) (hx : (c.b b).l[i]? = some x) : c.read b i = if x.t then (ByteArray.empty, 4) else (x.d, 0) := by
  unfold Chip.read
  rw [hd, if_neg (by simp), if_neg (by omega), Int.toNat_natCast, Int.toNat_natCast, hx]
theorem logE_drop {l : List Sheet} {i : Nat} {x : Sheet} {es : List Ent} (hx : l[i]? = some x) (h : logE (l.drop i) = some es) :
    (x.t = true ∧ logE (l.drop (i + 1)) = some es) ∨ (x.t = false ∧ ∃ a b, parseR x.d = some a ∧ logE (l.drop (i + 1)) = some b ∧ es = a ++ b) := by
  have hk : i < l.length := by
    rcases Nat.lt_or_ge i l.length with h' | h'
    · exact h'
    · rw [List.getElem?_eq_none h'] at hx; cases hx
  rw [List.drop_eq_getElem_cons hk] at h
  rw [List.getElem?_eq_getElem hk] at hx
  cases hx
  unfold logE at h
  split at h
  · rename_i ht; exact .inl ⟨ht, h⟩
  · rename_i ht
    right
    refine ⟨by simpa using ht, ?_⟩
    cases hp : parseR l[i].d with
    | none => rw [hp] at h; simp at h
    | some a =>
      cases hl : logE (l.drop (i + 1)) with
      | none => rw [hp, hl] at h; simp at h
      | some b =>
        rw [hp, hl] at h
        exact ⟨a, b, rfl, rfl, (Option.some.inj h).symm⟩
set_option maxRecDepth 20000 in
set_option maxHeartbeats 8000000 in
theorem open_any (B : Nat) (p : Nat) (c : Chip) (s : SM) (w : World) (hc : ChipR B w p c) (hi : Inv c s) :
    Calls Try.prog 82 #[.pointer (some ⟨p, 0, none⟩)] w fun e w' => ∃ q F, e = .returned (.tuple #[.pointer (some ⟨q, 0, none⟩), .nilIface]) ∧ StoreR B w' q p s F ∧ Below w.heap.size w w' ∧ w.heap.size ≤ q ∧ ∀ b ∈ F, w.heap.size ≤ b := by
  have fin : ∀ (wr : World) (tmps : Array Value) (q : Nat) (F : List Nat), StoreR B wr q p s F → Below w.heap.size w wr → w.heap.size ≤ q → (∀ b ∈ F, w.heap.size ≤ b) → tmps[2]? = some (.pointer (some ⟨q, 0, none⟩)) → tmps[3]? = some .nilIface →
      bodyPost Try.prog Try.f82 (fun e w' => ∃ q F, e = .returned (.tuple #[.pointer (some ⟨q, 0, none⟩), .nilIface]) ∧ StoreR B w' q p s F ∧ Below w.heap.size w w' ∧ w.heap.size ≤ q ∧ ∀ b ∈ F, w.heap.size ≤ b) .ret { tmps := tmps, defers := [] } wr := by
    intro wr tmps q F h1 h2 h3 h4 t2 t3
    exact bodyPost_ret (v := .tuple #[.pointer (some ⟨q, 0, none⟩), .nilIface]) (by simp [results, Try.results82, go_sem, t2, t3]) rfl ⟨q, F, rfl, h1, h2, h3, h4⟩
  have FIN := Lib.hid fin
  clear fin
  have hpw := hc.lt
  have hBp : B ≤ p := by obtain ⟨V, u, hv, _⟩ := hc; exact hv.base
  have hn5 := hi.body.nwl
  have ho3 := hi.body.odl
  have hml := Fallen.mem_len hi
  have hrng := hi.body.rng
  have HUP := Lib.hid hi.up
  have HTB := Lib.hid hi.body.tabs
  have HWF := Lib.hid hi.wf
  have HCR := Lib.hid hc
  obtain ⟨es, hlog⟩ := hi.body.log
  have hlr := hrng s.m.log (by simp [Man.all])
  have hlog8 := hi.wf.len s.m.log.toNat (by omega)
  have hesl := hlog.few
  have HLG := Lib.hid hlog
  have HRN : Hid (∀ b ∈ s.m.nw ++ s.m.od, 2 ≤ b ∧ b < 24) := fun b hb => hrng b (by simp only [Man.all, List.mem_cons]; exact .inr hb)
  have hbl : (s.m.nw ++ s.m.od).length ≤ 8 := by rw [List.length_append]; omega
  obtain ⟨bs, hbs⟩ : ∃ bs, bs = s.m.nw ++ s.m.od := ⟨_, rfl⟩
  rw [← hbs] at HTB HRN hbl
  have HBS := Lib.hid hbs
  have hfd := find_any B p c w hc
  rw [findR_ok hi, show errV ((s.m, s.at_, 0) : Man × Int × Nat).2.2 = Value.nilIface from rfl] at hfd
  have HFD := Lib.hid hfd
  clear hrng hi hc hlog hbs hfd
  go_enter Try.func82, Try.ntmps82
  go_wp2_with fail
  refine HFD.out.mono ?_
  rintro e w1 ⟨v1, rfl, ⟨vn, vo, rfl, hn, ho⟩, hb1⟩
  simp only at hn ho ⊢
  obtain ⟨A1, c1, rfl, _, _, _⟩ := hn.form
  obtain ⟨A2, c2, rfl, _, _, _⟩ := ho.form
  have hs1 := hb1.size
  have hbA : Below w1.heap.size w1 (w1.alloc (.cells #[.int .i64 s.m.ep, .int .i64 s.m.log, .slice A1 s.m.nw.length c1, .slice A2 s.m.od.length c2] 50)).drew := ((Below.refl _ _).alloc (Nat.le_refl _) _).drew
  have HB2 : Hid (Below w.heap.size w (w1.alloc (.cells #[.int .i64 s.m.ep, .int .i64 s.m.log, .slice A1 s.m.nw.length c1, .slice A2 s.m.od.length c2] 50)).drew) := hb1.trans (hbA.mono hs1)
  have HM2 : Hid (Blk (w1.alloc (.cells #[.int .i64 s.m.ep, .int .i64 s.m.log, .slice A1 s.m.nw.length c1, .slice A2 s.m.od.length c2] 50)).drew w1.heap.size 50 #[.int .i64 s.m.ep, .int .i64 s.m.log, .slice A1 s.m.nw.length c1, .slice A2 s.m.od.length c2]) := (Blk.new w1 _ _).drewN 1
  have HN2 := Lib.hid (hn.below hbA)
  have HO2 := Lib.hid (ho.below hbA)
  have hsz2 : (w1.alloc (.cells #[.int .i64 s.m.ep, .int .i64 s.m.log, .slice A1 s.m.nw.length c1, .slice A2 s.m.od.length c2] 50)).drew.heap.size = w1.heap.size + 1 := by simp
  have HNEW := Lib.hid (tnew_any B (w1.alloc (.cells #[.int .i64 s.m.ep, .int .i64 s.m.log, .slice A1 s.m.nw.length c1, .slice A2 s.m.od.length c2] 50)).drew (by rw [hsz2]; omega))
  have HZ : Hid (∀ {w'}, Below (w1.heap.size + 1) (w1.alloc (.cells #[.int .i64 s.m.ep, .int .i64 s.m.log, .slice A1 s.m.nw.length c1, .slice A2 s.m.od.length c2] 50)).drew w' → w'.cell? ⟨w1.heap.size, 0, none⟩ = some (.int .i64 s.m.ep) ∧ w'.cell? ⟨w1.heap.size, 1, none⟩ = some (.int .i64 s.m.log) ∧ w'.cell? ⟨w1.heap.size, 2, none⟩ = some (.slice A1 s.m.nw.length c1) ∧ w'.cell? ⟨w1.heap.size, 3, none⟩ = some (.slice A2 s.m.od.length c2)) := by
    intro w' hb
    have a := HM2.out.below hb (by omega)
    have a0 := a.cell 0
    have a1 := a.cell 1
    have a2 := a.cell 2
    have a3 := a.cell 3
    simp at a0 a1 a2 a3
    exact ⟨a0, a1, a2, a3⟩
  rw [hsz2] at HNEW
  clear hn ho hb1 hbA HFD
  go_wp2_with fail
  go_region_held3 (fun w' => w'.cell? ⟨w1.heap.size, 0, none⟩ = some (.int .i64 s.m.ep) ∧ w'.cell? ⟨w1.heap.size, 1, none⟩ = some (.int .i64 s.m.log) ∧ w'.cell? ⟨w1.heap.size, 2, none⟩ = some (.slice A1 s.m.nw.length c1) ∧ w'.cell? ⟨w1.heap.size, 3, none⟩ = some (.slice A2 s.m.od.length c2))
    ((first | exact HZ.out (Below.refl _ _) | exact HZ.out hb3 | exact HZ.out hb4))
    ((first | (go_at_call 18; refine HNEW.out.mono ?_; rintro d w3 ⟨⟨rfl, hT3⟩, hb3⟩; have hb4 := hb3.alloc (Nat.le_of_lt (by have := hT3.lt _ List.mem_cons_self; omega)) (.cells #[.pointer (some ⟨p, 0, none⟩), .int .i64 s.m.ep, .int .i64 s.m.log, .slice A1 s.m.nw.length c1, .slice A2 s.m.od.length c2, .int .i64 s.at_, .pointer (some ⟨w1.heap.size + 1, 0, none⟩), .int .i64 0] 148))))
  have hs3 : w1.heap.size + 1 < w3.heap.size := hT3.lt _ List.mem_cons_self
  have hW : Below w3.heap.size w3 (w3.alloc (.cells #[.pointer (some ⟨p, 0, none⟩), .int .i64 s.m.ep, .int .i64 s.m.log, .slice A1 s.m.nw.length c1, .slice A2 s.m.od.length c2, .int .i64 s.at_, .pointer (some ⟨w1.heap.size + 1, 0, none⟩), .int .i64 0] 148)) := (Below.refl _ _).alloc (Nat.le_refl _) _
  have HS4 : Hid (StoreR B (w3.alloc (.cells #[.pointer (some ⟨p, 0, none⟩), .int .i64 s.m.ep, .int .i64 s.m.log, .slice A1 s.m.nw.length c1, .slice A2 s.m.od.length c2, .int .i64 s.at_, .pointer (some ⟨w1.heap.size + 1, 0, none⟩), .int .i64 0] 148)) w3.heap.size p ⟨s.m, s.at_, [], s.tabs⟩ [w1.heap.size + 1]) := by
    have h3 : Below (w1.heap.size + 1) (w1.alloc (.cells #[.int .i64 s.m.ep, .int .i64 s.m.log, .slice A1 s.m.nw.length c1, .slice A2 s.m.od.length c2] 50)).drew (w3.alloc (.cells #[.pointer (some ⟨p, 0, none⟩), .int .i64 s.m.ep, .int .i64 s.m.log, .slice A1 s.m.nw.length c1, .slice A2 s.m.od.length c2, .int .i64 s.at_, .pointer (some ⟨w1.heap.size + 1, 0, none⟩), .int .i64 0] 148)) := hb4
    have e : (w1.alloc (.cells #[.int .i64 s.m.ep, .int .i64 s.m.log, .slice A1 s.m.nw.length c1, .slice A2 s.m.od.length c2] 50)).drew.heap.size = w1.heap.size + 1 := by simp
    exact ⟨A1, c1, A2, c2, w1.heap.size + 1, 0, Blk.new w3 _ _, HN2.out.below (by rw [e]; exact h3), HO2.out.below (by rw [e]; exact h3), hT3.below hW, by omega, by simp; omega⟩
  have HB4 : Hid (Below w.heap.size w (w3.alloc (.cells #[.pointer (some ⟨p, 0, none⟩), .int .i64 s.m.ep, .int .i64 s.m.log, .slice A1 s.m.nw.length c1, .slice A2 s.m.od.length c2, .int .i64 s.at_, .pointer (some ⟨w1.heap.size + 1, 0, none⟩), .int .i64 0] 148))) := HB2.out.trans (hb4.mono (by omega))
  have HM4 : Hid (Blk (w3.alloc (.cells #[.pointer (some ⟨p, 0, none⟩), .int .i64 s.m.ep, .int .i64 s.m.log, .slice A1 s.m.nw.length c1, .slice A2 s.m.od.length c2, .int .i64 s.at_, .pointer (some ⟨w1.heap.size + 1, 0, none⟩), .int .i64 0] 148)) w1.heap.size 50 #[.int .i64 s.m.ep, .int .i64 s.m.log, .slice A1 s.m.nw.length c1, .slice A2 s.m.od.length c2]) := HM2.out.below hb4 (by omega)
  have HI4 : Hid (Ints B (w3.alloc (.cells #[.pointer (some ⟨p, 0, none⟩), .int .i64 s.m.ep, .int .i64 s.m.log, .slice A1 s.m.nw.length c1, .slice A2 s.m.od.length c2, .int .i64 s.at_, .pointer (some ⟨w1.heap.size + 1, 0, none⟩), .int .i64 0] 148)) (.slice A1 s.m.nw.length c1) s.m.nw ∧ Ints B (w3.alloc (.cells #[.pointer (some ⟨p, 0, none⟩), .int .i64 s.m.ep, .int .i64 s.m.log, .slice A1 s.m.nw.length c1, .slice A2 s.m.od.length c2, .int .i64 s.at_, .pointer (some ⟨w1.heap.size + 1, 0, none⟩), .int .i64 0] 148)) (.slice A2 s.m.od.length c2) s.m.od) := by
    have e : (w1.alloc (.cells #[.int .i64 s.m.ep, .int .i64 s.m.log, .slice A1 s.m.nw.length c1, .slice A2 s.m.od.length c2] 50)).drew.heap.size = w1.heap.size + 1 := by simp
    exact ⟨HN2.out.below (by rw [e]; exact hb4), HO2.out.below (by rw [e]; exact hb4)⟩
  have hq4 : w3.heap.size < (w3.alloc (.cells #[.pointer (some ⟨p, 0, none⟩), .int .i64 s.m.ep, .int .i64 s.m.log, .slice A1 s.m.nw.length c1, .slice A2 s.m.od.length c2, .int .i64 s.at_, .pointer (some ⟨w1.heap.size + 1, 0, none⟩), .int .i64 0] 148)).heap.size := by simp
  have hqw : w.heap.size ≤ w3.heap.size := by omega
  have hgw : w1.heap.size < w3.heap.size := by omega
  have htw : w.heap.size ≤ w1.heap.size + 1 := by omega
  generalize w3.alloc (.cells #[.pointer (some ⟨p, 0, none⟩), .int .i64 s.m.ep, .int .i64 s.m.log, .slice A1 s.m.nw.length c1, .slice A2 s.m.od.length c2, .int .i64 s.at_, .pointer (some ⟨w1.heap.size + 1, 0, none⟩), .int .i64 0] 148) = W4 at *
  generalize w3.heap.size = q at *
  clear hb3 hb4 hT3 hW HZ HNEW HB2 HM2 HN2 HO2
  have z1 := HM4.out.cell 1
  have z2 := HM4.out.cell 2
  have z3 := HM4.out.cell 3
  simp at z1 z2 z3
  have hCC : Calls Try.prog 59 #[.slice (some ⟨W4.heap.size, 0, none⟩) 2 2] (W4.alloc (.cells #[.slice A1 s.m.nw.length c1, .slice A2 s.m.od.length c2] 34)) fun e w5 => ∃ v5, e = .returned v5 ∧ Ints B w5 v5 bs ∧ Below W4.heap.size W4 w5 := by
    have hb : Below W4.heap.size W4 (W4.alloc (.cells #[.slice A1 s.m.nw.length c1, .slice A2 s.m.od.length c2] 34)) := (Below.refl _ _).alloc (Nat.le_refl _) _
    refine (concat_rd B _ _ _ s.m.nw s.m.od _ (Blk.new W4 34 #[.slice A1 s.m.nw.length c1, .slice A2 s.m.od.length c2]) (HI4.out.1.below hb) (HI4.out.2.below hb) (by omega) (by omega)).mono ?_
    rintro e w5 ⟨v5, h1, h2, h3⟩
    rw [HBS.out]
    exact ⟨v5, h1, h2, hb.trans (h3.mono (by simp))⟩
  have HCC := Lib.hid hCC
  clear hCC HI4
  go_wp2_with fail
  refine HCC.out.mono ?_
  rintro e w5 ⟨v5, rfl, hi5, hb5⟩
  obtain ⟨A5, c5, rfl, _, _, _⟩ := hi5.form
  have HS5 := Lib.hid (HS4.out.below hb5)
  have HM5 := Lib.hid (HM4.out.below hb5 HM4.out.lt)
  have HB5 := Lib.hid (HB4.out.trans (hb5.mono HB4.out.size))
  have HI5 := Lib.hid hi5
  clear hi5 hb5 HS4 HM4 HB4 HCC z1 z2 z3 hq4
  go_wp2_with fail
  go_loopw [38] (fun i wr => ∃ k : Nat, k ≤ bs.length ∧ i = .int .i64 (k : Int) ∧ Hid (StoreR B wr q p ⟨s.m, s.at_, [], s.tabs⟩ [w1.heap.size + 1]) ∧ Hid (Blk wr w1.heap.size 50 #[.int .i64 s.m.ep, .int .i64 s.m.log, .slice A1 s.m.nw.length c1, .slice A2 s.m.od.length c2]) ∧ Hid (Ints B wr (.slice A5 bs.length c5) bs) ∧ Below w.heap.size w wr) (fun i _ => bs.length - (intOf i).toNat)
  case atStart => exact ⟨0, Nat.zero_le _, rfl, HS5.out, HM5.out, HI5.out, HB5.out⟩
  case round =>
    obtain ⟨k, hk, rfl, hs, hm, hi, hbl5⟩ := hrel
    clear HS5 HM5 HI5 HB5
    by_cases hlt : k < bs.length
    · obtain ⟨b, hb, _, _⟩ := getElem?_of_lt hlt
      obtain ⟨l, hl, htab⟩ := tabsAt_at HTB.out k b hb
      have hbr := HRN.out b (List.mem_of_getElem? hb)
      obtain ⟨bn, rfl⟩ := Int.eq_ofNat_of_zero_le (show 0 ≤ b by omega)
      rw [Int.toNat_natCast] at htab
      obtain ⟨A4, c4, e4, _, _, hcell⟩ := hi.out.form
      obtain ⟨bb, oo, rfl, hbb, y1⟩ := hcell k _ hb
      cases e4
      have HT := Lib.hid (taball_any B p bn c l wr (HCR.out.below hbl5) (by omega) HUP.out htab)
      have HBL := Lib.hid hbl5
      have g1 : (0 : Int) ≤ (k : Int) := by omega
      have g2 : (k : Int) < (bs.length : Int) := by omega
      clear hb hl htab hcell hbr hbl5
      go_wp2_with fail
      refine HT.out.mono ?_
      rintro e6 w6 ⟨v6, rfl, hv6, hb6⟩
      have HS6 := Lib.hid (hs.out.below hb6)
      have HM6 := Lib.hid (hm.out.below hb6 hm.out.lt)
      have HI6 := Lib.hid (hi.out.below hb6)
      have HB6 := Lib.hid (HBL.out.trans (hb6.mono HBL.out.size))
      clear hv6 hb6 HT
      go_wp2_with fail
      go_roundw
      case rel => exact ⟨k + 1, by omega, by go_num, HS6, HM6, HI6, HB6.out⟩
      case measure => simp [intOf] <;> omega
    · have g2 : decide ((k : Int) < (bs.length : Int)) = false := decide_eq_false (by omega)
      have hnx := next_any B p c s.m.log wr (HCR.out.below hbl5) (by omega) (by omega)
      have HRD : Hid (∀ (i : Nat) (x : Sheet), i < 8 → (c.b s.m.log.toNat).l[i]? = some x → c.read s.m.log i = if x.t then (ByteArray.empty, 4) else (x.d, 0)) := fun i x h1 h2 => by
        have := log_read HUP.out (b := s.m.log.toNat) (by omega) h1 h2
        rw [Int.toNat_of_nonneg (by omega)] at this
        exact this
      have HSZ : Hid (∀ x ∈ (c.b s.m.log.toNat).l, x.t = false → x.d.size = 64) := HWF.out.size s.m.log.toNat (by omega)
      have HL0 : Hid (logE (c.b s.m.log.toNat).l = some es) := HLG.out.read
      have HLM : Hid (s.mem = es.foldl putE []) := HLG.out.mem
      generalize (c.b s.m.log.toNat).l = sh at *
      have HNX := Lib.hid hnx
      have z1 := hm.out.cell 1
      simp at z1
      have HBL := Lib.hid hbl5
      clear hnx hbl5 hi
      go_wp2_with fail
      refine HNX.out.mono ?_
      rintro e6 w6 ⟨rfl, rfl⟩
      go_wp2_with fail
      obtain ⟨wo, rfl⟩ : ∃ wo : World, wo = wr := ⟨_, rfl⟩
      go_loopw [56] (fun i wr => ∃ (k : Nat) (F' : List Nat) (es1 es2 : List Ent), k ≤ sh.length ∧ i = .int .i64 (k : Int) ∧ Hid (StoreR B wr q p ⟨s.m, s.at_, es1.foldl putE [], s.tabs⟩ F') ∧ Hid (es = es1 ++ es2 ∧ logE (sh.drop k) = some es2) ∧ Hid (∀ b ∈ F', w.heap.size ≤ b) ∧ Hid (Blk wr w1.heap.size 50 #[.int .i64 s.m.ep, .int .i64 s.m.log, .slice A1 s.m.nw.length c1, .slice A2 s.m.od.length c2]) ∧ Below w.heap.size w wr) (fun i _ => sh.length - (intOf i).toNat)
      case atStart => exact ⟨0, _, [], es, Nat.zero_le _, rfl, hs.out, ⟨rfl, HL0.out⟩, by intro b hb; simp at hb; omega, hm.out, HBL.out⟩
      case round =>
        obtain ⟨k, F', es1, es2, hk8, rfl, hs2, he, hF, hm2, hbl6⟩ := hrel
        clear hs hm HBL hlt
        by_cases hlt : k < sh.length
        · obtain ⟨x, hx, _, _⟩ := getElem?_of_lt hlt
          have hrd := HRD.out k x (by omega) hx
          have hcr := cread_any B p c s.m.log (k : Int) wr (HCR.out.below hbl6)
          have z1 := hm2.out.cell 1
          simp at z1
          have g2 : decide ((k : Int) < (sh.length : Int)) = true := decide_eq_true (by omega)
          have HB6 := Lib.hid hbl6
          rcases logE_drop hx he.out.2 with ⟨ht, hd⟩ | ⟨ht, a, b, hp, hd, hab⟩
          · rw [hrd, if_pos ht, show errV ((ByteArray.empty, 4) : ByteArray × Nat).2 = .iface 107 (.int .i64 4) from rfl] at hcr
            have HR := Lib.hid hcr
            have HE : Hid (es = es1 ++ es2 ∧ logE (sh.drop (k + 1)) = some es2) := ⟨he.out.1, hd⟩
            clear hx hrd hcr ht hd hbl6
            go_wp2_with fail
            refine HR.out.mono ?_
            rintro e7 w7 ⟨rfl, rfl⟩
            go_wp2_with fail
            go_roundw
            case rel => exact ⟨k + 1, F', es1, es2, by omega, by go_num, hs2, HE, hF, hm2, HB6.out⟩
            case measure => simp [intOf] <;> omega
          · have hxs := HSZ.out x (List.mem_of_getElem? hx) ht
            rw [hrd, if_neg (by rw [ht]; simp), show errV ((x.d, 0) : ByteArray × Nat).2 = .nilIface from rfl] at hcr
            have hpa := parse_any B x.d wr (by omega)
            have hpe : perr x.d = 0 := by unfold perr; rw [hp]; rfl
            rw [hpe, hp, show errV 0 = Value.nilIface from rfl] at hpa
            have HR := Lib.hid hcr
            have HP := Lib.hid hpa
            have hlen : es1.length + a.length ≤ 32 := by
              have := congrArg List.length he.out.1
              rw [hab] at this
              simp at this
              omega
            have HE : Hid (es = (es1 ++ a) ++ b ∧ logE (sh.drop (k + 1)) = some b) := ⟨by rw [he.out.1, hab, List.append_assoc], hd⟩
            have hs6 := hbl6.size
            clear hx hrd hcr ht hd hbl6 hpa hpe hp hab
            go_wp2_with fail
            refine HR.out.mono ?_
            rintro e7 w7 ⟨rfl, rfl⟩
            go_wp2_with fail
            refine HP.out.mono ?_
            rintro e7 w7 ⟨v7, rfl, hv7, hb7⟩
            simp only [Option.getD_some] at hv7
            have HS7 := Lib.hid (hs2.out.below hb7)
            have HM7 := Lib.hid (hm2.out.below hb7 hm2.out.lt)
            have HB7 := Lib.hid (HB6.out.trans (hb7.mono HB6.out.size))
            have hs7 := HB7.out.size
            have HTK := Lib.hid (take_any B q p ⟨s.m, s.at_, es1.foldl putE [], s.tabs⟩ F' v7 a w7 HS7.out hv7 (by have := puts_len es1 []; simp at this; simp only; omega) (by omega))
            clear hv7 hb7 HP HR z1
            go_wp2_with fail
            refine HTK.out.mono ?_
            rintro e8 w8 ⟨F2, rfl, hs8, hf8, hn8⟩
            have HS8 : Hid (StoreR B w8 q p ⟨s.m, s.at_, (es1 ++ a).foldl putE [], s.tabs⟩ F2) := by rw [Hid, List.foldl_append]; exact hs8
            have HM8 := Lib.hid (HM7.out.fr hf8 (.inr (.inr (by decide))))
            have HB8 : Hid (Below w.heap.size w w8) := HB7.out.trans (hf8.off (fun b hb => by
              rcases List.mem_cons.1 hb with rfl | hb
              · exact hqw
              · exact hF.out b hb) hs7)
            have HF8 : Hid (∀ b ∈ F2, w.heap.size ≤ b) := fun b hb => (hn8 b hb).elim (hF.out b) (fun h => by omega)
            clear hs8 hf8 hn8 HTK
            go_wp2_with fail
            go_roundw
            case rel => exact ⟨k + 1, F2, es1 ++ a, b, by omega, by go_num, HS8, HE, HF8, HM8, HB8.out⟩
            case measure => simp [intOf] <;> omega
        · have g2 : decide ((k : Int) < (sh.length : Int)) = false := decide_eq_false (by omega)
          have HSF : Hid (StoreR B wr q p s F') := by
            have h1 := he.out.1
            have h2 := he.out.2
            rw [List.drop_eq_nil_of_le (by omega)] at h2
            have h2 := (Option.some.inj h2).symm
            subst h2
            rw [List.append_nil] at h1
            have h3 := hs2.out
            rw [← h1, ← HLM.out] at h3
            exact h3
          clear hm2
          go_wp2_with fail
          exact FIN.out _ _ q F' HSF.out hbl6 hqw hF.out rfl rfl
end Go.Proofs.Ytaepdbkfaoiimab
/- A drawn region within a round of a range over a function, by way of the plain walk. Conditions: no operation defers; the post lets nothing out. -/
set_option linter.unusedVariables false
namespace Go.Proofs.Ytaepdbkfaoiimab
open Go.RowKit
section
variable {P : Program} {ops : Array Oper} {Q : Exit → Act → World → Prop} {md : Region.Mode} {l n : Nat}
theorem upon_in {o : Oper} {a : Act} {next : Act → World → Prop} {r : Result Next} (h : o.upon P a next Q r) : o.uponIn (Fence.wide.inRound l) n P a next Q r := by
  cases r with
  | ok x w' =>
    cases x with
    | enter f args => exact ⟨fun hh => absurd hh (by simp [Fence.wide]), ((callsIn_wide.2 h).inRound l).mono (fun e w'' he => by cases e <;> exact he)⟩
    | row row args => exact ⟨fun hh => absurd hh (by simp [Fence.wide]), fun c cs _ => by obtain ⟨v, w'', h1, h2⟩ := h c cs; exact ⟨v, w'', h1, stepsIn_wide.2 h2⟩⟩
    | round => exact h.elim
    | _ => exact h
  | halt x w' => cases x <;> exact h
theorem oper_in {o : Oper} {a : Act} {w : World} {next : Act → World → Prop} (hd : ∀ c, o.op ≠ .defer c) (h : o.wp P a w next Q) : o.wpIn (Fence.wide.inRound l) n P a w next Q := by
  refine ⟨fun f _ => trivial, ?_⟩
  have e : o.semAt (Fence.wide.inRound l).round a.eval = execOp a.eval o := Oper.semAt_some l a.eval o hd
  rw [e]
  exact upon_in h
theorem wpAny_in (hd : ∀ (i : Nat) (o : Oper), ops[i]? = some o → ∀ c, o.op ≠ .defer c) (hL : ¬ LetsOut Q) : ∀ (fuel : Nat) (listed : Array Bool) (a : Act) (w : World), wpAny P md ops Q fuel listed a w → wpAnyIn (Fence.wide.inRound l) n P md ops Q fuel listed a w
  | 0, _, _, _, h => h
  | fuel + 1, listed, a, w, h => by
    refine ⟨h.1, fun i hi => ?_⟩
    have h2 := h.2 i hi
    unfold wpOp at h2
    unfold wpOpIn
    cases ho : ops[i]? with
    | none => rw [ho] at h2; exact wpAny_in hd hL fuel _ _ _ h2
    | some o =>
      rw [ho] at h2
      simp only at h2 ⊢
      split
      · rename_i hw
        rw [if_pos hw] at h2
        rcases h2 with h2 | ⟨_, h2⟩
        · exact Oper.wpIn_mono (fun a w h => wpAny_in hd hL fuel _ _ _ h) (oper_in (hd i o ho) h2)
        · exact absurd h2 hL
      · rename_i hw
        rw [if_neg hw] at h2
        exact ⟨fun f _ => trivial, wpAny_in hd hL fuel _ _ _ h2⟩
def noDefer (ops : Array Oper) : Bool := ops.all (fun o => match o.op with | .defer _ => false | _ => true)
theorem noDefer_at (h : noDefer ops = true) : ∀ (i : Nat) (o : Oper), ops[i]? = some o → ∀ c, o.op ≠ .defer c := by
  intro i o ho c hc
  unfold noDefer at h
  rw [Array.all_eq_true] at h
  obtain ⟨hi, e⟩ := Array.getElem?_eq_some_iff.1 ho
  have := h i hi
  rw [e, hc] at this
  cases this
/-- The region, its loads taken first where S holds. -/
theorem region_in {id : Nat} {a : Act} {w : World} {S : World → Prop} (hm : P.follows .mixedOrders = true) (hd : noDefer ops = true) (hL : ¬ LetsOut Q) (hS : S w.drew)
    (h : S w.drew → wpAnyH P .any ops Q S ops.size (Array.replicate ops.size false) a w.drew) : (Code.region id ops true).wpIn (Fence.wide.inRound l) n P Q a w :=
  wpIn_region_any hm (wpAny_in (noDefer_at hd) hL _ _ _ _ (wpAny_of_held _ _ _ _ (h hS)))
end
end Go.Proofs.Ytaepdbkfaoiimab
/- The contract of store.tables. Conditions: the parts are those of tables. -/
set_option linter.unusedVariables false
set_option linter.unusedSimpArgs false
namespace Go.Proofs.Ytaepdbkfaoiimab
open Go.RowKit Go.Shelf
attribute [local go_sem] Oper.semAt_some
attribute [local go_sem ↓] eql_err eql_nilerr neq_err neq_nilerr guard_err guard_nilerr guardn_err guardn_nilerr
theorem own_keep {w w' : World} {base : Nat} {e : TypeId} {size : Nat} {v : Value} {n : Nat} {xs : List Value} (h : w.ownsRow base e size v n xs) (hk : ∀ g, v.ownBlock = some g → w'.heap[g]? = w.heap[g]?) : w'.ownsRow base e size v n xs := by
  refine ⟨h.1, ?_⟩
  rcases h.2 with hn | ⟨g, cap, cur, h1, hg, hh, hrest⟩
  · exact .inl hn
  · exact .inr ⟨g, cap, cur, h1, hg, (hk g (by rw [h1]; rfl)).trans hh, hrest⟩
theorem own_tyB {w : World} {base : Nat} {e : TypeId} {size : Nat} {v : Value} {n : Nat} {xs : List Value} (h : w.ownsRow base e size v n xs) : ∀ g, v.ownBlock = some g → base ≤ g ∧ ∃ cs fz, w.heap[g]? = some (.cells cs e fz) := by
  intro g hg
  rcases h.2 with ⟨rfl, _⟩ | ⟨g', cap, cur, rfl, h1, h2, _⟩
  · cases hg
  · cases hg
    exact ⟨h1, cur, _, h2⟩
theorem heap_type {w : World} {g : Nat} {cs cs' : Array Value} {T T' : TypeId} {fz fz' : Nat × Nat} (h : w.heap[g]? = some (.cells cs T fz)) (k : w.heap[g]? = some (.cells cs' T' fz')) : T = T' := by
  rw [h] at k
  injection k with k
  injection k
theorem ChipR.grown {B p : Nat} {c : Chip} {w w' : World} {row : Option Nat} (h : ChipR B w p c) (hp : c.pend = none) (hg : w.grownBy w' row) (hr : ∀ g, row = some g → B ≤ g ∧ ∃ cs fz, w.heap[g]? = some (.cells cs 3 fz)) : ChipR B w' p c := by
  obtain ⟨V, u, hv, hu, hwf⟩ := h
  rw [hp] at hu
  refine ⟨V, u, ⟨?_, fun b hb => ?_, hv.base⟩, by rw [hp]; exact hu, hwf⟩
  · refine (hg.block p hv.blk.lt fun e => ?_).trans hv.blk
    obtain ⟨_, cs, fz, h2⟩ := hr p e.symm
    exact absurd (heap_type hv.blk h2) (by decide)
  · exact (hv.rows b hb).grown hg fun g e _ => by
      obtain ⟨h1, cs, fz, h2⟩ := hr g e
      exact ⟨h1, cs, _, fz, h2, by decide⟩
theorem Fr.grownR {B : Nat} {M : Nat → Prop} {w W W' : World} {row : Option Nat} (h : Fr B M w W) (hg : W.grownBy W' row) (hr : ∀ g, row = some g → w.heap.size ≤ g) : Fr B M w W' :=
  ⟨hg.os.trans h.os, hg.tape.trans h.tape, hg.output.trans h.output, Nat.le_trans h.size hg.size, fun k hk hc => (hg.block k (Nat.lt_of_lt_of_le hk h.size) (fun e => by have := hr k e.symm; omega)).trans (h.block k hk hc)⟩
/-- The parts that have been gone through. -/
theorem ck_parts (l : List Ent) : ∀ k, (ckUpto 14 l.length k).map (fun j => ckList 14 l j.1) = (parts 14 l).take k
  | 0 => rfl
  | k + 1 => by
    have hpl : (parts 14 l).length = (l.length + 13) / 14 := parts_len 14 l
    by_cases hk : 14 * k < l.length
    · have hlt : k < (parts 14 l).length := by rw [hpl]; omega
      rw [ckUpto_succ hk, List.map_append, ck_parts l k, List.take_succ_eq_append_getElem hlt]
      congr 1
      simp [parts, ckList]
    · have e : ckUpto 14 l.length (k + 1) = ckUpto 14 l.length k := by simp [ckUpto, List.range_succ, hk]
      rw [e, ck_parts l k, List.take_of_length_le (by rw [hpl]; omega), List.take_of_length_le (by rw [hpl]; omega)]
def ckQs (l : List Ent) (pre : List (Ck 14 l.length)) : List (List Ent) := pre.map (fun j => ckList 14 l j.1)
theorem ckQs_snoc (l : List Ent) (pre : List (Ck 14 l.length)) (k : Ck 14 l.length) (ps : List (List Ent)) : ckQs l (pre ++ [k]) ++ ps = ckQs l pre ++ (ckList 14 l k.1 :: ps) := by simp [ckQs]
theorem chipR_farI {B p x : Nat} {c : Chip} {W : World} {cs : Array Value} (h : ChipR B W p c) (hx : Blk W x 34 cs) (hB : B ≤ x) (y : Value) : ChipR B (W.setCell ⟨x, 0, none⟩ y) p c := by
  have far : ∀ {k T : Nat} {cs : Array Value}, Blk W k T cs → T ≠ 34 → Blk (W.setCell ⟨x, 0, none⟩ y) k T cs := fun {k T cs} hb hT => hb.far (fun e => by
    have e : k = x := e
    subst e
    have := hx
    rw [Blk, show W.heap[k]? = some (.cells _ T (0, 0)) from hb] at this
    cases this
    exact hT rfl) _
  obtain ⟨V, u, hv, hu, hw⟩ := h
  refine ⟨V, u, ⟨far hv.blk (by decide), fun b hb => (hv.rows b hb).far hx hB (by decide) _, hv.base⟩, ?_, hw⟩
  generalize c.pend = o at hu ⊢
  match o, hu with
  | none, hu => exact hu
  | some (.wr b d), ⟨qh, qd, bx, bn, bd, h1, h2, h3, h4, h5, h6⟩ => exact ⟨qh, qd, bx, bn, bd, h1, far h2 (by decide), far h3 (by decide), far h4 (by decide), far h5 (by decide), far h6 (by decide)⟩
  | some (.er b), ⟨qh, qd, bx, h1, h2, h3, h4⟩ => exact ⟨qh, qd, bx, h1, far h2 (by decide), far h3 (by decide), far h4 (by decide)⟩
/-- What lies where, while tables runs. -/
structure TbS (B q p : Nat) (vu : Value) (w : World) (bb : Nat) (c : Chip) (out : List Int) (W : World) : Prop where
  b3 : Blk W w.heap.size 90 #[.pointer (some ⟨q, 0, none⟩)]
  b5 : Blk W (w.heap.size + 1) 34 #[vu]
  b6 : Blk W (w.heap.size + 1 + 1) 34 #[.slice none 0 0]
  b7 : Blk W (w.heap.size + 1 + 1 + 1) 44 #[.nilIface]
  bo : ∃ A cp, Blk W (w.heap.size + 1 + 1 + 1 + 1) 34 #[.slice A out.length cp] ∧ W.ownsRow bb 3 1 (.slice A out.length cp) out.length (out.map (.int .i64))
  rep : ChipR B W p c
  fr : Fr B (· = p) w W
  hp : p < w.heap.size
  hq : q < w.heap.size
  hB : B ≤ w.heap.size
  big : w.heap.size + 1 + 1 + 1 + 1 < bb
section
variable {B q p bb B0 n : Nat} {vu : Value} {w W W' : World} {c c' : Chip} {out : List Int} {row : Option Nat}
theorem TbS.below (h : TbS B q p vu w bb c out W) (hb : Below W.heap.size W W') : TbS B q p vu w bb c out W' := by
  obtain ⟨A, cp, h1, h2⟩ := h.bo
  exact ⟨h.b3.below hb h.b3.lt, h.b5.below hb h.b5.lt, h.b6.below hb h.b6.lt, h.b7.below hb h.b7.lt, ⟨A, cp, h1.below hb h1.lt, own_below h2 hb⟩, h.rep.below hb, h.fr.trans (Fr.of_below hb) (fun _ _ => trivial), h.hp, h.hq, h.hB, h.big⟩
theorem TbS.drewN (h : TbS B q p vu w bb c out W) (n : Nat) : TbS B q p vu w bb c out (W.drewN n) := h.below (below_drewN' (Below.refl _ _) n)
theorem TbS.chip (h : TbS B q p vu w bb c out W) (hr : ChipR B W' p c') (hf : Fr B (· = p) W W') : TbS B q p vu w bb c' out W' := by
  obtain ⟨A, cp, h1, h2⟩ := h.bo
  have hp := h.hp
  have ne : ∀ k, w.heap.size ≤ k → ¬ k = p := fun k hk => by omega
  refine ⟨h.b3.fr hf (.inr (.inl (ne _ (by omega)))), h.b5.fr hf (.inr (.inl (ne _ (by omega)))), h.b6.fr hf (.inr (.inl (ne _ (by omega)))), h.b7.fr hf (.inr (.inl (ne _ (by omega)))), ⟨A, cp, h1.fr hf (.inr (.inl (ne _ (by omega)))), own_keep h2 fun g hg => ?_⟩, hr, h.fr.trans hf (fun _ _ => trivial), h.hp, h.hq, h.hB, h.big⟩
  obtain ⟨hb, cs, fz, hh⟩ := own_tyB h2 g hg
  have := h.big
  exact hf.block g (heap_lt hh) (.inr (.inl (ne g (by omega))))
theorem TbS.grown (h : TbS B q p vu w bb c out W) (hg : W.grownBy W' row) (hr : ∀ r, row = some r → B0 ≤ r ∧ ∃ o : Obj, W.heap[r]? = some o ∧ o.isCells = false) (hB0 : w.heap.size ≤ B0) : TbS B q p vu w bb c out W' := by
  obtain ⟨A, cp, h1, h2⟩ := h.bo
  have hf := fr_grown (B := B) hg (fun r e => ⟨Nat.le_trans (Nat.le_trans h.hB hB0) (hr r e).1, (hr r e).2⟩)
  refine ⟨blk_grown h.b3 hg hr, blk_grown h.b5 hg hr, blk_grown h.b6 hg hr, blk_grown h.b7 hg hr, ⟨A, cp, blk_grown h1 hg hr, own_keep h2 fun g hgg => ?_⟩, h.rep.keep hf (fun e => by have := (hr p e).1; have := h.hp; omega), h.fr.trans' hf (fun k hk e => by have := (hr k e).1; omega), h.hp, h.hq, h.hB, h.big⟩
  obtain ⟨hb, cs, fz, hh⟩ := own_tyB h2 g hgg
  refine hg.block g (heap_lt hh) fun e => ?_
  obtain ⟨_, o, h3, h4⟩ := hr g e.symm
  rw [hh] at h3
  cases h3
  cases h4
/-- A block more. -/
theorem TbS.more (h : TbS B q p vu w bb c out W) (hpd : c.pend = none) (hbb : bb ≤ W.heap.size) {A A' : Option Addr} {cp cp' : Nat} {x : Int} (h1 : Blk W (w.heap.size + 1 + 1 + 1 + 1) 34 #[.slice A out.length cp]) (h2 : W.ownsRow bb 3 1 (.slice A out.length cp) out.length (out.map (.int .i64)))
    (hown : W'.ownsRow bb 3 1 (.slice A' (out.length + 1) cp') (out.length + 1) (out.map (.int .i64) ++ [.int .i64 x])) (hg : W.grownBy W' (Value.slice A out.length cp).ownBlock) : TbS B q p vu w bb c (out ++ [x]) (W'.setCell ⟨w.heap.size + 1 + 1 + 1 + 1, 0, none⟩ (.slice A' (out.length + 1) cp')) := by
  have hbig := h.big
  have hB := h.hB
  have hp := h.hp
  have hty := own_tyB h2
  have ne : ∀ k, k < bb → k < W.heap.size → W'.heap[k]? = W.heap[k]? := fun k hk hlt => hg.block k hlt (fun e => by have := (hty k e.symm).1; omega)
  have hb : ∀ {k T} {cs : Array Value}, k < bb → Blk W k T cs → Blk W' k T cs := fun {k T cs} hk hb => (ne k hk hb.lt).trans hb
  have h1' := hb (by omega) h1
  have far : ∀ {k T} {cs : Array Value}, k ≠ w.heap.size + 1 + 1 + 1 + 1 → Blk W' k T cs → Blk (W'.setCell ⟨w.heap.size + 1 + 1 + 1 + 1, 0, none⟩ (.slice A' (out.length + 1) cp')) k T cs := fun {k T cs} hk hb => hb.far (by exact hk) _
  have hfr : Fr B (· = p) w W' := h.fr.grownR hg (fun g e => by have := (hty g e).1; omega)
  have hrep : ChipR B W' p c := h.rep.grown hpd hg (fun g e => by obtain ⟨a, b⟩ := hty g e; exact ⟨by omega, b⟩)
  refine ⟨far (by omega) (hb (by omega) h.b3), far (by omega) (hb (by omega) h.b5), far (by omega) (hb (by omega) h.b6), far (by omega) (hb (by omega) h.b7), ⟨A', cp', ?_, ?_⟩, ?_, ?_, h.hp, h.hq, h.hB, h.big⟩
  · have := h1'.set_ 0 (.slice A' (out.length + 1) cp')
    rw [List.length_append, List.length_singleton]
    exact this
  · rw [List.length_append, List.length_singleton, List.map_append]
    refine own_keep hown fun g hgg => ?_
    obtain ⟨hb', cs, fz, hh⟩ := own_tyB hown g hgg
    exact Below.heap_setCell _ _ _ _ (fun e => by have e : g = w.heap.size + 1 + 1 + 1 + 1 := e; omega)
  · exact chipR_farI hrep h1' (by omega) _
  · exact hfr.setCell (by show B ≤ w.heap.size + 1 + 1 + 1 + 1; omega) (.inr (by show w.heap.size ≤ w.heap.size + 1 + 1 + 1 + 1; omega)) (fun e => absurd e (by show ¬ w.heap.size + 1 + 1 + 1 + 1 < w.heap.size; omega)) _
/-- Nothing has turned but cells, and not the iterator's. -/
structure KeepT (Bs : Nat) (W W' : World) : Prop where
  size : W.heap.size ≤ W'.heap.size
  other : ∀ (k : Nat) (o : Obj), W.heap[k]? = some o → o.isCells = false → W'.heap[k]? = some o
  s1 : W'.heap[Bs]? = W.heap[Bs]?
  s2 : W'.heap[Bs + 1]? = W.heap[Bs + 1]?
theorem KeepT.refl (Bs : Nat) (W : World) : KeepT Bs W W := ⟨Nat.le_refl _, fun _ _ h _ => h, rfl, rfl⟩
theorem KeepT.trans {Bs : Nat} {W W' W2 : World} (h : KeepT Bs W W') (k : KeepT Bs W' W2) : KeepT Bs W W2 := ⟨Nat.le_trans h.size k.size, fun i o h1 h2 => k.other i o (h.other i o h1 h2) h2, k.s1.trans h.s1, k.s2.trans h.s2⟩
theorem KeepT.below {Bs : Nat} {W W' : World} (h : Below W.heap.size W W') (hs : Bs + 1 < W.heap.size) : KeepT Bs W W' := ⟨h.size, fun k o hk _ => (h.block k (heap_lt hk)).trans hk, h.block _ (by omega), h.block _ hs⟩
theorem KeepT.chip {Bs : Nat} {W W' : World} (h : Fr B (· = p) W W') (hs : Bs + 1 < W.heap.size) (hp : p < Bs) (hc : ChipR B W p c) : KeepT Bs W W' := by
  obtain ⟨V, u, hv, _⟩ := hc
  refine ⟨h.size, fun k o hk ho => (h.block k (heap_lt hk) (.inr (.inl fun e => ?_))).trans hk, h.block _ (by omega) (.inr (.inl (by omega))), h.block _ hs (.inr (.inl (by omega)))⟩
  rw [e, show W.heap[p]? = _ from hv.blk] at hk
  cases hk
  cases ho
theorem KeepT.rowg {Bs : Nat} {W W' : World} {v : Value} {e : TypeId} {sz m : Nat} {xs : List Value} (hg : W.grownBy W' v.ownBlock) (ho : W.ownsRow bb e sz v m xs) (hbb : Bs + 1 < bb) (hs : Bs + 1 < W.heap.size) : KeepT Bs W W' := by
  have hty := own_tyB ho
  refine ⟨hg.size, fun k o hk hc => (hg.block k (heap_lt hk) fun e => ?_).trans hk, hg.block _ (by omega) (fun e => by have := (hty _ e.symm).1; omega), hg.block _ hs (fun e => by have := (hty _ e.symm).1; omega)⟩
  obtain ⟨_, cs, fz, h2⟩ := hty k e.symm
  rw [h2] at hk
  cases hk
  cases hc
theorem KeepT.set {Bs x T : Nat} {cs : Array Value} {W : World} (hb : Blk W x T cs) (hx : x < Bs) (u : Value) : KeepT Bs W (W.setCell ⟨x, 0, none⟩ u) :=
  ⟨by simp [World.setCell], fun k o hk ho => (Below.heap_setCell _ _ _ _ (fun e => by
    have e : k = x := e
    rw [e, show W.heap[x]? = _ from hb] at hk; cases hk; cases ho)).trans hk, Below.heap_setCell _ _ _ _ (fun e => by have e : Bs = x := e; omega), Below.heap_setCell _ _ _ _ (fun e => by have e : Bs + 1 = x := e; omega)⟩
end
theorem tab_seven {c : Chip} {l : List Ent} (hc : CWf c) (hd : c.down = false) {b : Nat} (hb : b < 24) (hbad : (c.b b).bad = false) (ht : tabF l = 0) (h : (tabWrite c b l).2 = 7) : (tabWrite c (b : Nat) l).1 = c.spoil b ∧ (c.b b).weak = true := by
  cases hw : (c.b b).weak
  · obtain ⟨c', n, e, _, _, g⟩ := tabWrite_calm hb hd hbad hw ht
    rw [e] at h
    rcases g with ⟨g, _⟩ | ⟨g, _⟩ <;> · simp only at h; omega
  · have := (lays_table ht).weak c b hc hd hb hbad hw
    exact ⟨by show (tabWrite c b l).1 = _; rw [show tabWrite c b l = _ from this], rfl⟩
theorem tab_zero {c : Chip} {l : List Ent} (hc : CWf c) (hd : c.down = false) {b : Nat} (hb : b < 24) (hbad : (c.b b).bad = false) (ht : tabF l = 0) (h : (tabWrite c b l).2 = 0) : (tabWrite c (b : Nat) l).1.down = false ∧ (tabWrite c (b : Nat) l).1.pend = none := by
  have hpn : c.pend = none := by have := hc.down; rw [hd] at this; simpa using this
  cases hw : (c.b b).weak
  · obtain ⟨c', n, e, _, _, g⟩ := tabWrite_calm hb hd hbad hw ht
    rw [e] at h ⊢
    rcases g with ⟨_, g1, g2, _⟩ | ⟨g, _⟩
    · exact ⟨g1, g2.trans hpn⟩
    · simp only at h; omega
  · have := (lays_table ht).weak c b hc hd hb hbad hw
    rw [show tabWrite c b l = _ from this] at h
    cases h
theorem own_form {w : World} {base : Nat} {e : TypeId} {v : Value} {n : Nat} {xs : List Value} (h : w.ownsRow base e 1 v n xs) : ∃ A c, v = .slice A n c := by
  rcases h.2 with ⟨rfl, h2⟩ | ⟨g, cap, cur, rfl, _⟩
  · have h1 := h.1
    rw [h2] at h1
    have : n = 0 := by simp at h1; omega
    subst this
    exact ⟨none, 0, rfl⟩
  · exact ⟨_, _, rfl⟩
theorem ints_one1 {x : Int} : ∀ u ∈ [Value.int .i64 x], u.oneCell' = true := by
  intro u hu
  simp at hu
  subst hu
  rfl
theorem cell_one (w : World) (x : Int) : ∀ (j : Nat) (u : Value), [Value.int .i64 x][j]? = some u → (w.alloc (.cells #[.int .i64 x] 3)).cell? ((Addr.mk w.heap.size 0 none).add j) = some u := by
  intro j u hu
  cases j with
  | zero =>
    simp at hu
    subst hu
    rw [addr_add]
    exact (Blk.new w 3 #[.int .i64 x]).cell 0
  | succ j => simp at hu
theorem Blk.grownO {w w' : World} {g T : Nat} {cs : Array Value} {base : Nat} {e : TypeId} {size n : Nat} {v : Value} {xs : List Value} (h : Blk w g T cs) (hg : w.grownBy w' v.ownBlock) (ho : w.ownsRow base e size v n xs) (hb : g < base) : Blk w' g T cs :=
  (hg.block g h.lt (fun e => by have := (own_tyB ho g e.symm).1; omega)).trans h
/-- One block more, noted. -/
theorem TbS.fini {B q p bb Bs : Nat} {vu : Value} {w W w5 w6 : World} {c : Chip} {out : List Int} {x : Int} {A A' : Option Addr} {cp cp' : Nat} (h : TbS B q p vu w bb c out w5) (hpd : c.pend = none) (h1 : Blk w5 (w.heap.size + 1 + 1 + 1 + 1) 34 #[.slice A out.length cp]) (h2 : w5.ownsRow bb 3 1 (.slice A out.length cp) out.length (out.map (.int .i64)))
    (hk : KeepT Bs W w5) (hown : w6.ownsRow bb 3 1 (.slice A' (out.length + 1) cp') (out.length + 1) (out.map (.int .i64) ++ [.int .i64 x])) (hg : (w5.alloc (.cells #[.int .i64 x] 3)).grownBy w6 (Value.slice A out.length cp).ownBlock) (hbb : Bs + 1 < bb ∧ bb ≤ w5.heap.size) (hBs : w.heap.size + 1 + 1 + 1 + 1 < Bs) :
    TbS B q p vu w bb c (out ++ [x]) (w6.setCell ⟨w.heap.size + 1 + 1 + 1 + 1, 0, none⟩ (.slice A' (out.length + 1) cp')) ∧ KeepT Bs W (w6.setCell ⟨w.heap.size + 1 + 1 + 1 + 1, 0, none⟩ (.slice A' (out.length + 1) cp')) := by
  have hb : Below w5.heap.size w5 (w5.alloc (.cells #[.int .i64 x] 3)) := (Below.refl _ _).alloc (Nat.le_refl _) _
  have h1' := h1.below hb h1.lt
  have h2' := own_below h2 hb
  refine ⟨(h.below hb).more hpd (by simp; omega) h1' h2' hown hg, ?_⟩
  have hs : Bs + 1 < w5.heap.size := by omega
  exact ((hk.trans (KeepT.below hb hs)).trans (KeepT.rowg hg h2' hbb.1 (by simp; omega))).trans (KeepT.set (h1'.grownO hg h2' (by omega)) hBs _)
theorem KeepT.others {Bs : Nat} {W W' : World} (h : KeepT Bs W W') : KeepsOthers W W' := ⟨h.size, h.other⟩
theorem TbS.res {B q p bb Bs : Nat} {vu : Value} {w W : World} {c : Chip} {out : List Int} (h : TbS B q p vu w bb c out W) (hB : w.heap.size + 1 + 1 + 1 + 1 < Bs) (u y : Value) : KeepT Bs W ((W.setCell ⟨w.heap.size + 1 + 1, 0, none⟩ u).setCell ⟨w.heap.size + 1 + 1 + 1, 0, none⟩ y) :=
  (KeepT.set h.b6 (by omega) u).trans (KeepT.set (h.b7.far (p := ⟨w.heap.size + 1 + 1, 0, none⟩) (by show w.heap.size + 1 + 1 + 1 ≠ w.heap.size + 1 + 1; omega) u) (by omega) y)
/-- Behind an error: what lies where. -/
structure TbR (B p : Nat) (w : World) (n : Nat) (c : Chip) (W : World) : Prop where
  b6 : Blk W (w.heap.size + 1 + 1) 34 #[.slice none 0 0]
  b7 : Blk W (w.heap.size + 1 + 1 + 1) 44 #[errV n]
  rep : ChipR B W p c
  fr : Fr B (· = p) w W
  hp : p < w.heap.size
  hB : B ≤ w.heap.size
theorem TbR.grown {B p n B0 : Nat} {w W W' : World} {c : Chip} {row : Option Nat} (h : TbR B p w n c W) (hg : W.grownBy W' row) (hr : ∀ r, row = some r → B0 ≤ r ∧ ∃ o : Obj, W.heap[r]? = some o ∧ o.isCells = false) (hB0 : w.heap.size ≤ B0) : TbR B p w n c W' := by
  have hf := fr_grown (B := B) hg (fun r e => ⟨Nat.le_trans (Nat.le_trans h.hB hB0) (hr r e).1, (hr r e).2⟩)
  exact ⟨blk_grown h.b6 hg hr, blk_grown h.b7 hg hr, h.rep.keep hf (fun e => by have := (hr p e).1; have := h.hp; omega), h.fr.trans' hf (fun k hk e => by have := (hr k e).1; omega), h.hp, h.hB⟩
theorem TbS.stop {B q p bb : Nat} {vu : Value} {w W : World} {c : Chip} {out : List Int} (h : TbS B q p vu w bb c out W) (n : Nat) : TbR B p w n c ((W.setCell ⟨w.heap.size + 1 + 1, 0, none⟩ (.slice none 0 0)).setCell ⟨w.heap.size + 1 + 1 + 1, 0, none⟩ (errV n)) := by
  have hB := h.hB
  have hp := h.hp
  have h6 := h.b6.set_ 0 (.slice none 0 0)
  have h7 : Blk (W.setCell ⟨w.heap.size + 1 + 1, 0, none⟩ (.slice none 0 0)) (w.heap.size + 1 + 1 + 1) 44 #[.nilIface] := h.b7.far (by show w.heap.size + 1 + 1 + 1 ≠ w.heap.size + 1 + 1; omega) _
  have r6 := chipR_farI h.rep h.b6 (by omega) (.slice none 0 0)
  have f6 := h.fr.setCell (p := ⟨w.heap.size + 1 + 1, 0, none⟩) (by show B ≤ w.heap.size + 1 + 1; omega) (.inr (by show w.heap.size ≤ w.heap.size + 1 + 1; omega)) (fun e => absurd e (by show ¬ w.heap.size + 1 + 1 < w.heap.size; omega)) (.slice none 0 0)
  exact ⟨h6.far (by show w.heap.size + 1 + 1 ≠ w.heap.size + 1 + 1 + 1; omega) _, h7.set_ 0 _, chipR_far r6 h7 (by omega) _, f6.setCell (by show B ≤ w.heap.size + 1 + 1 + 1; omega) (.inr (by show w.heap.size ≤ w.heap.size + 1 + 1 + 1; omega)) (fun e => absurd e (by show ¬ w.heap.size + 1 + 1 + 1 < w.heap.size; omega)) _, h.hp, h.hB⟩
theorem TbS.last {B q p bb : Nat} {vu : Value} {w W : World} {c : Chip} {out : List Int} (h : TbS B q p vu w bb c out W) {D : Nat} (hD : w.heap.size ≤ D) (hK : W.heap[D]? = some (.deferred (some []))) (ho : Obj.isCells (.deferred (some [])) = false) {A : Option Addr} {cp : Nat} (hown : W.ownsRow bb 3 1 (.slice A out.length cp) out.length (out.map (.int .i64))) (o' : Obj) :
    ChipR B (((W.setCell ⟨w.heap.size + 1 + 1, 0, none⟩ (.slice A out.length cp)).setCell ⟨w.heap.size + 1 + 1 + 1, 0, none⟩ .nilIface).putObj D o') p c ∧ Fr B (· = p) w (((W.setCell ⟨w.heap.size + 1 + 1, 0, none⟩ (.slice A out.length cp)).setCell ⟨w.heap.size + 1 + 1 + 1, 0, none⟩ .nilIface).putObj D o') ∧ Ints B (((W.setCell ⟨w.heap.size + 1 + 1, 0, none⟩ (.slice A out.length cp)).setCell ⟨w.heap.size + 1 + 1 + 1, 0, none⟩ .nilIface).putObj D o') (.slice A out.length cp) out ∧ (((W.setCell ⟨w.heap.size + 1 + 1, 0, none⟩ (.slice A out.length cp)).setCell ⟨w.heap.size + 1 + 1 + 1, 0, none⟩ .nilIface).putObj D o').cell? ⟨w.heap.size + 1 + 1, 0, none⟩ = some (.slice A out.length cp) ∧ (((W.setCell ⟨w.heap.size + 1 + 1, 0, none⟩ (.slice A out.length cp)).setCell ⟨w.heap.size + 1 + 1 + 1, 0, none⟩ .nilIface).putObj D o').cell? ⟨w.heap.size + 1 + 1 + 1, 0, none⟩ = some .nilIface ∧ ((W.setCell ⟨w.heap.size + 1 + 1, 0, none⟩ (.slice A out.length cp)).setCell ⟨w.heap.size + 1 + 1 + 1, 0, none⟩ .nilIface).heap[D]? = some (.deferred (some [])) := by
  have hB := h.hB
  have hp := h.hp
  have hbig := h.big
  have h6 := h.b6.set_ 0 (.slice A out.length cp)
  have h7 : Blk (W.setCell ⟨w.heap.size + 1 + 1, 0, none⟩ (.slice A out.length cp)) (w.heap.size + 1 + 1 + 1) 44 #[.nilIface] := h.b7.far (by show w.heap.size + 1 + 1 + 1 ≠ w.heap.size + 1 + 1; omega) _
  have r6 := chipR_farI h.rep h.b6 (by omega) (.slice A out.length cp)
  have f6 := h.fr.setCell (p := ⟨w.heap.size + 1 + 1, 0, none⟩) (by show B ≤ w.heap.size + 1 + 1; omega) (.inr (by show w.heap.size ≤ w.heap.size + 1 + 1; omega)) (fun e => absurd e (by show ¬ w.heap.size + 1 + 1 < w.heap.size; omega)) (.slice A out.length cp)
  have k6 : Blk ((W.setCell ⟨w.heap.size + 1 + 1, 0, none⟩ (.slice A out.length cp)).setCell ⟨w.heap.size + 1 + 1 + 1, 0, none⟩ .nilIface) (w.heap.size + 1 + 1) 34 #[.slice A out.length cp] := h6.far (by show w.heap.size + 1 + 1 ≠ w.heap.size + 1 + 1 + 1; omega) _
  have k7 : Blk ((W.setCell ⟨w.heap.size + 1 + 1, 0, none⟩ (.slice A out.length cp)).setCell ⟨w.heap.size + 1 + 1 + 1, 0, none⟩ .nilIface) (w.heap.size + 1 + 1 + 1) 44 #[.nilIface] := h7.set_ 0 _
  have r7 := chipR_far r6 h7 (by omega) .nilIface
  have f7 : Fr B (· = p) w ((W.setCell ⟨w.heap.size + 1 + 1, 0, none⟩ (.slice A out.length cp)).setCell ⟨w.heap.size + 1 + 1 + 1, 0, none⟩ .nilIface) := f6.setCell (by show B ≤ w.heap.size + 1 + 1 + 1; omega) (.inr (by show w.heap.size ≤ w.heap.size + 1 + 1 + 1; omega)) (fun e => absurd e (by show ¬ w.heap.size + 1 + 1 + 1 < w.heap.size; omega)) _
  have hne : ∀ {k T} {cs : Array Value}, Blk W k T cs → D ≠ k := fun hb e => by
    subst e
    rw [show W.heap[D]? = _ from hb] at hK
    cases hK
  have hK2 : ((W.setCell ⟨w.heap.size + 1 + 1, 0, none⟩ (.slice A out.length cp)).setCell ⟨w.heap.size + 1 + 1 + 1, 0, none⟩ .nilIface).heap[D]? = some (.deferred (some [])) := (Below.heap_setCell _ _ _ _ (hne h.b7)).trans ((Below.heap_setCell _ _ _ _ (hne h.b6)).trans hK)
  have how : ((W.setCell ⟨w.heap.size + 1 + 1, 0, none⟩ (.slice A out.length cp)).setCell ⟨w.heap.size + 1 + 1 + 1, 0, none⟩ .nilIface).ownsRow bb 3 1 (.slice A out.length cp) out.length (out.map (.int .i64)) := own_keep hown fun g hg => by
    have := (own_tyB hown g hg).1
    exact (Below.heap_setCell _ _ _ _ (fun e => by have e : g = w.heap.size + 1 + 1 + 1 := e; omega)).trans (Below.heap_setCell _ _ _ _ (fun e => by have e : g = w.heap.size + 1 + 1 := e; omega))
  have hg := grownBy_putObj' ((W.setCell ⟨w.heap.size + 1 + 1, 0, none⟩ (.slice A out.length cp)).setCell ⟨w.heap.size + 1 + 1 + 1, 0, none⟩ .nilIface) D o'
  have hr : ∀ r, some D = some r → w.heap.size ≤ r ∧ ∃ o : Obj, ((W.setCell ⟨w.heap.size + 1 + 1, 0, none⟩ (.slice A out.length cp)).setCell ⟨w.heap.size + 1 + 1 + 1, 0, none⟩ .nilIface).heap[r]? = some o ∧ o.isCells = false := fun r e => by cases e; exact ⟨hD, _, hK2, ho⟩
  have hf := fr_grown (B := B) hg (fun r e => ⟨Nat.le_trans hB (hr r e).1, (hr r e).2⟩)
  have hpD : ¬ some D = some p := fun e => by
    cases e
    omega
  have how2 : (((W.setCell ⟨w.heap.size + 1 + 1, 0, none⟩ (.slice A out.length cp)).setCell ⟨w.heap.size + 1 + 1 + 1, 0, none⟩ .nilIface).putObj D o').ownsRow bb 3 1 (.slice A out.length cp) out.length (out.map (.int .i64)) := own_keep how fun g hgg => by
    obtain ⟨_, cs, fz, hh⟩ := own_tyB how g hgg
    refine hg.block g (heap_lt hh) fun e => ?_
    cases e
    rw [hh] at hK2
    cases hK2
  refine ⟨r7.keep hf hpD, f7.trans' hf (fun k hk hm => by cases hm; omega), Rd.of_own how2, ?_, ?_, hK2⟩
  · rw [(blk_grown k6 hg hr).cell]; rfl
  · rw [(blk_grown k7 hg hr).cell]; rfl
set_option maxRecDepth 100000 in
set_option maxHeartbeats 8000000 in
theorem tables_any (B : Nat) (q p : Nat) (c : Chip) (s : SM) (F : List Nat) (v vu : Value) (l : List Ent) (used : List Int) (w : World) (h : StoreR B w q p s F) (hc : ChipR B w p c) (hl : Ents B w v l) (hu : Ints B w vu used) (hd : c.down = false) (hok : ∀ x ∈ parts 14 l, tabF x = 0) (hlen : l.length ≤ 1000) (hul : used.length ≤ 1000) :
    Calls Try.prog 106 #[.pointer (some ⟨q, 0, none⟩), v, vu] w fun e w' => ∃ vo, e = .returned (.tuple #[vo, errV (tablesM used (parts 14 l) c []).2.2]) ∧ Ints B w' vo (tablesM used (parts 14 l) c []).2.1 ∧ ChipR B w' p (tablesM used (parts 14 l) c []).1 ∧ Fr B (· = p) w w' := by
  have hB0 : B ≤ w.heap.size := Nat.le_of_lt (Nat.lt_of_le_of_lt h.base h.lt)
  have hpw := hc.lt
  have hqw := h.lt
  have hqp := h.apart hc q (by simp)
  obtain ⟨A, cp, rfl, hc1, hc2, _⟩ := hl.form
  obtain ⟨Au, cu, rfl, _, _, _⟩ := hu.form
  have hA : ∃ g o, 0 < l.length → A = some ⟨g, o, none⟩ := by
    rcases Nat.eq_zero_or_pos l.length with h0 | h0
    · exact ⟨0, 0, fun h => by omega⟩
    · obtain ⟨g, o, rfl, _⟩ := rd_at' hl.1 h0
      exact ⟨g, o, fun _ => rfl⟩
  obtain ⟨g, o, hA⟩ := hA
  have HL := Lib.hid hl
  have HU := Lib.hid hu
  have HOK := Lib.hid hok
  have HD := Lib.hid hd
  have HX0 : Hid (∀ W, Fr B (· = p) w W → W.cell? ⟨q, 0, none⟩ = some (.pointer (some ⟨p, 0, none⟩))) := by
    intro W hf
    obtain ⟨A1, c1, A2, c2, t, n, hk, _⟩ := h
    have := (hk.fr hf (.inr (.inl hqp))).cell 0
    simpa using this
  have hb5 : Below w.heap.size w (((((w.alloc (.cells #[.pointer (some ⟨q, 0, none⟩)] 90)).alloc (.cells #[.slice Au used.length cu] 34)).alloc (.cells #[.slice none 0 0] 34)).alloc (.cells #[.nilIface] 44)).alloc (.cells #[.slice none 0 0] 34)) := ((((((Below.refl _ _).alloc (Nat.le_refl _) _).alloc (by simp) _).alloc (by simp; omega) _).alloc (by simp; omega) _).alloc (by simp; omega) _)
  have HT0 : Hid (∀ bb, w.heap.size + 1 + 1 + 1 + 1 < bb → TbS B q p (.slice Au used.length cu) w bb c [] (((((w.alloc (.cells #[.pointer (some ⟨q, 0, none⟩)] 90)).alloc (.cells #[.slice Au used.length cu] 34)).alloc (.cells #[.slice none 0 0] 34)).alloc (.cells #[.nilIface] 44)).alloc (.cells #[.slice none 0 0] 34))) := by
    intro bb hbb
    have k3 : Blk (((((w.alloc (.cells #[.pointer (some ⟨q, 0, none⟩)] 90)).alloc (.cells #[.slice Au used.length cu] 34)).alloc (.cells #[.slice none 0 0] 34)).alloc (.cells #[.nilIface] 44)).alloc (.cells #[.slice none 0 0] 34)) w.heap.size 90 #[.pointer (some ⟨q, 0, none⟩)] := ((((Blk.new w _ _).alloc _).alloc _).alloc _).alloc _
    have k5 : Blk (((((w.alloc (.cells #[.pointer (some ⟨q, 0, none⟩)] 90)).alloc (.cells #[.slice Au used.length cu] 34)).alloc (.cells #[.slice none 0 0] 34)).alloc (.cells #[.nilIface] 44)).alloc (.cells #[.slice none 0 0] 34)) (w.heap.size + 1) 34 #[(.slice Au used.length cu)] := by
      have := (((Blk.new (w.alloc (.cells #[.pointer (some ⟨q, 0, none⟩)] 90)) 34 #[(.slice Au used.length cu)]).alloc (.cells #[.slice none 0 0] 34)).alloc (.cells #[.nilIface] 44)).alloc (.cells #[.slice none 0 0] 34)
      simpa using this
    have k6 : Blk (((((w.alloc (.cells #[.pointer (some ⟨q, 0, none⟩)] 90)).alloc (.cells #[.slice Au used.length cu] 34)).alloc (.cells #[.slice none 0 0] 34)).alloc (.cells #[.nilIface] 44)).alloc (.cells #[.slice none 0 0] 34)) (w.heap.size + 1 + 1) 34 #[.slice none 0 0] := by
      have := ((Blk.new ((w.alloc (.cells #[.pointer (some ⟨q, 0, none⟩)] 90)).alloc (.cells #[.slice Au used.length cu] 34)) 34 #[.slice none 0 0]).alloc (.cells #[.nilIface] 44)).alloc (.cells #[.slice none 0 0] 34)
      simpa using this
    have k7 : Blk (((((w.alloc (.cells #[.pointer (some ⟨q, 0, none⟩)] 90)).alloc (.cells #[.slice Au used.length cu] 34)).alloc (.cells #[.slice none 0 0] 34)).alloc (.cells #[.nilIface] 44)).alloc (.cells #[.slice none 0 0] 34)) (w.heap.size + 1 + 1 + 1) 44 #[.nilIface] := by
      have := (Blk.new (((w.alloc (.cells #[.pointer (some ⟨q, 0, none⟩)] 90)).alloc (.cells #[.slice Au used.length cu] 34)).alloc (.cells #[.slice none 0 0] 34)) 44 #[.nilIface]).alloc (.cells #[.slice none 0 0] 34)
      simpa using this
    have k8 : Blk (((((w.alloc (.cells #[.pointer (some ⟨q, 0, none⟩)] 90)).alloc (.cells #[.slice Au used.length cu] 34)).alloc (.cells #[.slice none 0 0] 34)).alloc (.cells #[.nilIface] 44)).alloc (.cells #[.slice none 0 0] 34)) (w.heap.size + 1 + 1 + 1 + 1) 34 #[.slice none 0 0] := by
      have := Blk.new ((((w.alloc (.cells #[.pointer (some ⟨q, 0, none⟩)] 90)).alloc (.cells #[.slice Au used.length cu] 34)).alloc (.cells #[.slice none 0 0] 34)).alloc (.cells #[.nilIface] 44)) 34 #[.slice none 0 0]
      simpa using this
    exact ⟨k3, k5, k6, k7, ⟨none, 0, k8, World.ownsRow_nil _ _ _ _⟩, hc.below hb5, .of_below hb5, hpw, hqw, hB0, hbb⟩
  have hsz5 : w.heap.size + 1 + 1 + 1 + 1 < (((((w.alloc (.cells #[.pointer (some ⟨q, 0, none⟩)] 90)).alloc (.cells #[.slice Au used.length cu] 34)).alloc (.cells #[.slice none 0 0] 34)).alloc (.cells #[.nilIface] 44)).alloc (.cells #[.slice none 0 0] 34)).heap.size := by simp
  clear h hc hl hu hd hok hb5
  refine (callsIn_wide (n := 6)).1 ?_
  refine callsIn_of_wp_marks Try.func106 rfl trivial ?_ rfl
  simp only [Try.ntmps106, List.size_toArray, List.length_cons, List.length_nil, Nat.reduceAdd, Nat.reduceSub, Array.replicate_succ, Array.replicate_zero, List.push_toArray, List.append_toArray, List.nil_append, List.cons_append]
  refine wpIn_wide.2 ?_
  go_wp2_with fail
  generalize hWL : (((((w.alloc (.cells #[.pointer (some ⟨q, 0, none⟩)] 90)).alloc (.cells #[.slice Au used.length cu] 34)).alloc (.cells #[.slice none 0 0] 34)).alloc (.cells #[.nilIface] 44)).alloc (.cells #[.slice none 0 0] 34)) = WL at *
  clear hWL
  refine (chunk_any A l.length cp 14 (by decide) WL).mono ?_
  rintro e10 w10 ⟨rfl, rfl⟩
  have hTL : TbS B q p (.slice Au used.length cu) w (WL.heap.size + 2) c [] ((WL.alloc (.cells #[(.slice A l.length cp)] 22)).alloc (.cells #[.int .i64 14] 3)) := by
    have h := HT0.out (WL.heap.size + 2) (by omega)
    exact (h.below ((Below.refl _ _).alloc (Nat.le_refl _) _)).below ((Below.refl _ _).alloc (Nat.le_refl _) _)
  have HTL := Lib.hid hTL
  have HBs : Blk ((WL.alloc (.cells #[(.slice A l.length cp)] 22)).alloc (.cells #[.int .i64 14] 3)) WL.heap.size 22 #[(.slice A l.length cp)] := (Blk.new WL _ _).alloc _
  have HBn : Blk ((WL.alloc (.cells #[(.slice A l.length cp)] 22)).alloc (.cells #[.int .i64 14] 3)) (WL.heap.size + 1) 3 #[.int .i64 (14 : Nat)] := by
    have := Blk.new (WL.alloc (.cells #[(.slice A l.length cp)] 22)) 3 #[.int .i64 14]
    simpa using this
  have hps : WL.heap.size + 2 ≤ ((WL.alloc (.cells #[(.slice A l.length cp)] 22)).alloc (.cells #[.int .i64 14] 3)).heap.size := by simp
  generalize hWW : ((WL.alloc (.cells #[(.slice A l.length cp)] 22)).alloc (.cells #[.int .i64 14] 3)) = WW at *
  generalize WL.heap.size = Bs at *
  clear hWW hTL HT0
  go_wp2_with fail
  refine (wpIn_wide (n := 6)).1 ?_
  refine wpIn_rangeFunc_ownF (n := 6) rfl (by decide) (gf := 100) (lb := #[.pointer (some ⟨Bs, 0, none⟩), .pointer (some ⟨Bs + 1, 0, none⟩)]) rfl trivial (enters_of Try.func100 (by kernel_rfl) rfl)
    (chunk_stops 5 (by decide) Bs (Bs + 1) g o l.length cp 14 A hA (by decide) (by decide) (by omega) hc1 hc2 WW HBs HBn) kpc_t (fun W k o o' hk _ _ _ => kpc_b (Bs := Bs) (Bn := Bs + 1) W k o' (by omega) (by omega)) (Below.refl _ _) (fun _ => rfl)
    (fun pre W => ∃ (c' : Chip) (out : List Int), (∀ ps, tablesM used (ckQs l pre ++ ps) c [] = tablesM used ps c' out) ∧ c'.down = false ∧ out.length ≤ 14 * pre.length ∧ TbS B q p (.slice Au used.length cu) w (Bs + 2) c' out W ∧ Bs + 2 ≤ W.heap.size)
    (fun cde pre W => cde = .ret ∧ ∃ (c' : Chip) (n : Nat), n ≠ 0 ∧ (∀ ps, tablesM used (ckQs l pre ++ ps) c [] = (c', [], n)) ∧ TbR B p w n c' W)
    (fun s A' B' row hs hg hr => by obtain ⟨c', out, h1, h2, h3, h4, h5⟩ := hs; exact ⟨c', out, h1, h2, h3, h4.grown hg hr (by omega), Nat.le_trans h5 hg.size⟩)
    (fun cde s A' B' row hs hg hr => by obtain ⟨h0, c', n, h1, h2, h3⟩ := hs; exact ⟨h0, c', n, h1, h2, h3.grown hg hr (by omega)⟩)
    ⟨c, [], fun ps => rfl, HD.out, by simp, HTL.out, by omega⟩ ?a1 ?assign ?body ?done ?stop
  case assign =>
    intro l0 x W K hK
    simp only [ckVal]
    gi_wp2
    exact hK
  case body =>
    rintro l0 pre ⟨k, hkx⟩ W ⟨c0, out, hst, hdn, hol, hT, hWs⟩ hpre
    obtain rfl := hA (by omega)
    obtain ⟨m, hm⟩ : ∃ m, min 14 (l.length - 14 * k) = m := ⟨_, rfl⟩
    have hen : ∀ W', Fr B (· = p) w W' → Ents B W' (.slice (some ⟨g, o + 14 * k * 3, none⟩) m m) (ckList 14 l k) := fun W' hf => by
      have := ents_chunk (nn := 14) (k := k) (HL.out.fr hf)
      rw [hm] at this
      exact this
    have HEN := Lib.hid hen
    have htf : tabF (ckList 14 l k) = 0 := by
      refine HOK.out _ (List.mem_map.2 ⟨k, ?_, rfl⟩)
      rw [List.mem_range]
      omega
    have HTF := Lib.hid htf
    have hst' : ∀ ps, tablesM used (ckQs l (pre ++ [⟨k, hkx⟩]) ++ ps) c [] = tablesM used (ckList 14 l k :: ps) c0 out := fun ps => by rw [ckQs_snoc, hst]
    have HST := Lib.hid hst'
    have hg0 : goods c0 < 25 := by have := goods_le c0; omega
    have HT1 := Lib.hid hT
    have HD0 := Lib.hid hdn
    have hol2 : out.length ≤ 14 * l.length := by have : 14 * pre.length ≤ 14 * l.length := Nat.mul_le_mul_left _ (by omega); omega
    simp only [hm]
    clear hm hen htf hst hst' hT hdn
    gi_wp2_with fail
    gi_loopg [10] 25 (fun gk b W' => ∃ c' : Chip, Hid (TbS B q p (.slice Au used.length cu) w (Bs + 2) c' out W') ∧ Hid (KeepT Bs W W') ∧ Hid (seek (fun c b => tabWrite c b (ckList 14 l k)) (used ++ out) gk c' = seek (fun c b => tabWrite c b (ckList 14 l k)) (used ++ out) 25 c0) ∧ goods c' < gk ∧ Hid (c'.down = false))
    case atStart => exact ⟨c0, HT1.out, KeepT.refl _ _, rfl, hg0, HD0.out⟩
    case round =>
      obtain ⟨c', hT2, hK2, hs2, hg2, hd2⟩ := hrel
      clear hg0 HD0
      obtain ⟨gn, rfl⟩ : ∃ gn, gk = gn + 1 := ⟨gk - 1, by omega⟩
      obtain ⟨Ao, co, hbo, hown⟩ := hT2.out.bo
      have y0 := hT2.out.b3.cell 0
      have y1 := hT2.out.b5.cell 0
      have y2 := hbo.cell 0
      simp at y0 y1 y2
      have y3 := HX0.out wr hT2.out.fr
      have hsw := hT2.out.fr.size
      have hkw := hK2.out.size
      have HSK : Hid (∀ W', Below wr.heap.size wr W' → W'.cell? ⟨w.heap.size, 0, none⟩ = some (.pointer (some ⟨q, 0, none⟩)) ∧ W'.cell? ⟨q, 0, none⟩ = some (.pointer (some ⟨p, 0, none⟩)) ∧ W'.cell? ⟨w.heap.size + 1, 0, none⟩ = some (.slice Au used.length cu) ∧ W'.cell? ⟨w.heap.size + 1 + 1 + 1 + 1, 0, none⟩ = some (.slice Ao out.length co)) := by
        intro W' hb
        have h := hT2.out.below hb
        have a0 := h.b3.cell 0
        have a1 := h.b5.cell 0
        have a2 := (hbo.below hb hbo.lt).cell 0
        simp at a0 a1 a2
        exact ⟨a0, HX0.out W' h.fr, a1, a2⟩
      have hbI : Below wr.heap.size wr (wr.alloc (.cells #[.slice Au used.length cu, .slice Ao out.length co] 34)).drew := ((Below.refl _ _).alloc (Nat.le_refl _) _).drew
      have hCC : Calls Try.prog 59 #[.slice (some ⟨wr.heap.size, 0, none⟩) 2 2] (wr.alloc (.cells #[.slice Au used.length cu, .slice Ao out.length co] 34)).drew fun e w3 => ∃ v3, e = .returned v3 ∧ Ints B w3 v3 (used ++ out) ∧ Below wr.heap.size wr w3 := by
        refine (concat_rd B _ _ _ used out _ (Blk.drewN (Blk.new wr 34 #[.slice Au used.length cu, .slice Ao out.length co]) 1) ((HU.out.fr hT2.out.fr).below hbI) (Ints.below (Rd.of_own hown) hbI) (by omega) (by omega)).mono ?_
        rintro e w3 ⟨v3, h1, h2, h3⟩
        exact ⟨v3, h1, h2, hbI.trans (h3.mono (by simp))⟩
      have HCC := Lib.hid hCC
      have HBI := Lib.hid hbI
      clear hCC hbI
      gi_wp2_with fail
      refine region_in (S := fun w' => w'.cell? ⟨w.heap.size, 0, none⟩ = some (.pointer (some ⟨q, 0, none⟩)) ∧ w'.cell? ⟨q, 0, none⟩ = some (.pointer (some ⟨p, 0, none⟩)) ∧ w'.cell? ⟨w.heap.size + 1, 0, none⟩ = some (.slice Au used.length cu) ∧ w'.cell? ⟨w.heap.size + 1 + 1 + 1 + 1, 0, none⟩ = some (.slice Ao out.length co)) (by kernel_rfl) (by kernel_rfl) ?_ ⟨y0, y3, y1, y2⟩ (fun hHeld => ?_)
      · rintro ⟨a, w, h⟩
        exact h
      refine wpAnyH_take (i := 0) (oi := ⟨some 15, _, _, _, _, _⟩) (v := .pointer (some ⟨q, 0, none⟩)) rfl (by kernel_rfl) (by kernel_rfl) (by kernel_rfl) (fun _ _ _ h => h) (Or.inl ⟨by rfl, ?_⟩) (by assumption) ?_
      · intro wS hSw
        go_simp
      simp only [Act.put, List.setIfInBounds_toArray, List.set_cons_zero, List.set_cons_succ]
      refine wpAnyH_take (i := 1) (oi := ⟨some 16, _, _, _, _, _⟩) (v := .pointer (some ⟨q, 0, none⟩)) rfl (by kernel_rfl) (by kernel_rfl) (by kernel_rfl) (fun _ _ _ h => h) (Or.inl ⟨by rfl, ?_⟩) (by assumption) ?_
      · intro wS hSw
        go_simp
      simp only [Act.put, List.setIfInBounds_toArray, List.set_cons_zero, List.set_cons_succ]
      refine wpAnyH_take (i := 2) (oi := ⟨some 17, _, _, _, _, _⟩) (v := .pointer (some ⟨q, 0, none⟩)) rfl (by kernel_rfl) (by kernel_rfl) (by kernel_rfl) (fun _ _ _ h => h) (Or.inl ⟨by rfl, ?_⟩) (by assumption) ?_
      · intro wS hSw
        go_simp
      simp only [Act.put, List.setIfInBounds_toArray, List.set_cons_zero, List.set_cons_succ]
      refine wpAnyH_take (i := 3) (oi := ⟨some 18, _, _, _, _, _⟩) (v := .pointer (some ⟨p, 0, none⟩)) rfl (by kernel_rfl) (by kernel_rfl) (by kernel_rfl) (fun _ _ _ h => h) (Or.inl ⟨by rfl, ?_⟩) (by assumption) ?_
      · intro wS hSw
        go_simp
      simp only [Act.put, List.setIfInBounds_toArray, List.set_cons_zero, List.set_cons_succ]
      refine wpAnyH_take (i := 4) (oi := ⟨some 19, _, _, _, _, _⟩) (v := .slice Au used.length cu) rfl (by kernel_rfl) (by kernel_rfl) (by kernel_rfl) (fun _ _ _ h => h) (Or.inl ⟨by rfl, ?_⟩) (by assumption) ?_
      · intro wS hSw
        go_simp
      simp only [Act.put, List.setIfInBounds_toArray, List.set_cons_zero, List.set_cons_succ]
      refine wpAnyH_take (i := 5) (oi := ⟨some 20, _, _, _, _, _⟩) (v := .slice Ao out.length co) rfl (by kernel_rfl) (by kernel_rfl) (by kernel_rfl) (fun _ _ _ h => h) (Or.inl ⟨by rfl, ?_⟩) (by assumption) ?_
      · intro wS hSw
        go_simp
      simp only [Act.put, List.setIfInBounds_toArray, List.set_cons_zero, List.set_cons_succ]
      refine wpAnyH_ready (rs := [6]) (by kernel_rfl) (by simp) ?_
      refine AllReadyH.cons (o := ⟨some 21, _, _, _, _, _⟩) rfl (fun K hK => ?_) AllReadyH.nil
      go_simp
      refine hK.out _ _ ?_ (fun hHeld => ?_)
      · exact HSK.out _ HBI.out
      clear hK K
      try simp only [Act.put, List.setIfInBounds_toArray, List.set_cons_zero, List.set_cons_succ]
      refine wpAnyH_ready (rs := [7]) (by kernel_rfl) (by simp) ?_
      refine AllReadyH.cons (o := ⟨some 22, _, _, _, _, _⟩) rfl (fun K hK => ?_) AllReadyH.nil
      go_simp
      refine HCC.out.mono ?_
      rintro e w3 ⟨v3, rfl, hi3, hb3⟩
      obtain ⟨A3, c3, hv3, _, _, _⟩ := hi3.form
      rw [List.length_append] at hv3
      subst hv3
      refine hK.out _ _ ?_ (fun hHeld => ?_)
      · exact HSK.out _ hb3
      clear hK K
      have HT3 := Lib.hid (hT2.out.below hb3)
      have HK3 := Lib.hid (hK2.out.trans (KeepT.below hb3 (by omega)))
      have HFR := Lib.hid (free_any B p c' _ (used ++ out) w3 HT3.out.rep hi3)
      have hbo3 := hbo.below hb3 hbo.lt
      have hown3 := own_below hown hb3
      have hs3 := hb3.size
      have HBO3 := Lib.hid hbo3
      have HOW3 := Lib.hid hown3
      clear hi3 hb3 hbo hown hbo3 hown3 HCC HBI HSK y0 y1 y2 y3
      try simp only [Act.put, List.setIfInBounds_toArray, List.set_cons_zero, List.set_cons_succ]
      have hsk := hs2.out
      rw [seek] at hsk
      obtain ⟨z0, z3, z1, z2⟩ := hHeld
      have hHeld : w3.cell? ⟨w.heap.size, 0, none⟩ = some (.pointer (some ⟨q, 0, none⟩)) ∧ w3.cell? ⟨q, 0, none⟩ = some (.pointer (some ⟨p, 0, none⟩)) ∧ w3.cell? ⟨w.heap.size + 1, 0, none⟩ = some (.slice Au used.length cu) ∧ w3.cell? ⟨w.heap.size + 1 + 1 + 1 + 1, 0, none⟩ = some (.slice Ao out.length co) := ⟨z0, z3, z1, z2⟩
      rcases freeM_spec c' (used ++ out) with ⟨hb, _⟩ | ⟨b, hb, b1, b2, b3, _⟩
      · rw [hb] at HFR hsk
        rw [if_pos (by omega)] at hsk
        have HX : Hid (∀ ps, tablesM used (ckQs l (pre ++ [⟨k, hkx⟩]) ++ ps) c [] = (c', [], 8)) := by
          intro ps
          rw [HST.out, tablesM, ← hsk]
          rfl
        clear hb hsk hs2
        refine wpAnyH_ready (rs := [8]) (by kernel_rfl) (by simp) ?_
        refine AllReadyH.cons (o := ⟨some 23, _, _, _, _, _⟩) rfl (fun K hK => ?_) AllReadyH.nil
        go_simp
        refine HFR.out.mono ?_
        rintro e w4 ⟨rfl, rfl⟩
        refine hK.out _ _ hHeld (fun _ => ?_)
        clear hK K
        try simp only [Act.put, List.setIfInBounds_toArray, List.set_cons_zero, List.set_cons_succ]
        refine wpAnyH_ready (rs := [9]) (by kernel_rfl) (by simp) ?_
        refine AllReadyH.cons (o := ⟨some 10, _, _, _, _, _⟩) rfl (fun K hK => ?_) AllReadyH.nil
        go_simp
        refine hK.out _ _ hHeld (fun _ => ?_)
        clear hK K HFR
        try simp only [Act.put, List.setIfInBounds_toArray, List.set_cons_zero, List.set_cons_succ]
        refine wpAnyH_done (by kernel_rfl) ?_ _
        have t1 : decide ((-1 : Int) < 0) = true := by decide
        have f6 := HT3.out.b6.frozen 0
        have f7 := HT3.out.b7.frozen 0
        have r6 := HT3.out.b6.cell 0
        have r7 := HT3.out.b7.cell 0
        have l6 := HT3.out.b6.lt
        have l7 := HT3.out.b7.lt
        simp at r6 r7
        clear hHeld z0 z1 z2 z3
        gi_wp2_with fail
        exact ⟨(HK3.out.trans (HT3.out.res (by omega) _ _)).others, rfl, c', 8, by decide, HX.out, HT3.out.stop 8⟩
      · rw [hb] at HFR hsk
        rw [if_neg (by omega)] at hsk
        have htw := twrite_any B p c' (b : Int) _ (ckList 14 l k) w3 HT3.out.rep (HEN.out w3 HT3.out.fr) HTF.out
        have h7 := tab_seven HT3.out.rep.wf hd2.out b2 b3 HTF.out
        have h0 := tab_zero HT3.out.rep.wf hd2.out b2 b3 HTF.out
        have HXE : Hid (∀ (c2 : Chip) (n : Nat), n ≠ 0 → (c2, (0 : Int), n) = seek (fun c b => tabWrite c b (ckList 14 l k)) (used ++ out) 25 c0 → ∀ ps, tablesM used (ckQs l (pre ++ [⟨k, hkx⟩]) ++ ps) c [] = (c2, [], n)) := by
          intro c2 n hn e ps
          rw [HST.out, tablesM, ← e]
          simp only
          rw [if_neg hn]
        have HX0' : Hid (∀ (c2 : Chip), (c2, (b : Int), 0) = seek (fun c b => tabWrite c b (ckList 14 l k)) (used ++ out) 25 c0 → ∀ ps, tablesM used (ckQs l (pre ++ [⟨k, hkx⟩]) ++ ps) c [] = tablesM used ps c2 (out ++ [(b : Int)])) := by
          intro c2 e ps
          rw [HST.out, tablesM, ← e]
          simp only
          rw [if_pos trivial]
        obtain ⟨⟨c2, n⟩, he⟩ : ∃ r, tabWrite c' (b : Int) (ckList 14 l k) = r := ⟨_, rfl⟩
        rw [he] at hsk htw h7 h0
        simp only at hsk h7 h0
        have t1 : decide ((b : Int) < 0) = false := decide_eq_false (by omega)
        have hgs := fun hw => goods_spoil (c := c') b2 b3 hw
        clear hb he hs2
        have HTK : Hid (Calls Try.prog 46 #[.pointer (some ⟨p, 0, none⟩), .int .i64 b, .slice (some ⟨g, o + 14 * k * 3, none⟩) m m] w3 fun e w5 => e = .returned (errV n) ∧ TbS B q p (.slice Au used.length cu) w (Bs + 2) c2 out w5 ∧ KeepT Bs W w5 ∧ Fr B (· = p) w3 w5) := by
          refine htw.mono ?_
          rintro e w5 ⟨h1, h2, h3⟩
          exact ⟨h1, HT3.out.chip h2 h3, HK3.out.trans (KeepT.chip h3 (by omega) (by omega) HT3.out.rep), h3⟩
        clear htw
        by_cases hn7 : n = 7
        · subst hn7
          rw [if_pos rfl] at hsk
          obtain ⟨h71, h72⟩ := h7 rfl
          subst h71
          have hg3 := hgs h72
          have HS := Lib.hid hsk
          have HDN : Hid ((c'.spoil b).down = false) := by rw [Hid, (spoil_rest c' b).1]; exact hd2.out
          rw [show errV 7 = .iface 107 (.int .i64 7) from rfl] at HTK
          clear hsk h7 h0 hgs h72
          refine wpAnyH_ready (rs := [8]) (by kernel_rfl) (by simp) ?_
          refine AllReadyH.cons (o := ⟨some 23, _, _, _, _, _⟩) rfl (fun K hK => ?_) AllReadyH.nil
          go_simp
          refine HFR.out.mono ?_
          rintro e w4 ⟨rfl, rfl⟩
          refine hK.out _ _ hHeld (fun _ => ?_)
          clear hK K
          try simp only [Act.put, List.setIfInBounds_toArray, List.set_cons_zero, List.set_cons_succ]
          refine wpAnyH_ready (rs := [9]) (by kernel_rfl) (by simp) ?_
          refine AllReadyH.cons (o := ⟨some 10, _, _, _, _, _⟩) rfl (fun K hK => ?_) AllReadyH.nil
          go_simp
          refine hK.out _ _ hHeld (fun _ => ?_)
          clear hK K HFR
          try simp only [Act.put, List.setIfInBounds_toArray, List.set_cons_zero, List.set_cons_succ]
          refine wpAnyH_done (by kernel_rfl) ?_ _
          clear hHeld z1 z2
          gi_wp2_with (refine ⟨trivial, ?_⟩; gi_at_call 46; refine (CallsIn.inRound l0 (callsIn_wide.2 HTK.out)).mono ?_; rintro e5 w5 ⟨rfl, ht5, hk5, hf5⟩; have HT5 := Lib.hid ht5; have HK5 := Lib.hid hk5; clear ht5 hk5 hf5)
          gi_roundg gn
          case measure => omega
          case rel => exact ⟨_, HT5, HK5, HS, by omega, HDN⟩
        · by_cases hn0 : n = 0
          · subst hn0
            rw [if_neg hn7, if_pos rfl] at hsk
            have HX := Lib.hid (HX0'.out c2 hsk)
            obtain ⟨hdn2, hpn2⟩ := h0 rfl
            have HDN := Lib.hid hdn2
            have HPN := Lib.hid hpn2
            rw [show errV 0 = .nilIface from rfl] at HTK
            obtain ⟨i0, hi, hz0, hz1, hz2⟩ := info_parts info_int
            clear hsk h7 h0 hgs hdn2 hpn2 hn7
            refine wpAnyH_ready (rs := [8]) (by kernel_rfl) (by simp) ?_
            refine AllReadyH.cons (o := ⟨some 23, _, _, _, _, _⟩) rfl (fun K hK => ?_) AllReadyH.nil
            go_simp
            refine HFR.out.mono ?_
            rintro e w4 ⟨rfl, rfl⟩
            refine hK.out _ _ hHeld (fun _ => ?_)
            clear hK K
            try simp only [Act.put, List.setIfInBounds_toArray, List.set_cons_zero, List.set_cons_succ]
            refine wpAnyH_ready (rs := [9]) (by kernel_rfl) (by simp) ?_
            refine AllReadyH.cons (o := ⟨some 10, _, _, _, _, _⟩) rfl (fun K hK => ?_) AllReadyH.nil
            go_simp
            refine hK.out _ _ hHeld (fun _ => ?_)
            clear hK K HFR
            try simp only [Act.put, List.setIfInBounds_toArray, List.set_cons_zero, List.set_cons_succ]
            refine wpAnyH_done (by kernel_rfl) ?_ _
            clear hHeld z1 z2
            gi_wp2_with (first
              | (refine ⟨trivial, ?_⟩; gi_at_call 46; refine (CallsIn.inRound l0 (callsIn_wide.2 HTK.out)).mono ?_; rintro e5 w5 ⟨rfl, ht5, hk5, hf5⟩; obtain ⟨A6, c6, hbo6, hown6⟩ := ht5.bo; have q8 := hbo6.cell 0; have q8f := hbo6.frozen 0; simp at q8; have HT5 := Lib.hid ht5; have HK5 := Lib.hid hk5; have HBO6 := Lib.hid hbo6; have HOW6 := Lib.hid hown6; have hs5 := hf5.size; clear ht5 hk5 hf5 hbo6 hown6)
              | (gi_at_builtin; refine wpListIn_append_own _ rfl (.tmp 36) (.tmp 38) 34 rfl (Bs + 2) 3 i0 (.int .i64 0) 1 8 Try.underlying34 hi hz0 hz1 hz2 rfl (by decide) _ _ _ rfl (own_alloc HOW6.out (.cells #[.int .i64 b] 3)) ⟨w5.heap.size, 0, none⟩ 1 1 [.int .i64 b] rfl rfl (cell_one w5 b) ints_one1 (by unfold maxLen; omega) (by omega) (by simp; omega) ?_; intro v6 w6 hown7 hg7 _; obtain ⟨A7, c7, rfl⟩ := own_form hown7; have hb7 := HBO6.out.alloc (.cells #[.int .i64 b] 3); have hb8 := hb7.grownO hg7 (own_alloc HOW6.out (.cells #[.int .i64 b] 3)) (by omega); have p8 := hb8.cell 0; have p8f := hb8.frozen 0; have p8l := hb8.lt; simp at p8; have HFI := Lib.hid (TbS.fini (x := b) HT5.out HPN.out HBO6.out HOW6.out HK5.out hown7 hg7 ⟨by omega, by omega⟩ (by omega)); clear hown7 hg7 hb7 hb8))
            clear hi hz0 hz1 hz2
            exact ⟨HFI.out.2.others, ⟨HFI.out.2.s1, HFI.out.2.s2⟩, c2, out ++ [(b : Int)], HX.out, HDN.out, by simp; omega, HFI.out.1, by have := HFI.out.2.size; omega⟩
          · rw [if_neg hn7, if_neg hn0] at hsk
            have HX := Lib.hid (HXE.out c2 n hn0 hsk)
            have he := errV_pos hn0
            have HSTP : Hid (∀ W', TbS B q p (.slice Au used.length cu) w (Bs + 2) c2 out W' → TbR B p w n c2 ((W'.setCell ⟨w.heap.size + 1 + 1, 0, none⟩ (.slice none 0 0)).setCell ⟨w.heap.size + 1 + 1 + 1, 0, none⟩ (.iface 107 (.int .i64 n)))) := fun W' h => by
              have := h.stop n
              rw [he] at this
              exact this
            rw [he] at HTK
            have t2 : (((n : Nat) : Int) == 7) = false := beq_eq_false_iff_ne.2 (by omega)
            have HN0 := Lib.hid hn0
            clear hsk h7 h0 hgs he hn0 hn7
            refine wpAnyH_ready (rs := [8]) (by kernel_rfl) (by simp) ?_
            refine AllReadyH.cons (o := ⟨some 23, _, _, _, _, _⟩) rfl (fun K hK => ?_) AllReadyH.nil
            go_simp
            refine HFR.out.mono ?_
            rintro e w4 ⟨rfl, rfl⟩
            refine hK.out _ _ hHeld (fun _ => ?_)
            clear hK K
            try simp only [Act.put, List.setIfInBounds_toArray, List.set_cons_zero, List.set_cons_succ]
            refine wpAnyH_ready (rs := [9]) (by kernel_rfl) (by simp) ?_
            refine AllReadyH.cons (o := ⟨some 10, _, _, _, _, _⟩) rfl (fun K hK => ?_) AllReadyH.nil
            go_simp
            refine hK.out _ _ hHeld (fun _ => ?_)
            clear hK K HFR
            try simp only [Act.put, List.setIfInBounds_toArray, List.set_cons_zero, List.set_cons_succ]
            refine wpAnyH_done (by kernel_rfl) ?_ _
            clear hHeld z1 z2
            gi_wp2_with (refine ⟨trivial, ?_⟩; gi_at_call 46; refine (CallsIn.inRound l0 (callsIn_wide.2 HTK.out)).mono ?_; rintro e5 w5 ⟨rfl, ht5, hk5, hf5⟩; have HT5 := Lib.hid ht5; have HK5 := Lib.hid hk5; have f6 := ht5.b6.frozen 0; have f7 := ht5.b7.frozen 0; have l6 := ht5.b6.lt; have l7 := ht5.b7.lt; have r6 := ht5.b6.cell 0; have r7 := ht5.b7.cell 0; simp at r6 r7; clear ht5 hk5 hf5)
            exact ⟨(HK5.out.trans (HT5.out.res (by omega) _ _)).others, rfl, c2, n, HN0.out, HX.out, HSTP.out _ HT5.out⟩
  case done =>
    rintro D xs W hD ⟨k, hk, rfl⟩ ⟨c', out, h1, h2, h3, h4, h5⟩ hK
    have hend : tablesM used (parts 14 l) c [] = (c', out, 0) := by
      have := h1 []
      rw [List.append_nil, ckQs, ck_parts, List.take_of_length_le (by rw [parts_len]; omega)] at this
      exact this
    have HEND := Lib.hid hend
    obtain ⟨A6, c6, hbo, hown⟩ := h4.bo
    have q8 := hbo.cell 0
    have r6 := h4.b6.cell 0
    have r7 := h4.b7.cell 0
    have f6 := h4.b6.frozen 0
    have f7 := h4.b7.frozen 0
    have l6 := h4.b6.lt
    have l7 := h4.b7.lt
    simp at q8 r6 r7
    have HTD := Lib.hid (h4.last (D := D) (by omega) hK rfl hown (.deferred none))
    clear hend h1 h4 hbo hown
    go_wp2_with fail
    have hc6 := HTD.out.2.2.2.1
    have hc7 := HTD.out.2.2.2.2.1
    refine ⟨by simp, .inl ⟨_, _, rfl, run_takeDeferred HTD.out.2.2.2.2.2, ?_⟩⟩
    refine ⟨.tuple #[.slice A6 out.length c6, .nilIface], by simp [results, Try.results106, go_sem, hc6, hc7], ?_⟩
    rw [HEND.out]
    exact ⟨_, rfl, HTD.out.2.2.1, HTD.out.1, HTD.out.2.1⟩
  case stop =>
    rintro D cde pre W hD ⟨k, rfl⟩ ⟨rfl, c', n, hn, hst, hR⟩ hK
    have hend : tablesM used (parts 14 l) c [] = (c', [], n) := by
      have := hst ((parts 14 l).drop k)
      rw [ckQs, ck_parts, List.take_append_drop] at this
      exact this
    have HEND := Lib.hid hend
    clear hend hst
    gi_wp2
    have hTD := hR.grown (grownBy_putObj' W D (.deferred none)) (fun r e => by cases e; exact ⟨hD, _, hK, rfl⟩) (by omega)
    have hc6 := hTD.b6.cell 0
    have hc7 := hTD.b7.cell 0
    simp at hc6 hc7
    refine ⟨by simp, .inl ⟨_, _, rfl, run_takeDeferred hK, ?_⟩⟩
    refine ⟨.tuple #[.slice none 0 0, errV n], by simp [results, Try.results106, go_sem, hc6, hc7], ?_⟩
    rw [HEND.out]
    exact ⟨_, rfl, Rd.nil _ _ _ _, hTD.rep, hTD.fr⟩
end Go.Proofs.Ytaepdbkfaoiimab
