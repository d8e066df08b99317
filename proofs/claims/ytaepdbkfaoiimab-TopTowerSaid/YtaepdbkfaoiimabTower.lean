/- The contracts of package tower: way, New, Get, Many, All, Put. Conditions: a million entries at most. -/
import Derived.Test.YtaepdbkfaoiimabTower0
import Derived.Test.YtaepdbkfaoiimabMerge
import Derived.Deep.LoopGhost
import Derived.RegionTactic
import Derived.BigRegion
set_option linter.unusedVariables false
set_option linter.unusedSimpArgs false
namespace Go.Proofs.Ytaepdbkfaoiimab
open Go.RowKit

/-- The cells of a position: its pointer on floor f. -/
theorem TRep.ptr {w : World} {t : Nat} {ns : List Nd} {N : Nat → Nat → Option Addr} {cnt : Int} (h : TRep w t ns N cnt) {i f : Nat} (hi : i ≤ ns.length) (hf : f < 4) : w.cell? ⟨blkOf t ns i, 3 + f, none⟩ = some (.pointer (N (blkOf t ns i) f)) := by
  cases i with
  | zero =>
    rw [show blkOf t ns 0 = t from rfl, h.head.cell]
    match f, hf with
    | 0, _ => rfl
    | 1, _ => rfl
    | 2, _ => rfl
    | 3, _ => rfl
  | succ i =>
    obtain ⟨nd, hnd, _⟩ := getElem?_of_lt (show i < ns.length by omega)
    rw [blkOf_succ hnd, (h.node nd (List.mem_of_getElem? hnd)).cell]
    match f, hf with
    | 0, _ => rfl
    | 1, _ => rfl
    | 2, _ => rfl
    | 3, _ => rfl

/-- A floor is done: the way's array has its position. -/
theorem way_step {t m f i : Nat} {ns : List Nd} {q : Nat → Nat} {w wo : World} {cs : Array Value} {T : TypeId} (hcs : Blk wo (w.heap.size + 1) T cs) (hsz : cs.size = 4)
    (hcg : ∀ g, f + 1 ≤ g → g < 4 → cs[g]? = some (.pointer (some ⟨blkOf t ns (q g), 0, none⟩))) (hf4 : f < 4) (hq : ∀ g, f + 1 ≤ g → g < 4 → IsLast ns m g (q g)) (hl : IsLast ns m f i)
    (hk0 : Blk wo w.heap.size T #[.pointer none, .pointer none, .pointer none, .pointer none]) (hbl : Below w.heap.size w wo) (hfh : f < hOf ns i) :
    ∃ (f' i' : Nat) (q' : Nat → Nat), Value.int .i64 ((f : Int) - 1) = .int .i64 ((f' : Int) - 1) ∧ f' ≤ 4 ∧ Value.pointer (some ⟨blkOf t ns i, 0, none⟩) = .pointer (some ⟨blkOf t ns i', 0, none⟩) ∧ Hid (i' ≤ m ∧ f' ≤ hOf ns i') ∧ Hid (∀ g, f' ≤ g → g < 4 → IsLast ns m g (q' g)) ∧
      Hid (Blk (wo.setCell ⟨w.heap.size + 1, f, none⟩ (.pointer (some ⟨blkOf t ns i, 0, none⟩))) w.heap.size T #[.pointer none, .pointer none, .pointer none, .pointer none]) ∧
      Hid (∃ cs : Array Value, Blk (wo.setCell ⟨w.heap.size + 1, f, none⟩ (.pointer (some ⟨blkOf t ns i, 0, none⟩))) (w.heap.size + 1) T cs ∧ cs.size = 4 ∧ ∀ g, f' ≤ g → g < 4 → cs[g]? = some (.pointer (some ⟨blkOf t ns (q' g), 0, none⟩))) ∧
      Below w.heap.size w (wo.setCell ⟨w.heap.size + 1, f, none⟩ (.pointer (some ⟨blkOf t ns i, 0, none⟩))) := by
  refine ⟨f, i, fun g => if g = f then i else q g, rfl, by omega, rfl, ⟨hl.1, by omega⟩, fun g h1 h2 => ?_, hk0.far (by simp) _, ⟨_, hcs.set_ f _, by simp [hsz], fun g h1 h2 => ?_⟩, hbl.setCell (by simp) _⟩
  · by_cases hg : g = f
    · subst hg; simpa using hl
    · simp only [if_neg hg]; exact hq g (by omega) h2
  · by_cases hg : g = f
    · subst hg; simp [hsz, hf4]
    · rw [Array.getElem?_setIfInBounds_ne (by omega)]
      simp only [if_neg hg]; exact hcg g (by omega) h2

set_option maxHeartbeats 2000000 in
theorem way_any (t : Nat) (ns : List Nd) (N : Nat → Nat → Option Addr) (cnt : Int) (key : ByteArray) (w : World) (hr : TRep w t ns N cnt) (hv : TVal t ns N) (ho : TOk ns) (hn : ns.length ≤ 1000000) :
    Calls Try.prog 57 #[.pointer (some ⟨t, 0, none⟩), .string key] w fun e w' =>
      (∃ i0 i1 i2 i3, e = .returned (.agg #[.pointer (some ⟨blkOf t ns i0, 0, none⟩), .pointer (some ⟨blkOf t ns i1, 0, none⟩), .pointer (some ⟨blkOf t ns i2, 0, none⟩), .pointer (some ⟨blkOf t ns i3, 0, none⟩)]) ∧
        IsLast ns (below ns key) 0 i0 ∧ IsLast ns (below ns key) 1 i1 ∧ IsLast ns (below ns key) 2 i2 ∧ IsLast ns (below ns key) 3 i3) ∧ Below w.heap.size w w' := by
  have HR := Lib.hid hr
  have HV := Lib.hid hv
  have HO := Lib.hid ho
  clear hr hv ho
  obtain ⟨m, hm⟩ : ∃ m, below ns key = m := ⟨_, rfl⟩
  have hmn := below_le ns key
  have HM := Lib.hid hm
  rw [hm] at hmn
  rw [hm]
  clear hm
  go_enter Try.func57, Try.ntmps57
  go_wp2_with fail
  have hb0 : Below w.heap.size w ((w.alloc (.cells #[.pointer none, .pointer none, .pointer none, .pointer none] 99)).alloc (.cells #[.pointer none, .pointer none, .pointer none, .pointer none] 99)) := ((Below.refl _ _).alloc (Nat.le_refl _) _).alloc (by simp) _
  have k0 : Blk ((w.alloc (.cells #[.pointer none, .pointer none, .pointer none, .pointer none] 99)).alloc (.cells #[.pointer none, .pointer none, .pointer none, .pointer none] 99)) w.heap.size 99 #[.pointer none, .pointer none, .pointer none, .pointer none] := (Blk.new _ _ _).alloc _
  have k1 : Blk ((w.alloc (.cells #[.pointer none, .pointer none, .pointer none, .pointer none] 99)).alloc (.cells #[.pointer none, .pointer none, .pointer none, .pointer none] 99)) (w.heap.size + 1) 99 #[.pointer none, .pointer none, .pointer none, .pointer none] := by
    have := Blk.new (w.alloc (.cells #[.pointer none, .pointer none, .pointer none, .pointer none] 99)) 99 #[.pointer none, .pointer none, .pointer none, .pointer none]
    simpa using this
  have K0 := Lib.hid k0
  have K1 := Lib.hid k1
  have HB0 := Lib.hid hb0
  clear k0 k1 hb0
  go_loopw [6, 7] (fun x s wr => ∃ (f i : Nat) (q : Nat → Nat), s = .int .i64 ((f : Int) - 1) ∧ f ≤ 4 ∧ x = .pointer (some ⟨blkOf t ns i, 0, none⟩) ∧ Hid (i ≤ m ∧ f ≤ hOf ns i) ∧ Hid (∀ g, f ≤ g → g < 4 → IsLast ns m g (q g)) ∧
      Hid (Blk wr w.heap.size 99 #[.pointer none, .pointer none, .pointer none, .pointer none]) ∧ Hid (∃ cs : Array Value, Blk wr (w.heap.size + 1) 99 cs ∧ cs.size = 4 ∧ ∀ g, f ≤ g → g < 4 → cs[g]? = some (.pointer (some ⟨blkOf t ns (q g), 0, none⟩))) ∧
      Below w.heap.size w wr) (fun _ s _ => (intOf s + 1).toNat)
  case atStart => exact ⟨4, 0, fun _ => 0, rfl, Nat.le_refl _, rfl, ⟨Nat.zero_le _, by simp [hOf]⟩, fun g h1 h2 => by omega, K0.out, ⟨_, K1.out, rfl, fun g h1 h2 => by omega⟩, HB0.out⟩
  case round =>
    obtain ⟨f, i, q, rfl, hf, rfl, hi, hq, hk0, hk1, hbl⟩ := hrel
    clear K0 K1 HB0
    cases f with
    | zero =>
      obtain ⟨cs, hcs, hsz, hcg⟩ := hk1.out
      obtain ⟨p0, p1, p2, p3, rfl⟩ : ∃ p0 p1 p2 p3, cs = #[p0, p1, p2, p3] := by
        obtain ⟨l⟩ := cs
        match l, hsz with
        | [p0, p1, p2, p3], _ => exact ⟨p0, p1, p2, p3, rfl⟩
      have e0 := hcg 0 (by omega) (by omega)
      have e1 := hcg 1 (by omega) (by omega)
      have e2 := hcg 2 (by omega) (by omega)
      have e3 := hcg 3 (by omega) (by omega)
      simp at e0 e1 e2 e3
      subst e0; subst e1; subst e2; subst e3
      have c0 := hcs.cell 0
      have c1 := hcs.cell 1
      have c2 := hcs.cell 2
      have c3 := hcs.cell 3
      simp at c0 c1 c2 c3
      have b0 := hk0.out.cell 0
      have b1 := hk0.out.cell 1
      have b2 := hk0.out.cell 2
      have b3 := hk0.out.cell 3
      simp at b0 b1 b2 b3
      have z0 := hk0.out.frozen 0
      have z1 := hk0.out.frozen 1
      have z2 := hk0.out.frozen 2
      have z3 := hk0.out.frozen 3
      clear hcs hcg hsz
      have hq0 := hq.out 0 (by omega) (by omega)
      have hq1 := hq.out 1 (by omega) (by omega)
      have hq2 := hq.out 2 (by omega) (by omega)
      have hq3 := hq.out 3 (by omega) (by omega)
      have HQ := Lib.hid (And.intro hq0 (And.intro hq1 (And.intro hq2 hq3)))
      clear hq0 hq1 hq2 hq3
      go_wp2_with fail
      refine bodyPost_ret (v := .agg #[.pointer (some ⟨blkOf t ns (q 0), 0, none⟩), .pointer (some ⟨blkOf t ns (q 1), 0, none⟩), .pointer (some ⟨blkOf t ns (q 2), 0, none⟩), .pointer (some ⟨blkOf t ns (q 3), 0, none⟩)]) ?_ rfl ?_
      · simp [results, Try.results57, go_sem, b0, b1, b2, b3]
      · refine ⟨⟨q 0, q 1, q 2, q 3, rfl, HQ.out.1, HQ.out.2.1, HQ.out.2.2.1, HQ.out.2.2.2⟩, ?_⟩
        exact (((hbl.setCell (Nat.le_refl _) _).setCell (Nat.le_refl _) _).setCell (Nat.le_refl _) _).setCell (Nat.le_refl _) _
    | succ f =>
      have e1 : (((f + 1 : Nat) : Int) - 1) = (f : Int) := by omega
      rw [e1]
      clear e1
      have g1 : (0 : Int) ≤ (f : Int) := by omega
      have g2 : (f : Int) < 4 := by omega
      have hf4 : f < 4 := by omega
      go_wp2_with fail
      obtain ⟨wo, rfl⟩ : ∃ wo : World, wo = wr := ⟨_, rfl⟩
      have HRW := Lib.hid (HR.out.below hbl)
      obtain ⟨cs, hcs, hsz, hcg⟩ := hk1.out
      have s1 : wo.cell? ⟨w.heap.size + 1, f, none⟩ = some (cs.getD f undef) := by rw [hcs.cell]; simp [hsz, hf4]
      have s2 : wo.frozen? ⟨w.heap.size + 1, f, none⟩ = false := hcs.frozen f
      have HCS := Lib.hid hcs
      have HSZ := Lib.hid hsz
      have HCG := Lib.hid hcg
      clear hcs hsz hcg hk1
      have hi1 := hi.out.1
      have hi2 : f < hOf ns i := by have := hi.out.2; omega
      go_loopg [6] (ns.length - i) (fun g x wr => wo = wr ∧ ∃ i', i' ≤ m ∧ x = .pointer (some ⟨blkOf t ns i', 0, none⟩) ∧ g = ns.length - i' ∧ f < hOf ns i')
      case atStart => exact ⟨rfl, i, hi1, rfl, rfl, hi2⟩
      case round =>
        obtain ⟨rfl, i', hi', rfl, hgk, hfh⟩ := hrel
        have HG := Lib.hid hgk
        clear hgk hi1 hi2
        have hp := HRW.out.ptr (i := i') (f := f) (by omega) hf4
        have hat := HV.out.at_ (i := i') (f := f) (by omega) hfh hf4
        rw [hat] at hp
        clear hat
        cases hnx : nxt f (ns.drop i') with
        | none =>
          rw [hnx] at hp
          have HNX := Lib.hid hnx
          clear hnx
          have hlast : Hid (IsLast ns m f i') := ⟨hi', hfh, fun jj h1 h2 => by
            obtain ⟨nd, hnd, _⟩ := getElem?_of_lt (show jj - 1 < ns.length by omega)
            have h3 := nxt_none HNX.out nd (by
              rw [List.mem_iff_getElem?]
              exact ⟨jj - 1 - i', by rw [List.getElem?_drop, show i' + (jj - 1 - i') = jj - 1 by omega]; exact hnd⟩)
            have h4 := hOf_succ hnd
            rw [show jj - 1 + 1 = jj by omega] at h4
            rw [h4]; exact h3⟩
          go_wp2_with fail
          go_roundw
          case rel => exact way_step HCS.out HSZ.out HCG.out hf4 hq.out hlast.out hk0.out hbl hfh
          case measure => simp [intOf] <;> omega
        | some a =>
          obtain ⟨j, nd, hj, hnf, rfl, hless⟩ := nxt_some hnx
          rw [hnx] at hp
          rw [List.getElem?_drop] at hj
          have hnode := (HRW.out.node nd (List.mem_of_getElem? hj)).cell 0
          simp at hnode
          have hltm := below_lt HO.out.rises key (i' + j) nd hj
          rw [HM.out] at hltm
          have HJ := Lib.hid hj
          have HLESS := Lib.hid hless
          clear hnx hj hless
          by_cases hjm : i' + j < m
          · have tlt : Op.bytesLess nd.e.k.toList key.toList = true := hltm.2 hjm
            clear hltm
            have hb1 := blkOf_succ (t := t) HJ.out
            have hh1 := hOf_succ HJ.out
            have HB1 : Hid (blkOf t ns (i' + j + 1) = nd.b) := hb1
            have HH1 : Hid (f < hOf ns (i' + j + 1)) := by rw [Hid, hh1]; exact hnf
            clear hb1 hh1
            go_wp2_with fail
            go_roundg (ns.length - (i' + j + 1))
            case measure => rw [HG.out]; omega
            case rel => exact ⟨rfl, i' + j + 1, by omega, by rw [HB1.out], rfl, HH1.out⟩
          · have tlt : Op.bytesLess nd.e.k.toList key.toList = false := by
              cases h : Op.bytesLess nd.e.k.toList key.toList
              · rfl
              · exact absurd (hltm.1 h) hjm
            clear hltm
            have hlast : Hid (IsLast ns m f i') := ⟨hi', hfh, fun jj h1 h2 => by
              obtain ⟨nd', hnd, _⟩ := getElem?_of_lt (show jj - 1 < ns.length by omega)
              have h3 := HLESS.out (jj - 1 - i') nd' (by omega) (by rw [List.getElem?_drop, show i' + (jj - 1 - i') = jj - 1 by omega]; exact hnd)
              have h4 := hOf_succ hnd
              rw [show jj - 1 + 1 = jj by omega] at h4
              rw [h4]; exact h3⟩
            go_wp2_with fail
            go_roundw
            case rel => exact way_step HCS.out HSZ.out HCG.out hf4 hq.out hlast.out hk0.out hbl hfh
            case measure => simp [intOf] <;> omega

theorem TOk.nil : TOk [] := ⟨by simp, by simp, by simp [Rises]⟩
theorem tnew_any (B : Nat) (w : World) (hB : B ≤ w.heap.size) :
    Calls Try.prog 18 #[] w fun e w' => (e = .returned (.pointer (some ⟨w.heap.size, 0, none⟩)) ∧ Tower B w' w.heap.size [] [w.heap.size]) ∧ Below w.heap.size w w' := by
  go_enter Try.func18, Try.ntmps18
  go_wp2_with fail
  go_ret
  refine ⟨⟨rfl, [], fun _ _ => none, ⟨Blk.new _ _ _, by simp⟩, ⟨fun f _ => rfl, by simp⟩, TOk.nil, rfl, rfl, by simpa using hB⟩, (Below.refl _ _).alloc (Nat.le_refl _) _⟩

theorem tmany_any (B : Nat) (t : Nat) (l : List Ent) (F : List Nat) (w : World) (h : Tower B w t l F) :
    Calls Try.prog 20 #[.pointer (some ⟨t, 0, none⟩)] w fun e w' => e = .returned (.int .i64 l.length) ∧ w = w' := by
  obtain ⟨ns, N, h1, h2, h3, rfl, rfl, h6⟩ := h
  have c7 := h1.head.cell 7
  simp at c7
  rw [List.length_map]
  clear h1 h2 h3 h6
  go_enter Try.func20, Try.ntmps20
  go_wp2_with fail
  go_ret
  exact ⟨rfl, rfl⟩

/-- What the last position on the ground floor is. -/
theorem last_ground {ns : List Nd} {m i : Nat} (ho : TOk ns) (hm : m ≤ ns.length) (h : IsLast ns m 0 i) : i = m := by
  obtain ⟨h1, h2, h3⟩ := h
  rcases Nat.lt_or_ge i m with hlt | hge
  · have h4 := h3 m hlt (Nat.le_refl _)
    obtain ⟨nd, hnd, _⟩ := getElem?_of_lt (show m - 1 < ns.length by omega)
    have h5 := hOf_succ hnd
    rw [show m - 1 + 1 = m by omega] at h5
    have := (ho.high nd (List.mem_of_getElem? hnd)).1
    omega
  · omega
theorem nxt_zero {ns : List Nd} (ho : ∀ nd ∈ ns, 1 ≤ nd.h) : nxt 0 ns = (ns[0]?).map fun nd => ⟨nd.b, 0, none⟩ := by
  cases ns with
  | nil => rfl
  | cons nd ns => rw [nxt, if_pos (by have := ho nd (by simp); omega)]; rfl
/-- The entry of a key: the one behind those that are below it, if that is of that key. -/
theorem get_at {ns : List Nd} (hr : Rises (ns.map Nd.e)) (key : ByteArray) : getE (ns.map Nd.e) key = (ns[below ns key]?).bind fun nd => if nd.e.k = key then some nd.e else none := by
  have hb := below_lt hr key
  cases hx : ns[below ns key]? with
  | none =>
    rw [Option.bind_none]
    unfold getE
    rw [List.find?_eq_none]
    intro e he
    obtain ⟨nd, hnd, rfl⟩ := List.mem_map.1 he
    obtain ⟨i, hi⟩ := List.getElem?_of_mem hnd
    have hlt : i < below ns key := by
      have h1 := List.getElem?_eq_none_iff.1 hx
      have h2 : i < ns.length := by
        rcases Nat.lt_or_ge i ns.length with h | h
        · exact h
        · rw [List.getElem?_eq_none h] at hi; cases hi
      omega
    have := (hb i nd hi).2 hlt
    simpa using ltB_ne this
  | some nd =>
    rw [Option.bind_some]
    by_cases hk : nd.e.k = key
    · rw [if_pos hk, ← hk]
      exact getE_of_mem hr (List.mem_map.2 ⟨nd, List.mem_of_getElem? hx, rfl⟩)
    · rw [if_neg hk]
      unfold getE
      rw [List.find?_eq_none]
      intro e he
      obtain ⟨nd', hnd, rfl⟩ := List.mem_map.1 he
      obtain ⟨i, hi⟩ := List.getElem?_of_mem hnd
      simp only [decide_eq_true_eq]
      intro e
      have hnl : ¬ i < below ns key := fun h => ltB_ne ((hb i nd' hi).2 h) e
      have hm : ¬ ltB nd.e.k key = true := fun h => by have := (hb _ nd hx).1 h; omega
      rcases Nat.lt_or_ge (below ns key) i with hlt | hge
      · have hp := List.pairwise_iff_getElem.1 hr (below ns key) i (by have := (List.getElem?_eq_some_iff.1 hx).1; simpa using this) (by have := (List.getElem?_eq_some_iff.1 hi).1; simpa using this) hlt
        simp only [List.getElem_map] at hp
        rw [(List.getElem?_eq_some_iff.1 hx).2, (List.getElem?_eq_some_iff.1 hi).2, e] at hp
        exact hm hp
      · have : i = below ns key := by omega
        subst this
        rw [hx] at hi
        obtain rfl := Option.some.inj hi
        exact hk e

set_option maxHeartbeats 2000000 in
theorem tget_any (B : Nat) (t : Nat) (l : List Ent) (F : List Nat) (key : ByteArray) (w : World) (h : Tower B w t l F) (hn : l.length ≤ 1000000) :
    Calls Try.prog 23 #[.pointer (some ⟨t, 0, none⟩), .string key] w fun e w' => e = .returned (.tuple #[((getE l key).getD Ent.zero).val, .bool (getE l key).isSome]) ∧ Below w.heap.size w w' := by
  obtain ⟨ns, N, h1, h2, h3, rfl, rfl, h6⟩ := h
  rw [List.length_map] at hn
  have hg := get_at h3.rises key
  have hbl := below_le ns key
  obtain ⟨m, hm⟩ : ∃ m, below ns key = m := ⟨_, rfl⟩
  have HW := Lib.hid (way_any t ns N _ key (w.alloc (.cells #[.string ⟨#[]⟩, .string ⟨#[]⟩, .bool false] 25)) (h1.below ((Below.refl _ _).alloc (Nat.le_refl _) _)) h2 h3 hn)
  rw [hm] at hg hbl HW
  have HG := Lib.hid hg
  have H1 := Lib.hid h1
  have H2 := Lib.hid h2
  have H3 := Lib.hid h3
  clear hg h1 h2 h3 h6 hm
  go_enter Try.func23, Try.ntmps23
  go_wp2_with fail
  refine HW.out.mono ?_
  rintro e w1 ⟨⟨i0, i1, i2, i3, rfl, q0, q1, q2, q3⟩, hb1⟩
  have hi0 := last_ground H3.out hbl q0
  subst hi0
  have hb0 : Below w.heap.size w w1 := ((Below.refl w.heap.size w).alloc (Nat.le_refl _) _).trans (hb1.mono (by simp))
  have hz : Blk w1 w.heap.size 25 #[.string ⟨#[]⟩, .string ⟨#[]⟩, .bool false] := (Blk.new w _ _).below hb1 (by simp)
  clear q0 q1 q2 q3 hb1
  have hb2 := hb0.alloc hb0.size (.cells #[.pointer (some ⟨blkOf t ns i0, 0, none⟩), .pointer (some ⟨blkOf t ns i1, 0, none⟩), .pointer (some ⟨blkOf t ns i2, 0, none⟩), .pointer (some ⟨blkOf t ns i3, 0, none⟩)] 99)
  have hz2 := hz.alloc (.cells #[.pointer (some ⟨blkOf t ns i0, 0, none⟩), .pointer (some ⟨blkOf t ns i1, 0, none⟩), .pointer (some ⟨blkOf t ns i2, 0, none⟩), .pointer (some ⟨blkOf t ns i3, 0, none⟩)] 99)
  have z0 := hz2.cell 0
  have z1 := hz2.cell 1
  have z2 := hz2.cell 2
  simp at z0 z1 z2
  have y0 := hz2.frozen 0
  have y1 := hz2.frozen 1
  have y2 := hz2.frozen 2
  have hp := (H1.out.below hb2).ptr (i := i0) (f := 0) hbl (by omega)
  rw [H2.out.at_ hbl (by
    have := (show 0 < hOf ns i0 by
      cases i0 with
      | zero => simp [hOf]
      | succ i =>
        obtain ⟨nd, hnd, _⟩ := getElem?_of_lt (show i < ns.length by omega)
        rw [hOf_succ hnd]
        have := (H3.out.high nd (List.mem_of_getElem? hnd)).1
        omega)
    exact this) (by omega), nxt_zero (fun nd hnd => (H3.out.high nd (List.mem_of_mem_drop hnd)).1), List.getElem?_drop] at hp
  simp only [Nat.add_zero] at hp
  clear hz hz2
  cases hx : ns[i0]? with
  | none =>
    rw [hx] at hp
    have HG2 : Hid (getE (List.map Nd.e ns) key = none) := by rw [Hid, HG.out, hx]; rfl
    simp at hp
    clear hx HG HW
    go_wp2_with fail
    refine bodyPost_ret (v := .tuple #[Ent.zero.val, .bool false]) (by simp [results, Try.results23, go_sem, Ent.val, Ent.zero, z0, z1, z2]; rfl) rfl ⟨by rw [HG2.out]; rfl, ?_⟩
    exact ((hb2.setCell (Nat.le_refl _) _).setCell (Nat.le_refl _) _).setCell (Nat.le_refl _) _
  | some nd =>
    rw [hx] at hp
    have hnode := (H1.out.below hb2).node nd (List.mem_of_getElem? hx)
    have n0 := hnode.cell 0
    have n1 := hnode.cell 1
    have n2 := hnode.cell 2
    simp at n0 n1 n2 hp
    clear hnode
    by_cases hk : nd.e.k = key
    · have HG2 : Hid (getE (List.map Nd.e ns) key = some nd.e) := by rw [Hid, HG.out, hx]; simp [hk]
      have t1 : (nd.e.k.toList == key.toList) = true := by rw [hk]; simp
      clear hx HG HW hk
      go_wp2_with fail
      refine bodyPost_ret (v := .tuple #[nd.e.val, .bool true]) (by simp [results, Try.results23, go_sem, Ent.val, z0, z1, z2]) rfl ⟨by rw [HG2.out]; rfl, ?_⟩
      exact ((hb2.setCell (Nat.le_refl _) _).setCell (Nat.le_refl _) _).setCell (Nat.le_refl _) _
    · have HG2 : Hid (getE (List.map Nd.e ns) key = none) := by rw [Hid, HG.out, hx]; simp [hk]
      have t1 : (nd.e.k.toList == key.toList) = false := by rw [ba_beq]; simp [hk]
      clear hx HG HW hk
      go_wp2_with fail
      refine bodyPost_ret (v := .tuple #[Ent.zero.val, .bool false]) (by simp [results, Try.results23, go_sem, Ent.val, Ent.zero, z0, z1, z2]; rfl) rfl ⟨by rw [HG2.out]; rfl, ?_⟩
      exact ((hb2.setCell (Nat.le_refl _) _).setCell (Nat.le_refl _) _).setCell (Nat.le_refl _) _

set_option maxHeartbeats 2000000 in
theorem tall_any (B : Nat) (t : Nat) (l : List Ent) (F : List Nat) (w : World) (h : Tower B w t l F) (hn : l.length ≤ 1000000) :
    Calls Try.prog 21 #[.pointer (some ⟨t, 0, none⟩)] w fun e w' => ∃ v, e = .returned v ∧ Ents B w' v l ∧ Below w.heap.size w w' := by
  obtain ⟨ns, N, h1, h2, h3, rfl, rfl, h6⟩ := h
  rw [List.length_map] at hn
  have hp := h1.head.cell 3
  simp at hp
  rw [h2.head 0 (by omega), nxt_zero (fun nd hnd => (h3.high nd hnd).1)] at hp
  have H1 := Lib.hid h1
  have H2 := Lib.hid h2
  have H3 := Lib.hid h3
  clear h1 h2 h3 h6
  go_enter Try.func21, Try.ntmps21
  go_wp2_with fail
  go_loopg [3, 4] ns.length (fun g u x wr => ∃ k, k ≤ ns.length ∧ g = ns.length - k ∧ x = .pointer ((ns[k]?).map fun nd => ⟨nd.b, 0, none⟩) ∧ wr.ownsRow w.heap.size 25 3 u ((ns.take k).map Nd.e).length (((ns.take k).map Nd.e).flatMap Ent.cells) ∧ Below w.heap.size w wr)
  case atStart => exact ⟨0, Nat.zero_le _, rfl, rfl, World.ownsRow_nil _ _ _ _, Below.refl _ _⟩
  case round =>
    obtain ⟨k, hk, hgk, rfl, hown, hbl⟩ := hrel
    have HGK := Lib.hid hgk
    have HOWN := Lib.hid hown
    clear hgk hown hp
    cases hx : ns[k]? with
    | none =>
      have hkn : ns.length ≤ k := List.getElem?_eq_none_iff.1 hx
      simp only [Option.map_none]
      clear hx
      go_wp2_with fail
      go_ret
      refine ⟨_, rfl, ?_, hbl⟩
      have ho := HOWN.out
      rw [List.take_of_length_le hkn] at ho
      exact ⟨Rd.of_own ho, fun e he => by
        obtain ⟨nd, hnd, rfl⟩ := List.mem_map.1 he
        exact (H3.out.high nd hnd).2.2⟩
    | some nd =>
      have hlt : k < ns.length := (List.getElem?_eq_some_iff.1 hx).1
      simp only [Option.map_some]
      have hnd := List.mem_of_getElem? hx
      have hnode := H1.out.node nd hnd
      have hnb := hnode.lt
      have hnw := hnode.below hbl hnb
      have n0 := hnw.cell 0
      have n1 := hnw.cell 1
      have n2 := hnw.cell 2
      simp at n0 n1 n2
      have HP : Hid (N nd.b 0 = (ns[k + 1]?).map fun nd => ⟨nd.b, 0, none⟩) := by
        rw [Hid, H2.out.node k nd hx 0 (by have := (H3.out.high nd hnd).1; omega), nxt_zero (fun nd hnd => (H3.out.high nd (List.mem_of_mem_drop hnd)).1), List.getElem?_drop, Nat.add_zero]
      have HT : Hid ((ns.take (k + 1)).map Nd.e = (ns.take k).map Nd.e ++ [nd.e]) := by
        rw [Hid, List.take_succ_eq_append_getElem hlt, List.map_append, (List.getElem?_eq_some_iff.1 hx).2]; rfl
      have hlen : ((ns.take k).map Nd.e).length ≤ 1000000 := by rw [List.length_map, List.length_take]; omega
      have HNW := Lib.hid hnode
      have hbs := hbl.size
      clear hx hnode hnw hnd
      obtain ⟨i0, hi, hz0, hz1, hz2⟩ := info_parts info_entry
      have hownA := Lib.hid (own_alloc HOWN.out (.cells #[.string nd.e.k, .string nd.e.v, .bool nd.e.g] 25))
      generalize hL : (ns.take k).map Nd.e = L at *
      go_wp2_with (at_builtin; go_loud (refine wpList_append_rd _ rfl (.tmp 18) (.tmp 23) 22 rfl w.heap.size 25 i0 _ 3 40 Try.underlying22 hi hz0 hz1 hz2 rfl (by decide) u3 _ _ rfl hownA.out B 25 _ 1 _ rfl (rd_lit3 _ _ _ rfl _ _ _) (ent_one3 _ _ _) (by unfold maxLen; omega) (by omega) (by simp; omega) ?_); intro v1 w1 hown1 hg1 hat1; (have hb1 := below_own (hbl.alloc hbs _) (Nat.le_refl _) hownA.out hg1); (have hp := (HNW.out.below hb1 hnb).cell 3); (rw [HP.out] at hp); (simp at hp))
      have hown2 : w1.ownsRow w.heap.size 25 3 v1 ((ns.take (k + 1)).map Nd.e).length (((ns.take (k + 1)).map Nd.e).flatMap Ent.cells) := by
        rw [HT.out]; simpa [Ent.cells] using hown1
      clear hi hz0 hz1 hz2 hg1 hat1 hown1 hp
      go_roundg (ns.length - (k + 1))
      case measure => rw [HGK.out]; omega
      case rel => exact ⟨k + 1, by omega, rfl, rfl, hown2, hb1⟩

theorem Tower.nodup_ {w : World} {t : Nat} {ns : List Nd} {N : Nat → Nat → Option Addr} {cnt : Int} (h : TRep w t ns N cnt) (ho : TOk ns) : (t :: ns.map Nd.b).Nodup :=
  List.nodup_cons.2 ⟨fun hm => by obtain ⟨nd, hnd, e⟩ := List.mem_map.1 hm; exact h.ne nd hnd e, ho.nodup⟩

set_option maxHeartbeats 4000000 in
/-- Put, where the key is there. -/
theorem tput_same (B : Nat) (t : Nat) (ns : List Nd) (N : Nat → Nat → Option Addr) (e : Ent) (high : Int) (w : World) (h1 : TRep w t ns N ns.length) (h2 : TVal t ns N) (h3 : TOk ns) (hB : ∀ b ∈ t :: ns.map Nd.b, B ≤ b) (hn : ns.length ≤ 1000000) (he : EntOk e)
    (nd : Nd) (hx : ns[below ns e.k]? = some nd) (hk : nd.e.k = e.k) :
    Calls Try.prog 19 #[.pointer (some ⟨t, 0, none⟩), .agg #[.string e.k, .string e.v, .bool e.g], .int .i64 high] w fun d w' =>
      d = .returned (.tuple #[]) ∧ Tower B w' t (putE (ns.map Nd.e) e) (t :: ns.map Nd.b) ∧ Fr B (· ∈ t :: ns.map Nd.b) w w' := by
  have hbl := below_le ns e.k
  have hput := put_at h3.rises e
  have hrp := rises_put h3.rises e
  have hnd := Tower.nodup_ h1 h3
  obtain ⟨m, hm⟩ : ∃ m, below ns e.k = m := ⟨_, rfl⟩
  have HW := Lib.hid (way_any t ns N _ e.k (w.alloc (.cells #[.string e.k, .string e.v, .bool e.g] 25)) (h1.below ((Below.refl _ _).alloc (Nat.le_refl _) _)) h2 h3 hn)
  rw [hm] at hbl HW hput hx
  have hdrop := List.drop_eq_getElem_cons (List.getElem?_eq_some_iff.1 hx).1
  rw [(List.getElem?_eq_some_iff.1 hx).2] at hdrop
  rw [hdrop] at hput
  simp only [hk, if_true] at hput
  have HPUT : Hid (putE (ns.map Nd.e) e = (ns.take m ++ ⟨nd.b, e, nd.h⟩ :: ns.drop (m + 1)).map Nd.e) := by rw [Hid, hput, List.map_append, List.map_cons]
  have HRP := Lib.hid hrp
  have HND := Lib.hid hnd
  have HX := Lib.hid hx
  have H1 := Lib.hid h1
  have H2 := Lib.hid h2
  have H3 := Lib.hid h3
  have HB := Lib.hid hB
  have t1 : (nd.e.k.toList == e.k.toList) = true := by rw [hk]; simp
  clear hput hrp hnd hx h1 h2 h3 hB hm hdrop hk
  go_enter Try.func19, Try.ntmps19
  go_wp2_with fail
  refine HW.out.mono ?_
  rintro d w1 ⟨⟨i0, i1, i2, i3, rfl, q0, q1, q2, q3⟩, hb1⟩
  have hi0 := last_ground H3.out hbl q0
  subst hi0
  have hb0 : Below w.heap.size w w1 := ((Below.refl w.heap.size w).alloc (Nat.le_refl _) _).trans (hb1.mono (by simp))
  have hz : Blk w1 w.heap.size 25 #[.string e.k, .string e.v, .bool e.g] := (Blk.new w _ _).below hb1 (by simp)
  clear q0 q1 q2 q3 hb1
  have hb2 := hb0.alloc hb0.size (.cells #[.pointer (some ⟨blkOf t ns i0, 0, none⟩), .pointer (some ⟨blkOf t ns i1, 0, none⟩), .pointer (some ⟨blkOf t ns i2, 0, none⟩), .pointer (some ⟨blkOf t ns i3, 0, none⟩)] 99)
  have hz2 := hz.alloc (.cells #[.pointer (some ⟨blkOf t ns i0, 0, none⟩), .pointer (some ⟨blkOf t ns i1, 0, none⟩), .pointer (some ⟨blkOf t ns i2, 0, none⟩), .pointer (some ⟨blkOf t ns i3, 0, none⟩)] 99)
  have z0 := hz2.cell 0
  have z1 := hz2.cell 1
  have z2 := hz2.cell 2
  simp at z0 z1 z2
  have hp := (H1.out.below hb2).ptr (i := i0) (f := 0) hbl (by omega)
  have hpos : 0 < hOf ns i0 := by
    cases i0 with
    | zero => simp [hOf]
    | succ i =>
      obtain ⟨nd, hnd, _⟩ := getElem?_of_lt (show i < ns.length by omega)
      rw [hOf_succ hnd]
      have := (H3.out.high nd (List.mem_of_getElem? hnd)).1
      omega
  rw [H2.out.at_ hbl hpos (by omega), nxt_zero (fun nd hnd => (H3.out.high nd (List.mem_of_mem_drop hnd)).1), List.getElem?_drop] at hp
  simp only [Nat.add_zero] at hp
  rw [HX.out] at hp
  simp at hp
  have hnode := (H1.out.below hb2).node nd (List.mem_of_getElem? HX.out)
  have n0 := hnode.cell 0
  have n1 := hnode.cell 1
  have n2 := hnode.cell 2
  simp at n0 n1 n2
  have y0 := hnode.frozen 0
  have y1 := hnode.frozen 1
  have y2 := hnode.frozen 2
  clear hz hz2 hnode hpos HW
  go_wp2_with fail
  go_quiet (fail)
  go_wp2_with fail
  refine bodyPost_ret (results_none rfl _ _ _) rfl ?_
  have hr2 : TRep ((w1.alloc (.cells #[.pointer (some ⟨blkOf t ns i0, 0, none⟩), .pointer (some ⟨blkOf t ns i1, 0, none⟩), .pointer (some ⟨blkOf t ns i2, 0, none⟩), .pointer (some ⟨blkOf t ns i3, 0, none⟩)] 99)).drewN nq) t ns N ns.length := ⟨(H1.out.below hb2).head, (H1.out.below hb2).node⟩
  have hb3 := below_drewN' hb2 nq
  have hs := sh_put HX.out e
  have hmap : (ns.take i0 ++ ⟨nd.b, e, nd.h⟩ :: ns.drop (i0 + 1)).map Nd.b = ns.map Nd.b := by
    have h1 : ∀ l : List Nd, l.map Nd.b = (sh l).map Prod.fst := fun l => by simp [sh]
    rw [h1, h1, hs]
  have hlen : (ns.take i0 ++ ⟨nd.b, e, nd.h⟩ :: ns.drop (i0 + 1)).length = ns.length := by
    have := congrArg List.length hs; simpa [sh] using this
  have hmem := List.mem_of_getElem? HX.out
  have hmemF : nd.b ∈ t :: ns.map Nd.b := List.mem_cons_of_mem _ (List.mem_map.2 ⟨nd, hmem, rfl⟩)
  have hBn := HB.out nd.b hmemF
  refine ⟨rfl, ⟨_, N, by rw [hlen]; exact hr2.put_ HND.out HX.out e, H2.out.same hs, ⟨by rw [hmap]; exact H3.out.nodup, fun x hx => ?_, by rw [← HPUT.out]; exact HRP.out⟩, HPUT.out, by rw [hmap], HB.out⟩, ?_⟩
  · rcases List.mem_append.1 hx with hx | hx
    · exact H3.out.high x (List.mem_of_mem_take hx)
    · rcases List.mem_cons.1 hx with rfl | hx
      · exact ⟨(H3.out.high nd hmem).1, (H3.out.high nd hmem).2.1, he⟩
      · exact H3.out.high x (List.mem_of_mem_drop hx)
  · have hfr : Fr B (· ∈ t :: ns.map Nd.b) w ((w1.alloc (.cells #[.pointer (some ⟨blkOf t ns i0, 0, none⟩), .pointer (some ⟨blkOf t ns i1, 0, none⟩), .pointer (some ⟨blkOf t ns i2, 0, none⟩), .pointer (some ⟨blkOf t ns i3, 0, none⟩)] 99)).drewN nq) := Fr.of_below hb3
    have hT : ∀ o, (Addr.mk nd.b o none).block < w.heap.size → ∃ cs T fz, w.heap[(Addr.mk nd.b o none).block]? = some (.cells cs T fz) ∧ mutT T = true := fun o _ => ⟨_, _, _, H1.out.node nd hmem, by decide⟩
    exact ((hfr.setCell hBn (.inl hmemF) (hT 0) _).setCell hBn (.inl hmemF) (hT 1) _).setCell hBn (.inl hmemF) (hT 2) _

set_option maxHeartbeats 4000000 in
/-- Put, where the key is new. -/
theorem tput_new (B : Nat) (t : Nat) (ns : List Nd) (N : Nat → Nat → Option Addr) (e : Ent) (high : Int) (w : World) (h1 : TRep w t ns N ns.length) (h2 : TVal t ns N) (h3 : TOk ns) (hB : ∀ b ∈ t :: ns.map Nd.b, B ≤ b) (hBw : B ≤ w.heap.size) (hn : ns.length ≤ 1000000) (he : EntOk e)
    (hx : ∀ nd, ns[below ns e.k]? = some nd → nd.e.k ≠ e.k) (h : Nat) (hh : min (max high 1) 4 = (h : Int)) :
    Calls Try.prog 19 #[.pointer (some ⟨t, 0, none⟩), .agg #[.string e.k, .string e.v, .bool e.g], .int .i64 high] w fun d w' =>
      ∃ nb, d = .returned (.tuple #[]) ∧ w.heap.size ≤ nb ∧ Tower B w' t (putE (ns.map Nd.e) e) (t :: (ns.take (below ns e.k)).map Nd.b ++ nb :: (ns.drop (below ns e.k)).map Nd.b) ∧ Fr B (· ∈ t :: ns.map Nd.b) w w' := by
  have hh1 : 1 ≤ h ∧ h ≤ 4 := by omega
  have hbl := below_le ns e.k
  have hput := put_at h3.rises e
  have hrp := rises_put h3.rises e
  have hnd := Tower.nodup_ h1 h3
  obtain ⟨m, hm⟩ : ∃ m, below ns e.k = m := ⟨_, rfl⟩
  have HW := Lib.hid (way_any t ns N _ e.k (w.alloc (.cells #[.string e.k, .string e.v, .bool e.g] 25)) (h1.below ((Below.refl _ _).alloc (Nat.le_refl _) _)) h2 h3 hn)
  rw [hm] at hbl HW hput hx
  rw [hm]
  have HPUT : ∀ nb, Hid (putE (ns.map Nd.e) e = (ns.take m ++ ⟨nb, e, h⟩ :: ns.drop m).map Nd.e) := fun nb => by
    rw [Hid, hput, List.map_append, List.map_cons]
    congr 2
    cases hd : ns.drop m with
    | nil => rfl
    | cons x r =>
      have h1 : ns[m]? = some x := by
        have := List.getElem?_drop (xs := ns) (i := m) (j := 0)
        rw [hd] at this; simpa using this.symm
      simp only [if_neg (hx x h1)]
  have HPT : Hid (∀ nb, Hid (putE (ns.map Nd.e) e = (ns.take m ++ ⟨nb, e, h⟩ :: ns.drop m).map Nd.e)) := HPUT
  have HRP := Lib.hid hrp
  have HND := Lib.hid hnd
  have HX := Lib.hid hx
  have H1 := Lib.hid h1
  have H2 := Lib.hid h2
  have H3 := Lib.hid h3
  have HB := Lib.hid hB
  have HH := Lib.hid hh
  clear hput hrp hnd hx h1 h2 h3 hB hm HPUT hh
  go_enter Try.func19, Try.ntmps19
  go_wp2_with fail
  refine HW.out.mono ?_
  rintro d w1 ⟨⟨i0, i1, i2, i3, rfl, q0, q1, q2, q3⟩, hb1⟩
  have hi0 := last_ground H3.out hbl q0
  subst hi0
  have HQ : Hid (IsLast ns i0 0 i0 ∧ IsLast ns i0 1 i1 ∧ IsLast ns i0 2 i2 ∧ IsLast ns i0 3 i3) := ⟨q0, q1, q2, q3⟩
  have hb0 : Below w.heap.size w w1 := ((Below.refl w.heap.size w).alloc (Nat.le_refl _) _).trans (hb1.mono (by simp))
  have hz : Blk w1 w.heap.size 25 #[.string e.k, .string e.v, .bool e.g] := (Blk.new w _ _).below hb1 (by simp)
  clear q0 q1 q2 q3 hb1
  have hb2 := hb0.alloc hb0.size (.cells #[.pointer (some ⟨blkOf t ns i0, 0, none⟩), .pointer (some ⟨blkOf t ns i1, 0, none⟩), .pointer (some ⟨blkOf t ns i2, 0, none⟩), .pointer (some ⟨blkOf t ns i3, 0, none⟩)] 99)
  have hz2 := hz.alloc (.cells #[.pointer (some ⟨blkOf t ns i0, 0, none⟩), .pointer (some ⟨blkOf t ns i1, 0, none⟩), .pointer (some ⟨blkOf t ns i2, 0, none⟩), .pointer (some ⟨blkOf t ns i3, 0, none⟩)] 99)
  have z0 := hz2.cell 0
  have z1 := hz2.cell 1
  have z2 := hz2.cell 2
  simp at z0 z1 z2
  have hp := (H1.out.below hb2).ptr (i := i0) (f := 0) hbl (by omega)
  have hpos : 0 < hOf ns i0 := HQ.out.1.2.1
  rw [H2.out.at_ hbl hpos (by omega), nxt_zero (fun nd hnd => (H3.out.high nd (List.mem_of_mem_drop hnd)).1), List.getElem?_drop] at hp
  simp only [Nat.add_zero] at hp
  clear hz hz2 hpos HW
  have HB2 := Lib.hid hb2
  have hbase : ∀ (nq : Nat) , Hid (TPut B w (((w1.alloc (.cells #[.pointer (some ⟨blkOf t ns i0, 0, none⟩), .pointer (some ⟨blkOf t ns i1, 0, none⟩), .pointer (some ⟨blkOf t ns i2, 0, none⟩), .pointer (some ⟨blkOf t ns i3, 0, none⟩)] 99)).drewN nq).alloc (.cells #[.string e.k, .string e.v, .bool e.g, .pointer none, .pointer none, .pointer none, .pointer none] 101)) t ns N w1.heap.size (w1.heap.size + 1) 99 (at4 i0 i1 i2 i3) e h 0) := by
    intro nq
    have hb3 := below_drewN' HB2.out nq
    have hb4 := hb3.alloc hb3.size (.cells #[.string e.k, .string e.v, .bool e.g, .pointer none, .pointer none, .pointer none, .pointer none] 101)
    have hr4 := H1.out.below hb4
    have hnew := Blk.new ((w1.alloc (.cells #[.pointer (some ⟨blkOf t ns i0, 0, none⟩), .pointer (some ⟨blkOf t ns i1, 0, none⟩), .pointer (some ⟨blkOf t ns i2, 0, none⟩), .pointer (some ⟨blkOf t ns i3, 0, none⟩)] 99)).drewN nq) 101 #[.string e.k, .string e.v, .bool e.g, .pointer none, .pointer none, .pointer none, .pointer none]
    have harr : Blk ((w1.alloc (.cells #[.pointer (some ⟨blkOf t ns i0, 0, none⟩), .pointer (some ⟨blkOf t ns i1, 0, none⟩), .pointer (some ⟨blkOf t ns i2, 0, none⟩), .pointer (some ⟨blkOf t ns i3, 0, none⟩)] 99)).drewN nq) w1.heap.size 99 #[.pointer (some ⟨blkOf t ns i0, 0, none⟩), .pointer (some ⟨blkOf t ns i1, 0, none⟩), .pointer (some ⟨blkOf t ns i2, 0, none⟩), .pointer (some ⟨blkOf t ns i3, 0, none⟩)] := Blk.new w1 _ _
    have hlt : ∀ b ∈ t :: ns.map Nd.b, b < w.heap.size := by
      intro b hb
      rcases List.mem_cons.1 hb with rfl | hb
      · exact H1.out.head.lt
      · obtain ⟨nd, hnd, rfl⟩ := List.mem_map.1 hb; exact (H1.out.node nd hnd).lt
    have hs0 := HB2.out.size
    simp at hs0
    have hn1 : ∀ b ∈ t :: ns.map Nd.b, putN N (w1.heap.size + 1) (fun f => blkOf t ns (at4 i0 i1 i2 i3 f)) 0 b = N b := by
      intro b hb; funext g; unfold putN
      have := hlt b hb
      have := hb0.size
      rw [if_neg (by omega), if_neg (by omega)]
    have hn2 : putN N (w1.heap.size + 1) (fun f => blkOf t ns (at4 i0 i1 i2 i3 f)) 0 (w1.heap.size + 1) = fun _ => none := by
      funext g; unfold putN
      rw [if_neg (by omega), if_pos rfl]
    refine ⟨⟨?_, fun nd hnd => ?_⟩, harr.alloc _, Fr.of_below hb4, by have := hb0.size; omega⟩
    · rw [hn1 t (by simp)]; exact hr4.head
    · rcases List.mem_cons.1 hnd with rfl | hnd
      · simp only [hn2]; simpa using hnew
      · rw [hn1 nd.b (List.mem_cons_of_mem _ (List.mem_map.2 ⟨nd, hnd, rfl⟩))]; exact hr4.node nd hnd
  have HBASE := Lib.hid hbase
  clear hbase
  have hc3 : (high < 1 ∧ h = 1) ∨ high = (h : Int) ∨ (4 < high ∧ h = 4) := by have := HH.out; omega
  have hhi : (1 : Int) ≤ (h : Int) := by omega
  have hlo : (h : Int) ≤ 4 := by omega
  have HQ4 : Hid (∀ f, f < 4 → IsLast ns i0 f (at4 i0 i1 i2 i3 f)) := by
    intro f hf
    obtain ⟨q0, q1, q2, q3⟩ := HQ.out
    match f, hf with
    | 0, _ => exact q0
    | 1, _ => exact q1
    | 2, _ => exact q2
    | 3, _ => exact q3
  cases hy : ns[i0]? with
  | none =>
    rw [hy] at hp
    simp at hp
    clear hy
    rcases hc3 with ⟨hc, hc1⟩ | rfl | ⟨hc, hc1⟩
    all_goals
      go_wp2_with fail
      go_quiet (fail)
      go_wp2_with fail
      have hst := Lib.hid (HBASE.out nq).out
      clear z0 z1 z2 hp
      (try clear n0)
      go_loopw [9, 42] (fun x s wr => ∃ f : Nat, s = .int .i64 f ∧ f ≤ h ∧ Hid (TPut B w wr t ns N w1.heap.size (w1.heap.size + 1) 99 (at4 i0 i1 i2 i3) e h f)) (fun _ s _ => ((h : Int) - intOf s).toNat)
      case atStart => exact ⟨0, rfl, Nat.zero_le _, hst⟩
      case round =>
        obtain ⟨f, rfl, hf, hT⟩ := hrel
        by_cases hfh : f < h
        · have hq := HQ4.out f (by omega)
          have hql := hq.1
          obtain ⟨c1, c2, c3, ⟨v4, c4⟩, c5, c6, c7⟩ := hT.out.facts H1.out (by omega) (by omega)
          have g1 : (0 : Int) ≤ (f : Int) := by omega
          have g2 : (f : Int) < 4 := by omega
          have g3 : f < 4 := by omega
          clear hst
          go_wp2_with fail
          go_region
          go_wp2_with fail
          go_roundw
          case rel => exact ⟨f + 1, by simp, by omega, (hT.out.step H1.out HND.out (by omega) g3 HB.out hBw ⟨by omega, hb0.size⟩).drew⟩
          case measure => simp [intOf] <;> omega
        · obtain rfl : f = h := by omega
          obtain ⟨c1, c2⟩ := hT.out.cnt
          clear hst
          go_wp2_with fail
          go_end0
          obtain ⟨r1, r2⟩ := hT.out.done H1.out H2.out H3.out HND.out HB.out hBw hh1 he hbl HQ4.out ((HPT.out _).out)
          exact ⟨_, rfl, hT.out.new, r1, r2⟩
  | some nd =>
    rw [hy] at hp
    simp at hp
    have hnode := (H1.out.below hb2).node nd (List.mem_of_getElem? hy)
    have n0 := hnode.cell 0
    simp at n0
    have t1 : (nd.e.k.toList == e.k.toList) = false := by rw [ba_beq]; simp [HX.out nd hy]
    clear hnode hy
    rcases hc3 with ⟨hc, hc1⟩ | rfl | ⟨hc, hc1⟩
    all_goals
      go_wp2_with fail
      go_quiet (fail)
      go_wp2_with fail
      have hst := Lib.hid (HBASE.out nq).out
      clear z0 z1 z2 hp
      (try clear n0)
      go_loopw [9, 42] (fun x s wr => ∃ f : Nat, s = .int .i64 f ∧ f ≤ h ∧ Hid (TPut B w wr t ns N w1.heap.size (w1.heap.size + 1) 99 (at4 i0 i1 i2 i3) e h f)) (fun _ s _ => ((h : Int) - intOf s).toNat)
      case atStart => exact ⟨0, rfl, Nat.zero_le _, hst⟩
      case round =>
        obtain ⟨f, rfl, hf, hT⟩ := hrel
        by_cases hfh : f < h
        · have hq := HQ4.out f (by omega)
          have hql := hq.1
          obtain ⟨c1, c2, c3, ⟨v4, c4⟩, c5, c6, c7⟩ := hT.out.facts H1.out (by omega) (by omega)
          have g1 : (0 : Int) ≤ (f : Int) := by omega
          have g2 : (f : Int) < 4 := by omega
          have g3 : f < 4 := by omega
          clear hst
          go_wp2_with fail
          go_region
          go_wp2_with fail
          go_roundw
          case rel => exact ⟨f + 1, by simp, by omega, (hT.out.step H1.out HND.out (by omega) g3 HB.out hBw ⟨by omega, hb0.size⟩).drew⟩
          case measure => simp [intOf] <;> omega
        · obtain rfl : f = h := by omega
          obtain ⟨c1, c2⟩ := hT.out.cnt
          clear hst
          go_wp2_with fail
          go_end0
          obtain ⟨r1, r2⟩ := hT.out.done H1.out H2.out H3.out HND.out HB.out hBw hh1 he hbl HQ4.out ((HPT.out _).out)
          exact ⟨_, rfl, hT.out.new, r1, r2⟩

/-- Put, whatever the key. -/
theorem tput_any (B : Nat) (t : Nat) (l : List Ent) (F : List Nat) (e : Ent) (high : Int) (w : World) (h : Tower B w t l F) (hBw : B ≤ w.heap.size) (hn : l.length ≤ 1000000) (he : EntOk e) :
    Calls Try.prog 19 #[.pointer (some ⟨t, 0, none⟩), .agg #[.string e.k, .string e.v, .bool e.g], .int .i64 high] w fun d w' =>
      ∃ F', d = .returned (.tuple #[]) ∧ Tower B w' t (putE l e) F' ∧ Fr B (· ∈ F) w w' ∧ ∀ b ∈ F', b ∈ F ∨ w.heap.size ≤ b := by
  obtain ⟨ns, N, h1, h2, h3, rfl, rfl, h6⟩ := h
  rw [List.length_map] at hn
  have new : (∀ nd, ns[below ns e.k]? = some nd → nd.e.k ≠ e.k) → Calls Try.prog 19 #[.pointer (some ⟨t, 0, none⟩), .agg #[.string e.k, .string e.v, .bool e.g], .int .i64 high] w fun d w' =>
      ∃ F', d = .returned (.tuple #[]) ∧ Tower B w' t (putE (ns.map Nd.e) e) F' ∧ Fr B (· ∈ t :: ns.map Nd.b) w w' ∧ ∀ b ∈ F', b ∈ t :: ns.map Nd.b ∨ w.heap.size ≤ b := by
    intro hx
    obtain ⟨h, hh⟩ : ∃ h : Nat, min (max high 1) 4 = (h : Int) := ⟨(min (max high 1) 4).toNat, by omega⟩
    refine (tput_new B t ns N e high w h1 h2 h3 h6 hBw hn he hx h hh).mono ?_
    rintro d w' ⟨nb, rfl, hnb, hT, hF⟩
    refine ⟨_, rfl, hT, hF, fun b hb => ?_⟩
    simp only [List.cons_append, List.mem_cons, List.mem_append, List.mem_map] at hb
    rcases hb with rfl | ⟨x, hx, rfl⟩ | rfl | ⟨x, hx, rfl⟩
    · exact .inl (by simp)
    · exact .inl (List.mem_cons_of_mem _ (List.mem_map.2 ⟨x, List.mem_of_mem_take hx, rfl⟩))
    · exact .inr hnb
    · exact .inl (List.mem_cons_of_mem _ (List.mem_map.2 ⟨x, List.mem_of_mem_drop hx, rfl⟩))
  cases hx : ns[below ns e.k]? with
  | none => exact new fun nd h => by rw [hx] at h; cases h
  | some nd =>
    by_cases hk : nd.e.k = e.k
    · refine (tput_same B t ns N e high w h1 h2 h3 h6 hn he nd hx hk).mono ?_
      rintro d w' ⟨rfl, hT, hF⟩
      exact ⟨_, rfl, hT, hF, fun b hb => .inl hb⟩
    · exact new fun nd' h => by rw [hx] at h; injection h with h; rw [← h]; exact hk
/-- Get, its result written out. -/
theorem tget_two (B : Nat) (t : Nat) (l : List Ent) (F : List Nat) (key : ByteArray) (w : World) (h : Tower B w t l F) (hn : l.length ≤ 1000000) :
    Calls Try.prog 23 #[.pointer (some ⟨t, 0, none⟩), .string key] w fun e w' => (∃ x : Ent, x = (getE l key).getD Ent.zero ∧ e = .returned (.tuple #[.agg #[.string x.k, .string x.v, .bool x.g], .bool (getE l key).isSome])) ∧ Below w.heap.size w w' := by
  refine (tget_any B t l F key w h hn).mono ?_
  rintro e w' ⟨rfl, hb⟩
  exact ⟨⟨_, rfl, rfl⟩, hb⟩
end Go.Proofs.Ytaepdbkfaoiimab
