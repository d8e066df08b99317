/- Several texts of this proof, one behind the other: walks and plain laws that the statement rests on. Conditions: none but those that each lemma names. -/
import Derived.Test.YtaepdbkfaoiimabGreatDoorGh
import Derived.Test.YtaepdbkfaoiimabGreatDoorGe
import Derived.Deep.LoopGhost
import Derived.Test.YtaepdbkfaoiimabGreatDoorGj
import Derived.Test.YtaepdbkfaoiimabGreatDoorGc
import Derived.Deep.RegionHeld3
import Derived.Deep.DeepCutAuto
import Derived.Test.YtaepdbkfaoiimabGreatDoorGa
/- The contracts of store.free, blank and Format. Conditions: none but those that each names. -/
set_option linter.unusedVariables false
set_option linter.unusedSimpArgs false
namespace Go.Proofs.YtaepdbkfaoiimabGreatDoor
open Go.RowKit
attribute [local go_sem ↓] eql_err eql_nilerr neq_err neq_nilerr guard_err guard_nilerr guardn_err guardn_nilerr
theorem inL_eq (l : List Int) (x : Int) : inL l x = l.contains x := rfl
theorem freeTo_rng (c : Chip) (used : List Int) (k : Nat) : freeTo c used k = -1 ∨ ∃ b : Nat, freeTo c used k = b ∧ b < k + 2 := by
  rcases freeTo_spec c used k with ⟨h, _⟩ | ⟨b, h, _, h2, _⟩
  · exact .inl h
  · exact .inr ⟨b, h, h2⟩
set_option maxRecDepth 20000 in
set_option maxHeartbeats 2000000 in
theorem free_any (B p : Nat) (c : Chip) (v : Value) (used : List Int) (w : World) (h : ChipR B w p c) (hu : Ints B w v used) :
    Calls Tryz.prog 43 #[.pointer (some ⟨p, 0, none⟩), v] w fun e w' => e = .returned (.int .i64 (freeM c used)) ∧ w = w' := by
  have HB : Hid (∀ k : Nat, k < 22 → Calls Tryz.prog 76 #[.pointer (some ⟨p, 0, none⟩), .int .i64 ((k : Int) + 2)] w fun e w' => e = .returned (.bool (c.b (k + 2)).bad) ∧ w = w') := fun k hk => by
    have := bad_any B p c ((k : Int) + 2) w h (by omega) (by omega)
    rw [show ((k : Int) + 2).toNat = k + 2 from by omega] at this
    exact this
  have HW : Hid (∀ k : Nat, k < 22 → Calls Tryz.prog 78 #[.pointer (some ⟨p, 0, none⟩), .int .i64 ((k : Int) + 2)] w fun e w' => e = .returned (.int .i64 (c.b (k + 2)).wear) ∧ w = w') := fun k hk => by
    have := wear_any B p c ((k : Int) + 2) w h (by omega) (by omega)
    rw [show ((k : Int) + 2).toNat = k + 2 from by omega] at this
    exact this
  have HW2 : Hid (∀ b : Nat, b < 24 → Calls Tryz.prog 78 #[.pointer (some ⟨p, 0, none⟩), .int .i64 (b : Int)] w fun e w' => e = .returned (.int .i64 (c.b b).wear) ∧ w = w') := fun b hb => by
    have := wear_any B p c (b : Int) w h (by omega) (by omega)
    rw [Int.toNat_natCast] at this
    exact this
  have HC : Hid (∀ x, Calls Tryz.prog 77 #[v, .int .i64 x] w fun e w' => e = .returned (.bool (used.contains x)) ∧ w = w') := fun x => by
    have := contains_any B v used x w hu
    rw [inL_eq] at this
    exact this
  clear h hu
  go_enter Tryz.func43, Tryz.ntmps43
  go_wp2_with fail
  go_loop [5, 6] (fun best b => ∃ k : Nat, k ≤ 22 ∧ b = .int .i64 ((k : Int) + 2) ∧ best = .int .i64 (freeTo c used k)) (fun _ b => 24 - (intOf b).toNat)
  case atStart => exact ⟨0, by omega, rfl, rfl⟩
  case round =>
    obtain ⟨k, hk, rfl, rfl⟩ := hrel
    by_cases hlt : k < 22
    · have t1 : decide ((k : Int) + 2 < 24) = true := decide_eq_true (by omega)
      have hbad := HB.out k hlt
      have hcon := HC.out ((k : Int) + 2)
      have hwr := HW.out k hlt
      have HN : Hid (freeTo c used (k + 1) = if (c.b (k + 2)).bad = false ∧ used.contains ((k + 2 : Nat) : Int) = false ∧ (freeTo c used k < 0 ∨ (c.b (k + 2)).wear < (c.b (freeTo c used k).toNat).wear) then ((k + 2 : Nat) : Int) else freeTo c used k) := rfl
      have hcast : ((k + 2 : Nat) : Int) = (k : Int) + 2 := by omega
      rw [hcast] at HN
      have hrg := freeTo_rng c used k
      have HW3 : Hid (∀ b : Nat, freeTo c used k = b → Calls Tryz.prog 78 #[.pointer (some ⟨p, 0, none⟩), .int .i64 (b : Int)] w fun e w' => e = .returned (.int .i64 (c.b b).wear) ∧ w = w') := fun b hb => HW2.out b (by
        rcases hrg with h | ⟨b', h, h'⟩ <;> omega)
      generalize (c.b (k + 2)).bad = z1 at *
      generalize used.contains ((k : Int) + 2) = z2 at *
      generalize (c.b (k + 2)).wear = wk at *
      clear hcast HB HW HW2 HC
      cases z1
      · cases z2
        · rcases hrg with hb | ⟨b, hb, hbl⟩
          · rw [hb] at HN ⊢
            have t2 : decide ((-1 : Int) < 0) = true := by decide
            have HN' : Hid (freeTo c used (k + 1) = (k : Int) + 2) := by rw [Hid, HN.out, if_pos ⟨rfl, rfl, .inl (by omega)⟩]
            have HBD := Lib.hid hbad
            have HCO := Lib.hid hcon
            clear HN hb hwr HW3 hbad hcon
            go_wp2_with (first | (go_at_call 76; refine HBD.out.mono ?_; rintro e w' ⟨rfl, rfl⟩) | (go_at_call 77; refine HCO.out.mono ?_; rintro e w' ⟨rfl, rfl⟩))
            go_round
            case rel => exact ⟨k + 1, by omega, by go_num, by rw [HN'.out]⟩
            case measure => simp [intOf] <;> omega
          · have HW4 := Lib.hid (HW3.out b hb)
            have HWK := Lib.hid hwr
            have HBD := Lib.hid hbad
            have HCO := Lib.hid hcon
            rw [hb] at HN ⊢
            rw [Int.toNat_natCast] at HN
            generalize (c.b b).wear = wb at *
            have t2 : decide ((b : Int) < 0) = false := decide_eq_false (by omega)
            clear hb hwr HW3 hbad hcon
            by_cases hlw : wk < wb
            · have t3 : decide (wk < wb) = true := decide_eq_true hlw
              have HN' : Hid (freeTo c used (k + 1) = (k : Int) + 2) := by rw [Hid, HN.out, if_pos ⟨rfl, rfl, .inr hlw⟩]
              clear HN hlw
              go_wp2_with (first | (go_at_call 76; refine HBD.out.mono ?_; rintro e w' ⟨rfl, rfl⟩) | (go_at_call 77; refine HCO.out.mono ?_; rintro e w' ⟨rfl, rfl⟩))
              refine HWK.out.mono ?_; rintro e w' ⟨rfl, rfl⟩
              go_wp2_with fail
              refine HW4.out.mono ?_; rintro e w' ⟨rfl, rfl⟩
              go_wp2_with fail
              go_round
              case rel => exact ⟨k + 1, by omega, by go_num, by rw [HN'.out]⟩
              case measure => simp [intOf] <;> omega
            · have t3 : decide (wk < wb) = false := decide_eq_false hlw
              have HN' : Hid (freeTo c used (k + 1) = (b : Int)) := by rw [Hid, HN.out, if_neg (by omega)]
              clear HN hlw
              go_wp2_with (first | (go_at_call 76; refine HBD.out.mono ?_; rintro e w' ⟨rfl, rfl⟩) | (go_at_call 77; refine HCO.out.mono ?_; rintro e w' ⟨rfl, rfl⟩))
              refine HWK.out.mono ?_; rintro e w' ⟨rfl, rfl⟩
              go_wp2_with fail
              refine HW4.out.mono ?_; rintro e w' ⟨rfl, rfl⟩
              go_wp2_with fail
              go_round
              case rel => exact ⟨k + 1, by omega, by go_num, by rw [HN'.out]⟩
              case measure => simp [intOf] <;> omega
        · have HN' : Hid (freeTo c used (k + 1) = freeTo c used k) := by rw [Hid, HN.out, if_neg (by simp)]
          generalize freeTo c used k = bb at *
          have HBD := Lib.hid hbad
          have HCO := Lib.hid hcon
          clear HN hwr HW3 hbad hcon hrg
          go_wp2_with (first | (go_at_call 76; refine HBD.out.mono ?_; rintro e w' ⟨rfl, rfl⟩) | (go_at_call 77; refine HCO.out.mono ?_; rintro e w' ⟨rfl, rfl⟩))
          go_round
          case rel => exact ⟨k + 1, by omega, by go_num, by rw [HN'.out]⟩
          case measure => simp [intOf] <;> omega
      · have HN' : Hid (freeTo c used (k + 1) = freeTo c used k) := by rw [Hid, HN.out, if_neg (by simp)]
        generalize freeTo c used k = bb at *
        have HBD := Lib.hid hbad
        clear HN hwr HW3 hbad hcon hrg
        go_wp2_with (first | (go_at_call 76; refine HBD.out.mono ?_; rintro e w' ⟨rfl, rfl⟩))
        go_round
        case rel => exact ⟨k + 1, by omega, by go_num, by rw [HN'.out]⟩
        case measure => simp [intOf] <;> omega
    · have hk22 : k = 22 := by omega
      subst hk22
      have t1 : decide (((22 : Nat) : Int) + 2 < 24) = false := by decide
      have HF : Hid (freeM c used = freeTo c used 22) := rfl
      generalize freeTo c used 22 = ff at *
      go_wp2_with fail
      go_ret
      exact ⟨by rw [HF.out]; rfl, rfl⟩
theorem errV_pos {n : Nat} (h : n ≠ 0) : errV n = .iface 39 (.int .i64 n) := if_neg h
/-- An erasing that tells of a bad block has spoilt it. -/
theorem erase_seven {c : Chip} (hc : CWf c) (hd : c.down = false) {b : Nat} (hb : b < 24) (hbad : (c.b b).bad = false) (h : (c.erase b).2 = 7) : (c.erase (b : Nat)).1 = c.spoil b ∧ (c.b b).weak = true := by
  cases hw : (c.b b).weak
  · obtain ⟨c', n, e, _, _, g⟩ := erase_calm hb hd hbad hw
    rw [e] at h
    rcases g with ⟨g, _⟩ | ⟨g, _⟩ <;> · simp only at h; omega
  · have := lays_erase.weak c b hc hd hb hbad hw
    exact ⟨by show (c.erase b).1 = _; rw [show c.erase b = _ from this], rfl⟩
set_option maxRecDepth 20000 in
set_option maxHeartbeats 2000000 in
theorem blank_any (B p : Nat) (c : Chip) (v : Value) (used : List Int) (w : World) (h : ChipR B w p c) (hu : Ints B w v used) (hd : c.down = false) :
    Calls Tryz.prog 22 #[.pointer (some ⟨p, 0, none⟩), v] w fun e w' => e = .returned (.tuple #[.int .i64 (blankM used c).2.1, errV (blankM used c).2.2]) ∧ ChipR B w' p (blankM used c).1 ∧ Fr B (· = p) w w' := by
  have fin : ∀ (wr : World) (tmps : Array Value) (b : Int) (f : Nat) (c' : Chip), (c', b, f) = blankM used c → ChipR B wr p c' → Fr B (· = p) w wr → tmps[4]? = some (.int .i64 b) → tmps[5]? = some (errV f) →
      bodyPost Tryz.prog Tryz.f22 (fun e w' => e = .returned (.tuple #[.int .i64 (blankM used c).2.1, errV (blankM used c).2.2]) ∧ ChipR B w' p (blankM used c).1 ∧ Fr B (· = p) w w') .ret { tmps := tmps, defers := [] } wr := by
    rintro wr tmps b f c' e hc hf t4 t5
    rw [← e]
    exact bodyPost_ret (v := .tuple #[.int .i64 b, errV f]) (by simp [results, Tryz.results22, go_sem, t4, t5]) rfl ⟨rfl, hc, hf⟩
  have FIN := Lib.hid fin
  have HU := Lib.hid hu
  have HR := Lib.hid h
  have hg0 : goods c < 25 := by have := goods_le c; omega
  have HS0 : Hid (seek (fun c b => c.erase b) used 25 c = blankM used c) := rfl
  have HD0 := Lib.hid hd
  clear fin hu h hd
  go_enter Tryz.func22, Tryz.ntmps22
  go_wp2_with fail
  go_loopg [6] 25 (fun g b wr => ∃ c' : Chip, Hid (ChipR B wr p c') ∧ Hid (Fr B (· = p) w wr) ∧ Hid (seek (fun c b => c.erase b) used g c' = blankM used c) ∧ goods c' < g ∧ Hid (c'.down = false))
  case atStart => exact ⟨c, HR.out, Fr.refl _ _ _, HS0.out, hg0, HD0.out⟩
  case round =>
    obtain ⟨c', hr, hf, hs, hg, hdn⟩ := hrel
    clear HR HS0 HD0 hg0
    obtain ⟨g, rfl⟩ : ∃ g, gk = g + 1 := ⟨gk - 1, by omega⟩
    have hsk := hs.out
    rw [seek] at hsk
    have HFR := Lib.hid (free_any B p c' v used wr hr.out (HU.out.fr hf.out))
    rcases freeM_spec c' used with ⟨hb, _⟩ | ⟨b, hb, b1, b2, b3, _⟩
    · rw [hb] at HFR hsk
      rw [if_pos (by omega)] at hsk
      have HS := Lib.hid hsk
      clear hb hsk hs
      have t1 : decide ((-1 : Int) < 0) = true := by decide
      go_wp2_with (go_at_call 43; refine HFR.out.mono ?_; rintro e w' ⟨rfl, rfl⟩)
      exact FIN.out _ _ 0 8 c' HS.out hr.out hf.out rfl rfl
    · rw [hb] at HFR hsk
      rw [if_neg (by omega)] at hsk
      have hce := cerase_any B p c' (b : Int) wr hr.out
      have h7 := erase_seven hr.out.wf hdn.out b2 b3
      have t1 : decide ((b : Int) < 0) = false := decide_eq_false (by omega)
      obtain ⟨⟨c2, n⟩, he⟩ : ∃ r, c'.erase (b : Int) = r := ⟨_, rfl⟩
      rw [he] at hsk hce h7
      simp only at hsk h7
      by_cases hn7 : n = 7
      · subst hn7
        rw [if_pos rfl] at hsk
        obtain ⟨h71, h72⟩ := h7 rfl
        subst h71
        have hg2 := goods_spoil b2 b3 h72
        rw [show errV ((c'.spoil b, 7) : Chip × Nat).2 = .iface 39 (.int .i64 7) from rfl] at hce
        have HS := Lib.hid hsk
        have HCE := Lib.hid hce
        have HDN : Hid ((c'.spoil b).down = false) := by rw [Hid, (spoil_rest c' b).1]; exact hdn.out
        clear hsk hce h7 he hb hs h72
        go_wp2_with (first | (go_at_call 43; refine HFR.out.mono ?_; rintro e w' ⟨rfl, rfl⟩) | (go_at_call 21; refine HCE.out.mono ?_; rintro e w2 ⟨rfl, hr2, hf2⟩; have HR2 := Lib.hid hr2; have HF2 := Lib.hid (hf.out.trans hf2 (fun _ _ => trivial)); clear hr2 hf2))
        go_roundg g
        case measure => omega
        case rel => exact ⟨_, HR2, HF2, HS, by omega, HDN⟩
      · rw [if_neg hn7] at hsk
        by_cases hn0 : n = 0
        · subst hn0
          rw [if_pos rfl] at hsk
          rw [show errV ((c2, 0) : Chip × Nat).2 = .nilIface from rfl] at hce
          have HS := Lib.hid hsk
          have HCE := Lib.hid hce
          clear hsk hce h7 he hb hs hn7
          go_wp2_with (first | (go_at_call 43; refine HFR.out.mono ?_; rintro e w' ⟨rfl, rfl⟩) | (go_at_call 21; refine HCE.out.mono ?_; rintro e w2 ⟨rfl, hr2, hf2⟩; have HR2 := Lib.hid hr2; have HF2 := Lib.hid (hf.out.trans hf2 (fun _ _ => trivial)); clear hr2 hf2))
          exact FIN.out _ _ b 0 c2 HS.out HR2.out HF2.out rfl rfl
        · rw [if_neg hn0] at hsk
          rw [show errV ((c2, n) : Chip × Nat).2 = _ from errV_pos hn0] at hce
          have HE := Lib.hid (errV_pos hn0)
          have t2 : (((n : Nat) : Int) == 7) = false := beq_eq_false_iff_ne.2 (by omega)
          have HS := Lib.hid hsk
          have HCE := Lib.hid hce
          clear hsk hce h7 he hb hs hn7 hn0
          go_wp2_with (first | (go_at_call 43; refine HFR.out.mono ?_; rintro e w' ⟨rfl, rfl⟩) | (go_at_call 21; refine HCE.out.mono ?_; rintro e w2 ⟨rfl, hr2, hf2⟩; have HR2 := Lib.hid hr2; have HF2 := Lib.hid (hf.out.trans hf2 (fun _ _ => trivial)); clear hr2 hf2))
          exact FIN.out _ _ 0 n c2 HS.out HR2.out HF2.out rfl (by rw [HE.out]; rfl)
end Go.Proofs.YtaepdbkfaoiimabGreatDoor
/- How a store lies in memory; take, used. Conditions: none but those that each names. -/
set_option linter.unusedVariables false
set_option linter.unusedSimpArgs false
namespace Go.Proofs.YtaepdbkfaoiimabGreatDoor
open Go.RowKit

/-- The store of block q, on the chip of block p; what is at hand lies in the blocks F. -/
def StoreR (B : Nat) (w : World) (q p : Nat) (s : SM) (F : List Nat) : Prop :=
  ∃ A1 c1 A2 c2 t n, Blk w q 102 #[.pointer (some ⟨p, 0, none⟩), .int .i64 s.m.ep, .int .i64 s.m.log, .slice A1 s.m.nw.length c1, .slice A2 s.m.od.length c2, .int .i64 s.at_, .pointer (some ⟨t, 0, none⟩), .int .i64 n] ∧
    Ints B w (.slice A1 s.m.nw.length c1) s.m.nw ∧ Ints B w (.slice A2 s.m.od.length c2) s.m.od ∧ Tower B w t s.mem F ∧ B ≤ q ∧ q ∉ F
section
variable {B : Nat} {M : Nat → Prop} {w w' : World} {q p : Nat} {s : SM} {F : List Nat} {c : Chip}
theorem StoreR.fr (h : StoreR B w q p s F) (hf : Fr B M w w') (hM : ∀ b ∈ q :: F, ¬ M b) : StoreR B w' q p s F := by
  obtain ⟨A1, c1, A2, c2, t, n, h1, h2, h3, h4, h5, h6⟩ := h
  exact ⟨A1, c1, A2, c2, t, n, h1.fr hf (.inr (.inl (hM q (by simp)))), h2.fr hf, h3.fr hf, h4.fr hf fun b hb => hM b (by simp [hb]), h5, h6⟩
theorem StoreR.below (h : StoreR B w q p s F) (hb : Below w.heap.size w w') : StoreR B w' q p s F := h.fr (M := fun _ => False) (.of_below hb) fun _ _ => id
theorem StoreR.drewN (h : StoreR B w q p s F) (n : Nat) : StoreR B (w.drewN n) q p s F := h.fr (M := fun _ => False) ((Fr.refl _ _ _).drewN n) fun _ _ => id
theorem StoreR.lt (h : StoreR B w q p s F) : q < w.heap.size := by obtain ⟨A1, c1, A2, c2, t, n, h1, _⟩ := h; exact h1.lt
theorem StoreR.base (h : StoreR B w q p s F) : B ≤ q := by obtain ⟨A1, c1, A2, c2, t, n, _, _, _, _, h5, _⟩ := h; exact h5
/-- A block of another type is none of the tower's. -/
theorem Tower.type {t : Nat} {l : List Ent} (h : Tower B w t l F) {g : Nat} {cs : Array Value} {T : TypeId} {fz : Nat × Nat} (hg : w.heap[g]? = some (.cells cs T fz)) (h1 : T ≠ 131) (h2 : T ≠ 129) : g ∉ F := by
  obtain ⟨ns, N, k1, k2, k3, rfl, rfl, k6⟩ := h
  intro hm
  rcases List.mem_cons.1 hm with rfl | hm
  · have := k1.head
    unfold Blk at this
    rw [hg] at this
    injection this with this
    injection this with _ e
    exact h1 e
  · obtain ⟨nd, hnd, rfl⟩ := List.mem_map.1 hm
    have := k1.node nd hnd
    unfold Blk at this
    rw [hg] at this
    injection this with this
    injection this with _ e
    exact h2 e
theorem StoreR.apart (h : StoreR B w q p s F) (hc : ChipR B w p c) : ∀ b ∈ q :: F, b ≠ p := by
  obtain ⟨A1, c1, A2, c2, t, n, h1, _, _, h4, _, _⟩ := h
  obtain ⟨V, u, hv, _⟩ := hc
  have hp : w.heap[p]? = some (.cells (chipL V c u).toArray 67 (0, 0)) := hv.blk
  intro b hb
  rcases List.mem_cons.1 hb with rfl | hb
  · rintro rfl
    unfold Blk at h1
    rw [hp] at h1
    injection h1 with h1
    injection h1 with _ e
    exact absurd e (by decide)
  · rintro rfl
    exact h4.type hp (by decide) (by decide) hb
/-- Steps on the chip alone. -/
theorem StoreR.chip (h : StoreR B w q p s F) (hc : ChipR B w p c) (hf : Fr B (· = p) w w') : StoreR B w' q p s F := h.fr hf (h.apart hc)
end
set_option maxRecDepth 20000 in
set_option maxHeartbeats 4000000 in
theorem used_any (B : Nat) (q p : Nat) (s : SM) (F : List Nat) (w : World) (h : StoreR B w q p s F) (h1 : s.m.nw.length ≤ 1000) (h2 : s.m.od.length ≤ 1000) :
    Calls Tryz.prog 107 #[.pointer (some ⟨q, 0, none⟩)] w fun e w' => ∃ v, e = .returned v ∧ Ints B w' v s.m.all ∧ Below w.heap.size w w' := by
  have hlt := h.lt
  obtain ⟨A1, c1, A2, c2, t, n, hk, hn, ho, _, _, _⟩ := h
  obtain ⟨_, _, e1, k1, k2, _⟩ := hn.form
  obtain ⟨_, _, e2, k3, k4, _⟩ := ho.form
  cases e1; cases e2
  have HN := Lib.hid hn
  have HO := Lib.hid ho
  have x2 := hk.cell 2
  have x3 := hk.cell 3
  have x4 := hk.cell 4
  simp at x2 x3 x4
  have HC : Hid (∀ w' : World, Below w.heap.size w w' → (w'.cell? ⟨q, 2, none⟩ = some (.int .i64 s.m.log) ∧ w'.cell? ⟨q, 3, none⟩ = some (.slice A1 s.m.nw.length c1) ∧ w'.cell? ⟨q, 4, none⟩ = some (.slice A2 s.m.od.length c2)) ∧ Below w.heap.size w w') := fun w' hb =>
    ⟨⟨(hb.cell (p := ⟨q, 2, none⟩) hlt).trans x2, (hb.cell (p := ⟨q, 3, none⟩) hlt).trans x3, (hb.cell (p := ⟨q, 4, none⟩) hlt).trans x4⟩, hb⟩
  have hBa : Below w.heap.size w ((w.alloc (.cells #[.int .i64 s.m.log] 3)).alloc (.cells #[.slice A1 s.m.nw.length c1, .slice A2 s.m.od.length c2] 72)).drew := (((Below.refl _ _).alloc (Nat.le_refl _) _).alloc (by simp) _).drew
  have hBb : Below w.heap.size w ((w.alloc (.cells #[.slice A1 s.m.nw.length c1, .slice A2 s.m.od.length c2] 72)).alloc (.cells #[.int .i64 s.m.log] 3)).drew := (((Below.refl _ _).alloc (Nat.le_refl _) _).alloc (by simp) _).drew
  have hBc : Below w.heap.size w (w.alloc (.cells #[.slice A1 s.m.nw.length c1, .slice A2 s.m.od.length c2] 72)).drew := ((Below.refl _ _).alloc (Nat.le_refl _) _).drew
  have ga : Blk ((w.alloc (.cells #[.int .i64 s.m.log] 3)).alloc (.cells #[.slice A1 s.m.nw.length c1, .slice A2 s.m.od.length c2] 72)).drew (w.heap.size + 1) 72 #[.slice A1 s.m.nw.length c1, .slice A2 s.m.od.length c2] := by
    have := Blk.drewN (Blk.new (w.alloc (.cells #[.int .i64 s.m.log] 3)) 72 #[.slice A1 s.m.nw.length c1, .slice A2 s.m.od.length c2]) 1
    simp only [World.size_alloc] at this
    exact this
  have gb : Blk ((w.alloc (.cells #[.slice A1 s.m.nw.length c1, .slice A2 s.m.od.length c2] 72)).alloc (.cells #[.int .i64 s.m.log] 3)).drew w.heap.size 72 #[.slice A1 s.m.nw.length c1, .slice A2 s.m.od.length c2] := Blk.drewN ((Blk.new w 72 #[.slice A1 s.m.nw.length c1, .slice A2 s.m.od.length c2]).alloc (.cells #[.int .i64 s.m.log] 3)) 1
  have gc : Blk (w.alloc (.cells #[.slice A1 s.m.nw.length c1, .slice A2 s.m.od.length c2] 72)).drew w.heap.size 72 #[.slice A1 s.m.nw.length c1, .slice A2 s.m.od.length c2] := Blk.drewN (Blk.new w 72 #[.slice A1 s.m.nw.length c1, .slice A2 s.m.od.length c2]) 1
  have la : Blk ((w.alloc (.cells #[.int .i64 s.m.log] 3)).alloc (.cells #[.slice A1 s.m.nw.length c1, .slice A2 s.m.od.length c2] 72)).drew w.heap.size 3 #[.int .i64 s.m.log] := Blk.drewN ((Blk.new w 3 #[.int .i64 s.m.log]).alloc (.cells #[.slice A1 s.m.nw.length c1, .slice A2 s.m.od.length c2] 72)) 1
  have lb : Blk ((w.alloc (.cells #[.slice A1 s.m.nw.length c1, .slice A2 s.m.od.length c2] 72)).alloc (.cells #[.int .i64 s.m.log] 3)).drew (w.heap.size + 1) 3 #[.int .i64 s.m.log] := by
    have := Blk.drewN (Blk.new (w.alloc (.cells #[.slice A1 s.m.nw.length c1, .slice A2 s.m.od.length c2] 72)) 3 #[.int .i64 s.m.log]) 1
    simp only [World.size_alloc] at this
    exact this
  have CA : Hid (Calls Tryz.prog 49 #[.slice (some ⟨w.heap.size + 1, 0, none⟩) 2 2] ((w.alloc (.cells #[.int .i64 s.m.log] 3)).alloc (.cells #[.slice A1 s.m.nw.length c1, .slice A2 s.m.od.length c2] 72)).drew fun e w3 => ∃ v3, e = .returned v3 ∧ Ints B w3 v3 (s.m.nw ++ s.m.od) ∧ Below w.heap.size w w3 ∧ Blk w3 w.heap.size 3 #[.int .i64 s.m.log]) :=
    (concat_rd B _ _ _ s.m.nw s.m.od _ ga (HN.out.below hBa) (HO.out.below hBa) (by omega) (by omega)).mono fun e w3 ⟨v3, h3, h4, h5⟩ => ⟨v3, h3, h4, hBa.trans (h5.mono (by simp <;> omega)), la.below h5 la.lt⟩
  have CB : Hid (Calls Tryz.prog 49 #[.slice (some ⟨w.heap.size, 0, none⟩) 2 2] ((w.alloc (.cells #[.slice A1 s.m.nw.length c1, .slice A2 s.m.od.length c2] 72)).alloc (.cells #[.int .i64 s.m.log] 3)).drew fun e w3 => ∃ v3, e = .returned v3 ∧ Ints B w3 v3 (s.m.nw ++ s.m.od) ∧ Below w.heap.size w w3 ∧ Blk w3 (w.heap.size + 1) 3 #[.int .i64 s.m.log]) :=
    (concat_rd B _ _ _ s.m.nw s.m.od _ gb (HN.out.below hBb) (HO.out.below hBb) (by omega) (by omega)).mono fun e w3 ⟨v3, h3, h4, h5⟩ => ⟨v3, h3, h4, hBb.trans (h5.mono (by simp <;> omega)), lb.below h5 lb.lt⟩
  have CC : Hid (Calls Tryz.prog 49 #[.slice (some ⟨w.heap.size, 0, none⟩) 2 2] (w.alloc (.cells #[.slice A1 s.m.nw.length c1, .slice A2 s.m.od.length c2] 72)).drew fun e w3 => ∃ v3, e = .returned v3 ∧ Ints B w3 v3 (s.m.nw ++ s.m.od) ∧ Below w.heap.size w w3) :=
    (concat_rd B _ _ _ s.m.nw s.m.od _ gc (HN.out.below hBc) (HO.out.below hBc) (by omega) (by omega)).mono fun e w3 ⟨v3, h3, h4, h5⟩ => ⟨v3, h3, h4, hBc.trans (h5.mono (by simp))⟩
  have HBA : Hid (Below w.heap.size w ((w.alloc (.cells #[.int .i64 s.m.log] 3)).alloc (.cells #[.slice A1 s.m.nw.length c1, .slice A2 s.m.od.length c2] 72)).drew ∧ Below w.heap.size w ((w.alloc (.cells #[.slice A1 s.m.nw.length c1, .slice A2 s.m.od.length c2] 72)).alloc (.cells #[.int .i64 s.m.log] 3)).drew ∧ Below w.heap.size w (w.alloc (.cells #[.slice A1 s.m.nw.length c1, .slice A2 s.m.od.length c2] 72)).drew) := ⟨hBa, hBb, hBc⟩
  have HB0 : Hid (Below w.heap.size w w.drew) := (Below.refl _ _).drew
  obtain ⟨i0, hi, hz0, hz1, hz2⟩ := info_parts info_int
  clear hBa hBb hBc ga gb gc la lb hk hn ho
  go_enter Tryz.func107, Tryz.ntmps107
  go_wp2_with fail
  go_region_held3 (fun w' => (w'.cell? ⟨q, 2, none⟩ = some (.int .i64 s.m.log) ∧ w'.cell? ⟨q, 3, none⟩ = some (.slice A1 s.m.nw.length c1) ∧ w'.cell? ⟨q, 4, none⟩ = some (.slice A2 s.m.od.length c2)) ∧ Below w.heap.size w w')
    ((first
      | exact HC.out _ hB5
      | exact HC.out _ hB6
      | exact HC.out _ hB4
      | exact HC.out _ HB0.out
      | exact HC.out _ HBA.out.2.2
      | exact HC.out _ HBA.out.1
      | exact HC.out _ HBA.out.2.1
      | exact HC.out _ ((Below.refl _ _).alloc (by simp) _).drew))
    ((first
      | (go_at_call 49; ((with_reducible refine CA.out.mono ?_); rintro e w3 ⟨v3, rfl, hi3, hB4, q17⟩))
      | (go_at_call 49; ((with_reducible refine CB.out.mono ?_); rintro e w3 ⟨v3, rfl, hi3, hB4, q17⟩))
      | (go_at_call 49; ((with_reducible refine CC.out.mono ?_); rintro e w3 ⟨v3, rfl, hi3, hB4⟩; have q18 := Blk.new w3 3 #[.int .i64 s.m.log]; have hi4 : Ints B (w3.alloc (.cells #[.int .i64 s.m.log] 3)) v3 (s.m.nw ++ s.m.od) := hi3.below ((Below.refl _ _).alloc (Nat.le_refl _) _); have s18 : w.heap.size ≤ w3.heap.size := (by have := hB4.size; omega); have hB6 := hB4.alloc s18 (.cells #[.int .i64 s.m.log] 3)))
      | (refine step_append_rd rfl (.tmp 8) (.tmp 20) 72 rfl w.heap.size 3 i0 _ 1 8 Tryz.underlying72 hi hz0 hz1 hz2 rfl (by decide) _ 1 [.int .i64 s.m.log] rfl (own_one (base := w.heap.size) q17 (by omega)) B 3 v3 _ _ rfl hi3 ints_one (by unfold maxLen; simp <;> omega) (by simp <;> omega) (by have := hB4.size; omega) ?_; intro v4 w4 hown4 hg4 hat4; have hB5 : Below w.heap.size w w4 := hB4.grown hg4 hB4.size (own_ge (own_one (base := w.heap.size) q17 (by omega))))
      | (refine step_append_rd rfl (.tmp 8) (.tmp 20) 72 rfl w.heap.size 3 i0 (.int .i64 0) 1 8 Tryz.underlying72 hi hz0 hz1 hz2 rfl (by decide) (.slice (some ⟨w3.heap.size, 0, none⟩) 1 1) 1 [.int .i64 s.m.log] rfl (own_one (base := w.heap.size) q18 s18) B 3 v3 (s.m.nw ++ s.m.od).length ((s.m.nw ++ s.m.od).map (.int .i64)) rfl hi4 ints_one (by unfold maxLen; simp <;> omega) (by simp <;> omega) (by have := hB6.size; simp at this ⊢; omega) ?_; intro v4 w4 hown4 hg4 hat4; have hB5 : Below w.heap.size w w4 := hB6.grown hg4 hB6.size (own_ge (own_one q18 s18)))))
  all_goals
    have HI4 : Hid (Ints B w4 v4 s.m.all) := by
      have := Rd.of_own (B := B) hown4
      have e : (1 + (s.m.nw ++ s.m.od).length) = s.m.all.length := by simp [Man.all]; omega
      rw [e] at this
      exact this
    have HB5 := Lib.hid hB5
    clear hown4 hg4 hat4 hi3 hB4 hB5
    go_wp2_with fail
    go_ret
    exact ⟨v4, rfl, HI4.out, HB5.out⟩
end Go.Proofs.YtaepdbkfaoiimabGreatDoor
/- The contracts of store.take, Manifest, note. Conditions: none but those that each names. -/
set_option linter.unusedVariables false
set_option linter.unusedSimpArgs false
namespace Go.Proofs.YtaepdbkfaoiimabGreatDoor
open Go.RowKit
attribute [local go_sem ↓] eql_err eql_nilerr neq_err neq_nilerr guard_err guard_nilerr guardn_err guardn_nilerr
set_option maxRecDepth 20000 in
set_option maxHeartbeats 4000000 in
theorem take_any (B : Nat) (q p : Nat) (s : SM) (F : List Nat) (v : Value) (l : List Ent) (w : World) (h : StoreR B w q p s F) (hl : Ents B w v l) (hlen : s.mem.length + l.length ≤ 1000000) (hB : B ≤ w.heap.size) :
    Calls Tryz.prog 53 #[.pointer (some ⟨q, 0, none⟩), v] w fun e w' => ∃ F', e = .returned (.tuple #[]) ∧ StoreR B w' q p { s with mem := l.foldl putE s.mem } F' ∧ Fr B (· ∈ q :: F) w w' ∧ ∀ b ∈ F', b ∈ F ∨ w.heap.size ≤ b := by
  obtain ⟨A, cp, rfl, hc1, hc2, _⟩ := hl.form
  have HL := Lib.hid hl
  have HR := Lib.hid h
  have hq0 := h.lt
  have hqB := h.base
  clear hl h
  go_enter Tryz.func53, Tryz.ntmps53
  go_wp2_with fail
  go_loopw [8] (fun i wr => ∃ (k : Nat) (F' : List Nat), i = .int .i64 (k : Int) ∧ k ≤ l.length ∧ Hid (StoreR B wr q p { s with mem := (l.take k).foldl putE s.mem } F') ∧ Hid (Fr B (· ∈ q :: F) w wr) ∧ Hid (∀ b ∈ F', b ∈ F ∨ w.heap.size ≤ b)) (fun i _ => l.length - (intOf i).toNat)
  case atStart => exact ⟨0, F, rfl, Nat.zero_le _, HR.out, Fr.refl _ _ _, fun b hb => .inl hb⟩
  case round =>
    obtain ⟨k, F', rfl, hk, hS, hfr, hnew⟩ := hrel
    by_cases hlt : k < l.length
    · obtain ⟨y, hy, hty, _⟩ := getElem?_of_lt hlt
      obtain ⟨A', cp', e, _, _, hcell⟩ := (HL.out.fr hfr.out).form
      obtain ⟨bb, oo, rfl, hbb, y1, y2, y3⟩ := hcell k y hy
      cases e
      have hyok := HL.out.2 y (List.mem_of_getElem? hy)
      have HYO := Lib.hid hyok
      have hnext : (l.take (k + 1)).foldl putE s.mem = putE ((l.take k).foldl putE s.mem) y := by rw [hty, List.foldl_append]; rfl
      have HNX := Lib.hid hnext
      have hml : ((l.take k).foldl putE s.mem).length ≤ 1000000 := by
        have h1 := puts_len (l.take k) s.mem
        have h2 : (l.take k).length ≤ l.length := List.length_take_le' _ _
        omega
      obtain ⟨A1, c1, A2, c2, t, n, hk', hn, ho, ht, hBq, hqF⟩ := hS.out
      generalize hM0 : (l.take k).foldl putE s.mem = M0 at *
      simp only at hk' hn ho ht
      have x6 := hk'.cell 6
      have x7 := hk'.cell 7
      have f7 := hk'.frozen 7
      simp at x6 x7
      have hqw := hk'.lt
      have hk2 : Blk ((wr.setCell ⟨q, 7, none⟩ (.int .i64 (wrap64 (n + 1)))).alloc (.cells #[.string y.k, .string y.v, .bool y.g] 56)).drew q 102 #[.pointer (some ⟨p, 0, none⟩), .int .i64 s.m.ep, .int .i64 s.m.log, .slice A1 s.m.nw.length c1, .slice A2 s.m.od.length c2, .int .i64 s.at_, .pointer (some ⟨t, 0, none⟩), .int .i64 (wrap64 (n + 1))] := ((hk'.set_ 7 _).alloc _).drewN 1
      have hmut : ∃ cs T fz, wr.heap[q]? = some (.cells cs T fz) ∧ mutT T = true := ⟨_, _, _, hk', by decide⟩
      have hfq : Fr B (· = q) wr ((wr.setCell ⟨q, 7, none⟩ (.int .i64 (wrap64 (n + 1)))).alloc (.cells #[.string y.k, .string y.v, .bool y.g] 56)).drew := (((Fr.refl B (· = q) wr).setCell (p := ⟨q, 7, none⟩) hqB (.inl rfl) (fun _ => hmut) _).alloc (.cells #[.string y.k, .string y.v, .bool y.g] 56)).drewN 1
      have hey : Blk ((wr.setCell ⟨q, 7, none⟩ (.int .i64 (wrap64 (n + 1)))).alloc (.cells #[.string y.k, .string y.v, .bool y.g] 56)).drew wr.heap.size 56 #[.string y.k, .string y.v, .bool y.g] := by
        have := (Blk.new (wr.setCell ⟨q, 7, none⟩ (.int .i64 (wrap64 (n + 1)))) 56 #[.string y.k, .string y.v, .bool y.g]).drewN 1
        rw [show (wr.setCell ⟨q, 7, none⟩ (.int .i64 (wrap64 (n + 1)))).heap.size = wr.heap.size from by simp [World.setCell]] at this
        exact this
      have HT2 : Hid (Tower B ((wr.setCell ⟨q, 7, none⟩ (.int .i64 (wrap64 (n + 1)))).alloc (.cells #[.string y.k, .string y.v, .bool y.g] 56)).drew t M0 F') := ht.fr hfq (fun b hb e => hqF (e ▸ hb))
      have HF2 : Hid (Fr B (· ∈ q :: F) w ((wr.setCell ⟨q, 7, none⟩ (.int .i64 (wrap64 (n + 1)))).alloc (.cells #[.string y.k, .string y.v, .bool y.g] 56)).drew) := hfr.out.trans' hfq (fun b _ e => by subst e; simp)
      have HK2 := Lib.hid hk2
      have HN2 : Hid (Ints B ((wr.setCell ⟨q, 7, none⟩ (.int .i64 (wrap64 (n + 1)))).alloc (.cells #[.string y.k, .string y.v, .bool y.g] 56)).drew (.slice A1 s.m.nw.length c1) s.m.nw) := hn.fr hfq
      have HO2 : Hid (Ints B ((wr.setCell ⟨q, 7, none⟩ (.int .i64 (wrap64 (n + 1)))).alloc (.cells #[.string y.k, .string y.v, .bool y.g] 56)).drew (.slice A2 s.m.od.length c2) s.m.od) := ho.fr hfq
      have z6 := hk2.cell 6
      have z7 := hk2.cell 7
      have z0 := hey.cell 0
      have z1 := hey.cell 1
      have z2 := hey.cell 2
      simp at z6 z7 z0 z1 z2
      have HZ : Hid ((((wr.setCell ⟨q, 7, none⟩ (.int .i64 (wrap64 (n + 1)))).alloc (.cells #[.string y.k, .string y.v, .bool y.g] 56)).drew.cell? ⟨q, 6, none⟩ = some (.pointer (some ⟨t, 0, none⟩)) ∧ ((wr.setCell ⟨q, 7, none⟩ (.int .i64 (wrap64 (n + 1)))).alloc (.cells #[.string y.k, .string y.v, .bool y.g] 56)).drew.cell? ⟨q, 7, none⟩ = some (.int .i64 (wrap64 (n + 1)))) ∧ ((wr.setCell ⟨q, 7, none⟩ (.int .i64 (wrap64 (n + 1)))).alloc (.cells #[.string y.k, .string y.v, .bool y.g] 56)).drew.cell? ⟨wr.heap.size, 0, none⟩ = some (.string y.k) ∧ ((wr.setCell ⟨q, 7, none⟩ (.int .i64 (wrap64 (n + 1)))).alloc (.cells #[.string y.k, .string y.v, .bool y.g] 56)).drew.cell? ⟨wr.heap.size, 1, none⟩ = some (.string y.v) ∧ ((wr.setCell ⟨q, 7, none⟩ (.int .i64 (wrap64 (n + 1)))).alloc (.cells #[.string y.k, .string y.v, .bool y.g] 56)).drew.cell? ⟨wr.heap.size, 2, none⟩ = some (.bool y.g)) := ⟨⟨z6, z7⟩, z0, z1, z2⟩
      have HZ3 : Hid (∀ w', Fr B (· ∈ F') ((wr.setCell ⟨q, 7, none⟩ (.int .i64 (wrap64 (n + 1)))).alloc (.cells #[.string y.k, .string y.v, .bool y.g] 56)).drew w' → ((w'.cell? ⟨q, 6, none⟩ = some (.pointer (some ⟨t, 0, none⟩)) ∧ w'.cell? ⟨q, 7, none⟩ = some (.int .i64 (wrap64 (n + 1)))) ∧ w'.cell? ⟨wr.heap.size, 0, none⟩ = some (.string y.k) ∧ w'.cell? ⟨wr.heap.size, 1, none⟩ = some (.string y.v) ∧ w'.cell? ⟨wr.heap.size, 2, none⟩ = some (.bool y.g))) := by
        intro w' hf
        have a := hk2.fr hf (.inr (.inl hqF))
        have b := hey.fr hf (.inr (.inr (by decide)))
        have a6 := a.cell 6
        have a7 := a.cell 7
        have b0 := b.cell 0
        have b1 := b.cell 1
        have b2 := b.cell 2
        simp at a6 a7 b0 b1 b2
        exact ⟨⟨a6, a7⟩, b0, b1, b2⟩
      have hBs : B ≤ ((wr.setCell ⟨q, 7, none⟩ (.int .i64 (wrap64 (n + 1)))).alloc (.cells #[.string y.k, .string y.v, .bool y.g] 56)).drew.heap.size := Nat.le_trans hB HF2.out.size
      have g1 : (0 : Int) ≤ (k : Int) := by omega
      have g2 : (k : Int) < (l.length : Int) := by omega
      clear hmut hk' hn ho ht hk2 hfq hey z6 z7 z0 z1 z2 hy hty hnext hyok hM0
      go_wp2_with fail
      go_region_held3 (fun w' => ((w'.cell? ⟨q, 6, none⟩ = some (.pointer (some ⟨t, 0, none⟩)) ∧ w'.cell? ⟨q, 7, none⟩ = some (.int .i64 (wrap64 (n + 1)))) ∧ w'.cell? ⟨wr.heap.size, 0, none⟩ = some (.string y.k) ∧ w'.cell? ⟨wr.heap.size, 1, none⟩ = some (.string y.v) ∧ w'.cell? ⟨wr.heap.size, 2, none⟩ = some (.bool y.g)))
        ((first | exact HZ.out | exact HZ3.out _ hF3))
        ((first | (go_at_call 89; refine (tput_any B t M0 F' y _ _ HT2.out hBs hml HYO.out).mono ?_; rintro d w3 ⟨F2, rfl, hT3, hF3, hnew3⟩)))
      have HS3 : Hid (StoreR B w3 q p { s with mem := putE M0 y } F2) := ⟨A1, c1, A2, c2, t, _, HK2.out.fr hF3 (.inr (.inl hqF)), HN2.out.fr hF3, HO2.out.fr hF3, hT3, hBq, fun hm => (hnew3 q hm).elim hqF (fun h => by have := HK2.out.lt; omega)⟩
      have HF3 : Hid (Fr B (· ∈ q :: F) w w3) := HF2.out.trans' hF3 (fun b hb hm => (hnew.out b hm).elim (fun h => by simp [h]) (fun h => by omega))
      have HW3 : Hid (∀ b ∈ F2, b ∈ F ∨ w.heap.size ≤ b) := fun b hb => (hnew3 b hb).elim (hnew.out b) (fun h => .inr (Nat.le_trans HF2.out.size h))
      clear hT3 hF3 hnew3
      go_wp2_with fail
      go_roundw
      case rel => exact ⟨k + 1, F2, by go_num, by omega, by rw [Hid, HNX.out]; exact HS3.out, HF3.out, HW3.out⟩
      case measure => simp [intOf] <;> omega
    · obtain rfl : k = l.length := by omega
      have g2 : decide ((l.length : Int) < (l.length : Int)) = false := by simp
      rw [List.take_length] at hS
      go_wp2_with fail
      go_end0
      exact ⟨F', rfl, hS.out, hfr.out, hnew.out⟩
theorem store_noted {B q p t : Nat} {c : Chip} {m : Man} {a : Int} {mem : List Ent} {tabs : List (List Ent)} {F : List Nat} {w3 : World} {x1 x2 x3 x4 x5 : Value} {n : Int} {A1 A2 : Option Addr} {c1 c2 : Nat}
    (hk : Blk w3 q 102 #[.pointer (some ⟨p, 0, none⟩), x1, x2, x3, x4, x5, .pointer (some ⟨t, 0, none⟩), .int .i64 n])
    (hn : Ints B w3 (.slice A1 m.nw.length c1) m.nw) (ho : Ints B w3 (.slice A2 m.od.length c2) m.od) (ht : Tower B w3 t mem F) (hq : q ∉ F) (hB : B ≤ q) (hc : ChipR B w3 p c) (hqp : q ≠ p) :
    StoreR B (((((w3.setCell ⟨q, 1, none⟩ (.int .i64 m.ep)).setCell ⟨q, 2, none⟩ (.int .i64 m.log)).setCell ⟨q, 3, none⟩ (.slice A1 m.nw.length c1)).setCell ⟨q, 4, none⟩ (.slice A2 m.od.length c2)).setCell ⟨q, 5, none⟩ (.int .i64 a)) q p ⟨m, a, mem, tabs⟩ F ∧ ChipR B (((((w3.setCell ⟨q, 1, none⟩ (.int .i64 m.ep)).setCell ⟨q, 2, none⟩ (.int .i64 m.log)).setCell ⟨q, 3, none⟩ (.slice A1 m.nw.length c1)).setCell ⟨q, 4, none⟩ (.slice A2 m.od.length c2)).setCell ⟨q, 5, none⟩ (.int .i64 a)) p c ∧ Fr B (· = q) w3 (((((w3.setCell ⟨q, 1, none⟩ (.int .i64 m.ep)).setCell ⟨q, 2, none⟩ (.int .i64 m.log)).setCell ⟨q, 3, none⟩ (.slice A1 m.nw.length c1)).setCell ⟨q, 4, none⟩ (.slice A2 m.od.length c2)).setCell ⟨q, 5, none⟩ (.int .i64 a)) := by
  have hmut : ∃ cs T fz, w3.heap[q]? = some (.cells cs T fz) ∧ mutT T = true := ⟨_, _, _, hk, by decide⟩
  have hf : Fr B (· = q) w3 (((((w3.setCell ⟨q, 1, none⟩ (.int .i64 m.ep)).setCell ⟨q, 2, none⟩ (.int .i64 m.log)).setCell ⟨q, 3, none⟩ (.slice A1 m.nw.length c1)).setCell ⟨q, 4, none⟩ (.slice A2 m.od.length c2)).setCell ⟨q, 5, none⟩ (.int .i64 a)) := (((((Fr.refl B (· = q) w3).setCell (p := ⟨q, 1, none⟩) hB (.inl rfl) (fun _ => hmut) _).setCell (p := ⟨q, 2, none⟩) hB (.inl rfl) (fun _ => hmut) _).setCell (p := ⟨q, 3, none⟩) hB (.inl rfl) (fun _ => hmut) _).setCell (p := ⟨q, 4, none⟩) hB (.inl rfl) (fun _ => hmut) _).setCell (p := ⟨q, 5, none⟩) hB (.inl rfl) (fun _ => hmut) _
  exact ⟨⟨A1, c1, A2, c2, t, n, ((((hk.set_ 1 _).set_ 2 _).set_ 3 _).set_ 4 _).set_ 5 _, hn.fr hf, ho.fr hf, ht.fr hf (fun b hb e => hq (e ▸ hb)), hB, hq⟩, hc.keep hf (fun e => hqp e.symm), hf⟩
theorem noteM_ok {c : Chip} {s : SM} {m0 : Man} (h : (noteR c s.at_ { m0 with ep := s.m.ep + 1 }).2.2 = 0) : noteM c s m0 = ((noteR c s.at_ { m0 with ep := s.m.ep + 1 }).1, { s with m := { m0 with ep := s.m.ep + 1 }, at_ := (noteR c s.at_ { m0 with ep := s.m.ep + 1 }).2.1 }, 0) := if_pos h
theorem noteM_bad {c : Chip} {s : SM} {m0 : Man} (h : (noteR c s.at_ { m0 with ep := s.m.ep + 1 }).2.2 ≠ 0) : noteM c s m0 = ((noteR c s.at_ { m0 with ep := s.m.ep + 1 }).1, s, (noteR c s.at_ { m0 with ep := s.m.ep + 1 }).2.2) := if_neg h
set_option maxRecDepth 20000 in
set_option maxHeartbeats 4000000 in
theorem snote_any (B : Nat) (q p : Nat) (c : Chip) (s : SM) (F : List Nat) (v : Value) (m0 : Man) (w : World) (h : StoreR B w q p s F) (hc : ChipR B w p c) (hm : ManV B w v m0) (h1 : m0.nw.length ≤ 1000) (h2 : m0.od.length ≤ 1000) (ha : s.at_ = 0 ∨ s.at_ = 1) (hep : 0 ≤ s.m.ep) (hep2 : s.m.ep ≤ 1000000) :
    Calls Tryz.prog 108 #[.pointer (some ⟨q, 0, none⟩), v] w fun e w' => e = .returned (errV (noteM c s m0).2.2) ∧ ChipR B w' p (noteM c s m0).1 ∧ StoreR B w' q p (noteM c s m0).2.1 F ∧ Fr B (fun b => b = q ∨ b = p) w w' := by
  obtain ⟨vn, vo, rfl, hn0, ho0⟩ := hm
  obtain ⟨B1, d1, rfl, _, _, _⟩ := hn0.form
  obtain ⟨B2, d2, rfl, _, _, _⟩ := ho0.form
  have hap := h.apart hc
  have hqp : q ≠ p := hap q (by simp)
  have hq0 := h.lt
  have hqB := h.base
  have hb0 : Below w.heap.size w (w.alloc (.cells #[.int .i64 (s.m.ep + 1), .int .i64 m0.log, .slice B1 m0.nw.length d1, .slice B2 m0.od.length d2] 74)) := (Below.refl _ _).alloc (Nat.le_refl _) _
  have HS1 := Lib.hid (h.below hb0)
  have HC1 := Lib.hid (hc.below hb0)
  have HN1 := Lib.hid (hn0.below hb0)
  have HO1 := Lib.hid (ho0.below hb0)
  have HM1 : Hid (Blk (w.alloc (.cells #[.int .i64 (s.m.ep + 1), .int .i64 m0.log, .slice B1 m0.nw.length d1, .slice B2 m0.od.length d2] 74)) w.heap.size 74 #[.int .i64 (s.m.ep + 1), .int .i64 m0.log, .slice B1 m0.nw.length d1, .slice B2 m0.od.length d2]) := Blk.new w _ _
  have HF1 : Hid (Fr B (fun b => b = q ∨ b = p) w (w.alloc (.cells #[.int .i64 (s.m.ep + 1), .int .i64 m0.log, .slice B1 m0.nw.length d1, .slice B2 m0.od.length d2] 74)).drew) := ((Fr.refl _ _ _).alloc _).drewN 1
  have hnt := note_any B p c s.at_ (.agg #[.int .i64 (s.m.ep + 1), .int .i64 m0.log, .slice B1 m0.nw.length d1, .slice B2 m0.od.length d2]) { m0 with ep := s.m.ep + 1 } (w.alloc (.cells #[.int .i64 (s.m.ep + 1), .int .i64 m0.log, .slice B1 m0.nw.length d1, .slice B2 m0.od.length d2] 74)).drew (HC1.out.drewN 1) ha ⟨_, _, rfl, HN1.out, HO1.out⟩ h1 h2
  obtain ⟨A1, c1, A2, c2, t, n, hk, hn, ho, ht, hBq, hqF⟩ := h
  have HKQ : Hid (Blk (w.alloc (.cells #[.int .i64 (s.m.ep + 1), .int .i64 m0.log, .slice B1 m0.nw.length d1, .slice B2 m0.od.length d2] 74)).drew q 102 #[.pointer (some ⟨p, 0, none⟩), .int .i64 s.m.ep, .int .i64 s.m.log, .slice A1 s.m.nw.length c1, .slice A2 s.m.od.length c2, .int .i64 s.at_, .pointer (some ⟨t, 0, none⟩), .int .i64 n]) := (hk.alloc _).drewN 1
  have HMD : Hid (Blk (w.alloc (.cells #[.int .i64 (s.m.ep + 1), .int .i64 m0.log, .slice B1 m0.nw.length d1, .slice B2 m0.od.length d2] 74)).drew w.heap.size 74 #[.int .i64 (s.m.ep + 1), .int .i64 m0.log, .slice B1 m0.nw.length d1, .slice B2 m0.od.length d2]) := HM1.out.drewN 1
  have HZ : Hid (∀ {w'}, Fr B (· = p) (w.alloc (.cells #[.int .i64 (s.m.ep + 1), .int .i64 m0.log, .slice B1 m0.nw.length d1, .slice B2 m0.od.length d2] 74)).drew w' → (w'.cell? ⟨q, 0, none⟩ = some (.pointer (some ⟨p, 0, none⟩)) ∧ w'.cell? ⟨q, 5, none⟩ = some (.int .i64 s.at_)) ∧ w'.cell? ⟨w.heap.size, 0, none⟩ = some (.int .i64 (s.m.ep + 1)) ∧ w'.cell? ⟨w.heap.size, 1, none⟩ = some (.int .i64 m0.log) ∧ w'.cell? ⟨w.heap.size, 2, none⟩ = some (.slice B1 m0.nw.length d1) ∧ w'.cell? ⟨w.heap.size, 3, none⟩ = some (.slice B2 m0.od.length d2)) := by
    intro w' hf
    have a := HKQ.out.fr hf (.inr (.inl hqp))
    have b := HMD.out.fr hf (.inr (.inr (by decide)))
    have a0 := a.cell 0
    have a5 := a.cell 5
    have b0 := b.cell 0
    have b1 := b.cell 1
    have b2 := b.cell 2
    have b3 := b.cell 3
    simp at a0 a5 b0 b1 b2 b3
    exact ⟨⟨a0, a5⟩, b0, b1, b2, b3⟩
  have HSD : Hid (StoreR B (w.alloc (.cells #[.int .i64 (s.m.ep + 1), .int .i64 m0.log, .slice B1 m0.nw.length d1, .slice B2 m0.od.length d2] 74)).drew q p s F) := HS1.out.drewN 1
  have HND : Hid (Ints B (w.alloc (.cells #[.int .i64 (s.m.ep + 1), .int .i64 m0.log, .slice B1 m0.nw.length d1, .slice B2 m0.od.length d2] 74)).drew (.slice B1 m0.nw.length d1) m0.nw) := HN1.out.drewN 1
  have HOD : Hid (Ints B (w.alloc (.cells #[.int .i64 (s.m.ep + 1), .int .i64 m0.log, .slice B1 m0.nw.length d1, .slice B2 m0.od.length d2] 74)).drew (.slice B2 m0.od.length d2) m0.od) := HO1.out.drewN 1
  have HTD : Hid (Tower B (w.alloc (.cells #[.int .i64 (s.m.ep + 1), .int .i64 m0.log, .slice B1 m0.nw.length d1, .slice B2 m0.od.length d2] 74)).drew t s.mem F) := (ht.below hb0).drewN 1
  have HAP := Lib.hid hap
  have x1 := hk.cell 1
  simp at x1
  clear hk hn ho ht hn0 ho0 hb0 hc hap HS1 HC1 HN1 HO1 HM1
  by_cases hr : (noteR c s.at_ { m0 with ep := s.m.ep + 1 }).2.2 = 0
  · have HE := Lib.hid (noteM_ok hr)
    rw [hr] at hnt
    generalize noteR c s.at_ { m0 with ep := s.m.ep + 1 } = r at *
    obtain ⟨c', a', n'⟩ := r
    simp only at hr hnt HE
    rw [show errV 0 = Value.nilIface from rfl] at hnt
    have HNT := Lib.hid hnt
    clear hr hnt
    go_enter Tryz.func108, Tryz.ntmps108
    go_wp2_with fail
    go_region_held3 (fun w' => (w'.cell? ⟨q, 0, none⟩ = some (.pointer (some ⟨p, 0, none⟩)) ∧ w'.cell? ⟨q, 5, none⟩ = some (.int .i64 s.at_)) ∧ w'.cell? ⟨w.heap.size, 0, none⟩ = some (.int .i64 (s.m.ep + 1)) ∧ w'.cell? ⟨w.heap.size, 1, none⟩ = some (.int .i64 m0.log) ∧ w'.cell? ⟨w.heap.size, 2, none⟩ = some (.slice B1 m0.nw.length d1) ∧ w'.cell? ⟨w.heap.size, 3, none⟩ = some (.slice B2 m0.od.length d2))
      ((first | exact HZ.out (Fr.refl _ _ _) | exact HZ.out hf3))
      ((first | (go_at_call 23; refine HNT.out.mono ?_; rintro d w3 ⟨rfl, hc3, hf3⟩)))
    have hkq := HKQ.out.fr hf3 (.inr (.inl hqp))
    have hmd := HMD.out.fr hf3 (.inr (.inr (by decide)))
    have b0 := hmd.cell 0
    have b1 := hmd.cell 1
    have b2 := hmd.cell 2
    have b3 := hmd.cell 3
    have r1 := hkq.cell 1
    have r2 := hkq.cell 2
    have r3 := hkq.cell 3
    have r4 := hkq.cell 4
    have r5 := hkq.cell 5
    have f1 := hkq.frozen 1
    have f2 := hkq.frozen 2
    have f3 := hkq.frozen 3
    have f4 := hkq.frozen 4
    have f5 := hkq.frozen 5
    simp at b0 b1 b2 b3 r1 r2 r3 r4 r5
    have HFIN := Lib.hid (store_noted (c := c') (p := p) (m := { m0 with ep := s.m.ep + 1 }) (tabs := s.tabs) (a := a') hkq (HND.out.fr hf3) (HOD.out.fr hf3) (HTD.out.fr hf3 (fun b hb => HAP.out b (by simp [hb]))) hqF hqB hc3 hqp)
    have HF3 : Hid (Fr B (fun b => b = q ∨ b = p) w w3) := HF1.out.trans' hf3 (fun b _ e => .inr e)
    clear hkq hmd hc3 hf3
    go_wp2_with fail
    go_ret
    rw [HE.out]
    exact ⟨rfl, HFIN.out.2.1, HFIN.out.1, HF3.out.trans' HFIN.out.2.2 (fun b _ e => .inl e)⟩
  · have HE := Lib.hid (noteM_bad hr)
    have he := errV_pos hr
    rw [he] at hnt
    have HEV := Lib.hid he
    generalize noteR c s.at_ { m0 with ep := s.m.ep + 1 } = r at *
    obtain ⟨c', a', n'⟩ := r
    simp only at hr hnt HE HEV
    have HNT := Lib.hid hnt
    clear hr hnt he
    go_enter Tryz.func108, Tryz.ntmps108
    go_wp2_with fail
    go_region_held3 (fun w' => (w'.cell? ⟨q, 0, none⟩ = some (.pointer (some ⟨p, 0, none⟩)) ∧ w'.cell? ⟨q, 5, none⟩ = some (.int .i64 s.at_)) ∧ w'.cell? ⟨w.heap.size, 0, none⟩ = some (.int .i64 (s.m.ep + 1)) ∧ w'.cell? ⟨w.heap.size, 1, none⟩ = some (.int .i64 m0.log) ∧ w'.cell? ⟨w.heap.size, 2, none⟩ = some (.slice B1 m0.nw.length d1) ∧ w'.cell? ⟨w.heap.size, 3, none⟩ = some (.slice B2 m0.od.length d2))
      ((first | exact HZ.out (Fr.refl _ _ _) | exact HZ.out hf3))
      ((first | (go_at_call 23; refine HNT.out.mono ?_; rintro d w3 ⟨rfl, hc3, hf3⟩)))
    have HC3 := Lib.hid hc3
    have HS3 : Hid (StoreR B w3 q p s F) := HSD.out.fr hf3 HAP.out
    have HF3 : Hid (Fr B (fun b => b = q ∨ b = p) w w3) := HF1.out.trans' hf3 (fun b _ e => .inr e)
    clear hc3 hf3
    go_wp2_with fail
    go_ret
    rw [HE.out]
    exact ⟨by rw [HEV.out]; rfl, HC3.out, HS3.out, HF3.out⟩
end Go.Proofs.YtaepdbkfaoiimabGreatDoor
/- The contracts of store.lists, Rows. Conditions: none but those that each names. -/
set_option linter.unusedVariables false
set_option linter.unusedSimpArgs false
namespace Go.Proofs.YtaepdbkfaoiimabGreatDoor
open Go.RowKit
attribute [local go_sem ↓] eql_err eql_nilerr neq_err neq_nilerr guard_err guard_nilerr guardn_err guardn_nilerr
theorem info_ents : (Tryz.prog.info? 31).map (fun i => (i.zero, i.size, i.bytes)) = some (some (.slice none 0 0), 1, 24) := by kernel_rfl
theorem one_slice (A : Option Addr) (n c : Nat) : ∀ u ∈ [Value.slice A n c], u.oneCell' = true := by
  intro u hu
  simp at hu
  subst hu
  rfl
theorem own_ty {w : World} {base : Nat} {e : TypeId} {size : Nat} {v : Value} {n : Nat} {xs : List Value} (h : w.ownsRow base e size v n xs) : ∀ g, v.ownBlock = some g → base ≤ g ∧ ∃ cs fz, w.heap[g]? = some (.cells cs e fz) := by
  intro g hg
  rcases h.2 with ⟨rfl, _⟩ | ⟨g', cap, cur, rfl, h1, h2, _⟩
  · cases hg
  · cases hg
    exact ⟨h1, cur, _, h2⟩
/-- The tables' blocks, put together, where the store lies as it did. -/
theorem concat_store {B q p : Nat} {s : SM} {F : List Nat} {w W : World} {A1 A2 : Option Addr} {c1 c2 : Nat} (hn : Ints B w (.slice A1 s.m.nw.length c1) s.m.nw) (ho : Ints B w (.slice A2 s.m.od.length c2) s.m.od) (hb : Below w.heap.size w W) (h1 : s.m.nw.length ≤ 1000) (h2 : s.m.od.length ≤ 1000) :
    Calls Tryz.prog 49 #[.slice (some ⟨W.heap.size, 0, none⟩) 2 2] (W.alloc (.cells #[.slice A1 s.m.nw.length c1, .slice A2 s.m.od.length c2] 72)).drew fun e w3 => ∃ v3, e = .returned v3 ∧ Ints B w3 v3 (s.m.nw ++ s.m.od) ∧ Below w.heap.size w w3 ∧ Below W.heap.size W w3 := by
  have hbc : Below W.heap.size W (W.alloc (.cells #[.slice A1 s.m.nw.length c1, .slice A2 s.m.od.length c2] 72)).drew := ((Below.refl _ _).alloc (Nat.le_refl _) _).drew
  have hB : Below w.heap.size w (W.alloc (.cells #[.slice A1 s.m.nw.length c1, .slice A2 s.m.od.length c2] 72)).drew := hb.trans (hbc.mono hb.size)
  have gc : Blk (W.alloc (.cells #[.slice A1 s.m.nw.length c1, .slice A2 s.m.od.length c2] 72)).drew W.heap.size 72 #[.slice A1 s.m.nw.length c1, .slice A2 s.m.od.length c2] := Blk.drewN (Blk.new W 72 #[.slice A1 s.m.nw.length c1, .slice A2 s.m.od.length c2]) 1
  refine (concat_rd B _ _ _ s.m.nw s.m.od _ gc (hn.below hB) (ho.below hB) (by omega) (by omega)).mono ?_
  rintro e w3 ⟨v3, h3, h4, h5⟩
  have h5' : Below W.heap.size W w3 := hbc.trans (h5.mono (by simp))
  exact ⟨v3, h3, h4, hb.trans (h5'.mono hb.size), h5'⟩
set_option maxRecDepth 20000 in
set_option maxHeartbeats 4000000 in
theorem lists_any (B : Nat) (q p : Nat) (c : Chip) (s : SM) (F : List Nat) (w : World) (h : StoreR B w q p s F) (hc : ChipR B w p c) (hi : Inv c s) :
    Calls Tryz.prog 103 #[.pointer (some ⟨q, 0, none⟩)] w fun e w' => ∃ v, e = .returned (.tuple #[v, .nilIface]) ∧ Lss B w' v (s.mem :: s.tabs) ∧ Below w.heap.size w w' := by
  have fin : ∀ (wr : World) (tmps : Array Value) (v : Value), Lss B wr v (s.mem :: s.tabs) → Below w.heap.size w wr → tmps[2]? = some v → tmps[3]? = some .nilIface →
      bodyPost Tryz.prog Tryz.f103 (fun e w' => ∃ v, e = .returned (.tuple #[v, .nilIface]) ∧ Lss B w' v (s.mem :: s.tabs) ∧ Below w.heap.size w w') .ret { tmps := tmps, defers := [] } wr := by
    intro wr tmps v hv hb t2 t3
    exact bodyPost_ret (v := .tuple #[v, .nilIface]) (by simp [results, Tryz.results103, go_sem, t2, t3]) rfl ⟨v, rfl, hv, hb⟩
  have FIN := Lib.hid fin
  clear fin
  have hlt := h.lt
  have hn5 := hi.body.nwl
  have ho3 := hi.body.odl
  have hml := Fallen.mem_len hi
  have hrng := hi.body.rng
  have HUP := Lib.hid hi.up
  have HTB := Lib.hid hi.body.tabs
  have HCR := Lib.hid hc
  have HRN : Hid (∀ b ∈ s.m.nw ++ s.m.od, 2 ≤ b ∧ b < 24) := fun b hb => hrng b (by simp only [Man.all, List.mem_cons]; exact .inr hb)
  have hbl : (s.m.nw ++ s.m.od).length ≤ 8 := by rw [List.length_append]; omega
  have hBw : B ≤ w.heap.size := Nat.le_of_lt (Nat.lt_of_le_of_lt h.base hlt)
  obtain ⟨bs, hbs⟩ : ∃ bs, bs = s.m.nw ++ s.m.od := ⟨_, rfl⟩
  rw [← hbs] at HTB HRN hbl
  have HBS := Lib.hid hbs
  clear hbs
  obtain ⟨A1, c1, A2, c2, t, n, hk, hn, ho, ht, _, _⟩ := h
  have HN := Lib.hid hn
  have HO := Lib.hid ho
  have x0 := hk.cell 0
  have x3 := hk.cell 3
  have x4 := hk.cell 4
  have x6 := hk.cell 6
  simp at x0 x3 x4 x6
  have HC : Hid (∀ w' : World, Below w.heap.size w w' → (w'.cell? ⟨q, 3, none⟩ = some (.slice A1 s.m.nw.length c1) ∧ w'.cell? ⟨q, 4, none⟩ = some (.slice A2 s.m.od.length c2)) ∧ Below w.heap.size w w') := fun w' hb =>
    ⟨⟨(hb.cell (p := ⟨q, 3, none⟩) hlt).trans x3, (hb.cell (p := ⟨q, 4, none⟩) hlt).trans x4⟩, hb⟩
  have HC0 : Hid (∀ w' : World, Below w.heap.size w w' → w'.cell? ⟨q, 0, none⟩ = some (.pointer (some ⟨p, 0, none⟩))) := fun w' hb => (hb.cell (p := ⟨q, 0, none⟩) hlt).trans x0
  have HALL := Lib.hid (tall_any B t s.mem F w ht (by omega))
  clear hrng hi hc hk hn ho ht x0 x3 x4
  go_enter Tryz.func103, Tryz.ntmps103
  go_wp2_with fail
  refine HALL.out.mono ?_
  rintro e w1 ⟨v1, rfl, hv1, hb1⟩
  obtain ⟨A0, c0, rfl, _, _, _⟩ := hv1.form
  have HV1 := Lib.hid hv1
  have HB1 := Lib.hid hb1
  clear hv1 hb1 HALL
  have hs1 := HB1.out.size
  have HB2 : Hid (Below w.heap.size w (w1.alloc (.cells #[.slice A0 s.mem.length c0] 31))) := HB1.out.alloc hs1 _
  have HOW : Hid ((w1.alloc (.cells #[.slice A0 s.mem.length c0] 31)).ownsRow w.heap.size 31 1 (.slice (some ⟨w1.heap.size, 0, none⟩) 1 1) 1 [.slice A0 s.mem.length c0]) := own_one (Blk.new w1 _ _) hs1
  have HV2 : Hid (Ents B (w1.alloc (.cells #[.slice A0 s.mem.length c0] 31)) (.slice A0 s.mem.length c0) s.mem) := HV1.out.below ((Below.refl _ _).alloc (Nat.le_refl _) _)
  have hsz2 : (w1.alloc (.cells #[.slice A0 s.mem.length c0] 31)).heap.size = w1.heap.size + 1 := by simp
  have hCC := concat_store (q := q) (p := p) (F := F) HN.out HO.out HB2.out (by omega) (by omega)
  rw [hsz2, ← HBS.out] at hCC
  have HCC := Lib.hid hCC
  have HB2D : Hid (Below w.heap.size w (w1.alloc (.cells #[.slice A0 s.mem.length c0] 31)).drew) := HB2.out.drew
  clear hCC hsz2 HV1 HB1
  go_wp2_with fail
  go_region_held3 (fun w' => (w'.cell? ⟨q, 3, none⟩ = some (.slice A1 s.m.nw.length c1) ∧ w'.cell? ⟨q, 4, none⟩ = some (.slice A2 s.m.od.length c2)) ∧ Below w.heap.size w w')
    ((first | exact HC.out _ HB2D.out | exact HC.out _ hB3 | exact HC.out _ (HB2.out.alloc HB2.out.size _).drew))
    ((first | (go_at_call 49; refine HCC.out.mono ?_; rintro e w3 ⟨v3, rfl, hi3, hB3, hBW⟩; obtain ⟨A3, c3, rfl, k5, k6, kc⟩ := hi3.form)))
  have HI3 := Lib.hid hi3
  have HB3 := Lib.hid hB3
  have HTL : Hid (bs.length = s.tabs.length) := tabsAt_len HTB.out
  have hBW : Below (w1.alloc (.cells #[.slice A0 s.mem.length c0] 31)).heap.size (w1.alloc (.cells #[.slice A0 s.mem.length c0] 31)) w3 := by rw [World.size_alloc]; exact hBW
  have HO3 : Hid (w3.ownsRow w.heap.size 31 1 (.slice (some ⟨w1.heap.size, 0, none⟩) 1 1) 1 [.slice A0 s.mem.length c0]) := own_below HOW.out hBW
  have HV3 : Hid (Ents B w3 (.slice A0 s.mem.length c0) s.mem) := HV2.out.below hBW
  clear hi3 hB3 hBW kc HC HN HO HB2 HB2D HCC HOW HV2
  go_wp2_with fail
  go_loopw [4, 28] (fun u i wr => ∃ (k : Nat) (vs : List Value), k ≤ bs.length ∧ i = .int .i64 (k : Int) ∧ Hid (wr.ownsRow w.heap.size 31 1 u (k + 1) vs) ∧ Hid (vs.length = k + 1 ∧ ∀ (i : Nat) (x : Value) (l : List Ent), vs[i]? = some x → (s.mem :: s.tabs)[i]? = some l → Ents B wr x l) ∧ Hid (Ints B wr (.slice A3 bs.length c3) bs) ∧ Below w.heap.size w wr) (fun _ i _ => bs.length - (intOf i).toNat)
  case atStart =>
    refine ⟨0, [.slice A0 s.mem.length c0], Nat.zero_le _, rfl, HO3.out, ⟨rfl, fun i x l hx hl => ?_⟩, HI3.out, HB3.out⟩
    cases i with
    | zero => simp at hx hl; subst hx; subst hl; exact HV3.out
    | succ i => simp at hx
  case round =>
    obtain ⟨k, vs, hk, rfl, hown, hvs, hi4, hbl4⟩ := hrel
    clear HI3 HB3 HO3 HV3
    by_cases hlt : k < bs.length
    · obtain ⟨x, hx, _, _⟩ := getElem?_of_lt hlt
      obtain ⟨l, hl, htab⟩ := tabsAt_at HTB.out k x hx
      have hxr := HRN.out x (List.mem_of_getElem? hx)
      obtain ⟨xn, rfl⟩ := Int.eq_ofNat_of_zero_le (show 0 ≤ x by omega)
      rw [Int.toNat_natCast] at htab
      obtain ⟨A4, c4, e4, _, _, hcell⟩ := hi4.out.form
      obtain ⟨bb, oo, rfl, hbb, y1⟩ := hcell k _ hx
      cases e4
      have HT := Lib.hid (taball_any B p xn c l wr (HCR.out.below hbl4) (by omega) HUP.out htab)
      have HL := Lib.hid hl
      have x0 := HC0.out wr hbl4
      have HB4 := Lib.hid hbl4
      have hs4 := hbl4.size
      obtain ⟨i0, hi, hz0, hz1, hz2⟩ := info_parts info_ents
      have g1 : (0 : Int) ≤ (k : Int) := by omega
      have g2 : (k : Int) < (bs.length : Int) := by omega
      clear hx hl htab hcell hxr hbl4
      go_wp2_with (first
        | (go_at_call 50; refine HT.out.mono ?_; rintro e5 w5 ⟨v5, rfl, hv5, hb5⟩; obtain ⟨A5, c5, rfl, _, _, _⟩ := hv5.form; have HV5 := Lib.hid hv5; have HB5 := Lib.hid hb5; have HOW5 := Lib.hid (own_below hown.out hb5); clear hv5 hb5; have hs5 := HB5.out.size)
        | (at_builtin; go_loud (refine wpList_append_rd _ rfl (.tmp 44) (.tmp 46) 150 rfl w.heap.size 31 i0 (.slice none 0 0) 1 24 Tryz.underlying150 hi hz0 hz1 hz2 rfl (by decide) u4 (k + 1) vs rfl (own_alloc HOW5.out (.cells #[.slice A5 l.length c5] 31)) B 31 (.slice (some ⟨w5.heap.size, 0, none⟩) 1 1) 1 [.slice A5 l.length c5] rfl (Rd.of_own (base := 0) (own_one (Blk.new w5 _ _) (Nat.zero_le _))) (one_slice _ _ _) (by unfold maxLen; omega) (by omega) (by simp; omega) ?_); intro v6 w6 hown6 hg6 hat6))
      have hbA : Below wr.heap.size wr (w5.alloc (.cells #[.slice A5 l.length c5] 31)) := HB5.out.alloc hs5 _
      have hownA := own_alloc HOW5.out (.cells #[.slice A5 l.length c5] 31)
      have hgr : ∀ g, u4.ownBlock = some g → g < (w5.alloc (.cells #[.slice A5 l.length c5] 31)).heap.size → B ≤ g ∧ ∃ cs T' fz, (w5.alloc (.cells #[.slice A5 l.length c5] 31)).heap[g]? = some (.cells cs T' fz) ∧ T' = 31 := fun g hg _ => by
        obtain ⟨h1, cs, fz, h2⟩ := own_ty hownA g hg
        exact ⟨by omega, cs, _, fz, h2, rfl⟩
      have hki : ∀ {y : Value} {m : List Int}, Ints B (w5.alloc (.cells #[.slice A5 l.length c5] 31)) y m → Ints B w6 y m := fun {y m} h => Rd.grown h hg6 (fun g hg hlt => by obtain ⟨h1, cs, T', fz, h2, h3⟩ := hgr g hg hlt; exact ⟨h1, cs, T', fz, h2, by rw [h3]; decide⟩)
      have hke : ∀ {y : Value} {m : List Ent}, Ents B (w5.alloc (.cells #[.slice A5 l.length c5] 31)) y m → Ents B w6 y m := fun {y m} h => ⟨Rd.grown h.1 hg6 (fun g hg hlt => by obtain ⟨h1, cs, T', fz, h2, h3⟩ := hgr g hg hlt; exact ⟨h1, cs, T', fz, h2, by rw [h3]; decide⟩), h.2⟩
      have HI6 : Hid (Ints B w6 (.slice (some ⟨bb, oo, none⟩) bs.length c3) bs) := hki (hi4.out.below hbA)
      have HVS6 : Hid ((vs ++ [Value.slice A5 l.length c5]).length = k + 1 + 1 ∧ ∀ (i : Nat) (x : Value) (l' : List Ent), (vs ++ [Value.slice A5 l.length c5])[i]? = some x → (s.mem :: s.tabs)[i]? = some l' → Ents B w6 x l') := by
        refine ⟨by rw [List.length_append, hvs.out.1]; rfl, fun i x l' hx hl' => ?_⟩
        rcases Nat.lt_or_ge i (k + 1) with hik | hik
        · rw [List.getElem?_append_left (by rw [hvs.out.1]; exact hik)] at hx
          exact hke ((hvs.out.2 i x l' hx hl').below hbA)
        · have : i = k + 1 := by
            rcases Nat.lt_or_ge i (k + 2) with h | h
            · omega
            · rw [List.getElem?_eq_none (by rw [List.length_append, hvs.out.1]; exact h)] at hx; cases hx
          subst this
          rw [List.getElem?_append_right (by rw [hvs.out.1]; omega), hvs.out.1, Nat.sub_self] at hx
          simp at hx
          subst hx
          rw [List.getElem?_cons_succ, HL.out] at hl'
          cases hl'
          exact hke (HV5.out.below ((Below.refl _ _).alloc (Nat.le_refl _) _))
      have HB6 : Hid (Below w.heap.size w w6) := below_own (HB4.out.trans (hbA.mono hs4)) (Nat.le_refl _) hownA hg6
      have HOW6 := Lib.hid hown6
      clear hbA hownA hgr hki hke hi hz0 hz1 hz2 hown6 hg6 hat6
      go_wp2_with fail
      go_roundw
      case rel => exact ⟨k + 1, _, by omega, by go_num, HOW6, HVS6, HI6, HB6.out⟩
      case measure => simp [intOf] <;> omega
    · have g2 : decide ((k : Int) < (bs.length : Int)) = false := decide_eq_false (by omega)
      have hk' : k = bs.length := by omega
      have hvl := hvs.out.1
      have htl := HTL.out
      have HLS : Hid (Lss B wr u4 (s.mem :: s.tabs)) := ⟨vs, by rw [hvl, List.length_cons]; omega, by have := Rd.of_own (B := B) hown.out; rw [show k + 1 = (s.mem :: s.tabs).length from by rw [List.length_cons]; omega] at this; exact this, hvs.out.2⟩
      clear hk' hvl htl
      go_wp2_with fail
      exact FIN.out _ _ _ HLS.out hbl4 rfl rfl
end Go.Proofs.YtaepdbkfaoiimabGreatDoor
