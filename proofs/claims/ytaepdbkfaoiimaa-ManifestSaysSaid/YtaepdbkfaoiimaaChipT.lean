/- Write, Erase and Restart of the chip. Conditions: none but the sizes of any memory. -/
import Derived.Test.YtaepdbkfaoiimaaChipS
import Derived.Test.YtaepdbkfaoiimaaShelf
import Derived.Deep.RegionWith
import Derived.Deep.DeepCutAuto
import Derived.IntWalk
set_option linter.unusedVariables false
set_option linter.unusedSimpArgs false
namespace Go.Proofs.Ytaepdbkfaoiimaa
open Go.RowKit
attribute [local go_sem] hmf

/-- n noughts. -/
def zpad (n : Nat) : ByteArray := ⟨(List.replicate n 0).toArray⟩
theorem repeat_zero (n : Int) (h0 : 0 ≤ n) (h1 : n ≤ 64) (w : World) :
    Calls Try.prog 89 #[.string ⟨#[0]⟩, .int .i64 n] w fun e w' => e = .returned (.string (zpad n.toNat)) ∧ Below w.heap.size w w' := by
  obtain ⟨k, rfl⟩ := Int.eq_ofNat_of_zero_le h0
  have e : ∀ k : Nat, Lib.repeatL [(0 : UInt8)] k = List.replicate k 0 := fun k => by
    induction k with
    | zero => rfl
    | succ k ih => rw [Lib.repeatL, ih]; rfl
  have h := Try.strings_Repeat ⟨#[0]⟩ k w (by omega) (by have : ByteArray.size ⟨#[0]⟩ = 1 := rfl; rw [this]; omega)
  rw [show ByteArray.data ⟨#[0]⟩ = #[(0 : UInt8)] from rfl, show (#[(0 : UInt8)]).toList = [0] from rfl, e] at h
  rw [Int.toNat_natCast]
  exact h
theorem zpad_size (n : Nat) : (zpad n).size = n := by simp [zpad, ByteArray.size]
theorem pad_eq (d : ByteArray) : d ++ zpad (64 - d.size) = pad d := by
  apply ByteArray.ext
  simp [pad, zpad, ByteArray.data_append]
theorem UndoR.like' {w : World} {p : Nat} {c c' : Chip} {u : Value} {o : Option Pend} (h : UndoR w p c u o) (hl : ∀ b, (c'.b b).l.length = (c.b b).l.length) : UndoR w p c' u o := h.like hl
set_option maxRecDepth 20000 in
set_option maxHeartbeats 4000000 in
theorem cwrite_go (B p n : Nat) (c : Chip) (d : ByteArray) (w : World) (h : ChipR B w p c) (hn : n < 24) (hd : c.down = false) (hb : (c.b n).bad = false) (hs : d.size ≤ 64) (hl : (c.b n).l.length < 8) (hw : (c.b n).weak = false) :
    Calls Try.prog 45 #[.pointer (some ⟨p, 0, none⟩), .int .i64 n, .string d] w fun e w' => e = .returned (errV (c.step (.wr n (pad d))).2) ∧ ChipR B w' p (c.step (.wr n (pad d))).1 ∧ Fr B (· = p) w w' := by
  have hrd : c.ready n = 0 := by unfold Chip.ready; rw [hd, if_neg (by simp), if_neg (by omega), Int.toNat_natCast, hb, if_neg (by simp)]
  have HRD := Lib.hid (ready_any B p c n (w.alloc (.cells #[.string d] 9)) (h.below ((Below.refl _ _).alloc (Nat.le_refl _) _)))
  rw [hrd, show errV 0 = Value.nilIface from rfl] at HRD
  have hsp : c.spoil n = c := by unfold Chip.spoil; rw [hw]; rfl
  have HSP := Lib.hid (spoil_any B p c n (w.alloc (.cells #[.string d] 9)) (h.below ((Below.refl _ _).alloc (Nat.le_refl _) _)) hn hd hb)
  rw [hsp, hw] at HSP
  have HN0 := Lib.hid h.wf.down
  have HD0 := Lib.hid hd
  have HP0 := Lib.hid h.lt
  have HR := Lib.hid h
  obtain ⟨V, u, hv, hu, hwf⟩ := h
  obtain ⟨A, cap, hV, k2, k3, kA, kX⟩ := sheets_form (hv.rows n hn)
  have c1 := ((hv.below ((Below.refl _ _).alloc (Nat.le_refl _) (.cells #[.string d] 9))).cell hn).1
  rw [hV] at c1
  have HWF := Lib.hid hwf
  clear hv hu hV hwf hrd hsp hb hw hd kA kX
  have t1 : decide (64 < (d.size : Int)) = false := decide_eq_false (by omega)
  have t2 : (((c.b n).l.length : Int) == 8) = false := by rw [beq_eq_false_iff_ne]; omega
  go_enter Try.func45, Try.ntmps45
  go_wp2_with fail
  refine HRD.out.mono ?_
  rintro e w1 ⟨rfl, rfl⟩
  clear HRD
  go_wp2_with fail
  refine HSP.out.mono ?_
  rintro e w1 ⟨rfl, hr1, hf1⟩
  obtain ⟨V1, u1, hv1, hu1, kY⟩ := hr1
  clear kY
  obtain ⟨A1, cap1, hV1, k4, k5, kA, kX⟩ := sheets_form (hv1.rows n hn)
  have c2 := (hv1.cell hn).1
  rw [hV1] at c2
  have hd1 : Hid (Blk w1 w.heap.size 9 #[.string d]) := ((Blk.new w 9 #[.string d]).fr hf1 (.inr (.inr (by decide))))
  have d0 := hd1.out.cell 0
  have d1 := hd1.out.frozen 0
  simp at d0
  have l1 := hv1.blk.lt
  have l2 := hd1.out.lt
  have HV1 := Lib.hid hv1
  have HU1 := Lib.hid hu1
  have HF1 : Hid (Fr B (· = p) w w1) := (((Fr.refl B (· = p) w).alloc (.cells #[.string d] 9)).trans' hf1 (fun _ _ h => h))
  clear hv1 hu1 hV1 HSP c1 hf1 kA kX
  go_wp2_with fail
  have hB2 : Below w1.heap.size w1 ((w1.alloc (.cells #[.pointer (some ⟨p, n * 4, none⟩)] 146)).alloc (.cells #[.int .i64 (c.b n).l.length] 3)) := ((Below.refl _ _).alloc (Nat.le_refl _) _).alloc (by simp) _
  have hx1 := (Blk.new w1 146 #[.pointer (some ⟨p, n * 4, none⟩)]).alloc (.cells #[.int .i64 (c.b n).l.length] 3)
  have hx2 := Blk.new (w1.alloc (.cells #[.pointer (some ⟨p, n * 4, none⟩)] 146)) 3 #[.int .i64 (c.b n).l.length]
  rw [World.size_alloc] at hx2
  have hx3 := hd1.out.below hB2 hd1.out.lt
  have hv2 := HV1.out.below hB2
  have hu2 := HU1.out.keep (Fr.of_below (B := B) (M := fun _ => False) hB2)
  have hf2 : Fr B (· = p) w ((w1.alloc (.cells #[.pointer (some ⟨p, n * 4, none⟩)] 146)).alloc (.cells #[.int .i64 (c.b n).l.length] 3)) := HF1.out.trans (Fr.of_below hB2) (fun _ _ => trivial)
  generalize (w1.alloc (.cells #[.pointer (some ⟨p, n * 4, none⟩)] 146)).alloc (.cells #[.int .i64 (c.b n).l.length] 3) = w2 at *
  have HX1 := Lib.hid hx1
  have HX2 := Lib.hid hx2
  have HX3 := Lib.hid hx3
  have HV2 := Lib.hid hv2
  have HU2 := Lib.hid hu2
  have HF2 := Lib.hid hf2
  have l0 : w.heap.size ≤ w2.heap.size := hf2.size
  have y0 := hx3.cell 0
  have y1 := hx3.frozen 0
  have y2 := hx3.lt
  simp at y0
  clear hx1 hx2 hx3 hv2 hu2 hf2 HV1 HU1 HF1 hd1 c2 d0 d1 hB2 l1
  generalize hbx : w1.heap.size = bx at *
  generalize hbd : w.heap.size = bd at *
  clear hbx
  go_cut [] from 48 to 53 (fun wx => ∃ w3, Below w2.heap.size w2 w3 ∧ wx = w3.setCell ⟨bd, 0, none⟩ (.string (pad d)))
  case first =>
    have g1 : IntKind.i64.wrap (64 - (d.size : Int)) = 64 - (d.size : Int) := IntWalk.i64_in _ (by omega)
    have HP := Lib.hid (pad_eq d)
    have z1 : (zpad (64 - d.size)).size = 64 - d.size := zpad_size _
    have z2 : (64 - (d.size : Int)).toNat = 64 - d.size := by omega
    have HB3 : Hid (Below w2.heap.size w2 w2.drew) := (Below.refl _ _).drew
    go_region_with ((go_at_call 89; refine (repeat_zero _ (by omega) (by omega) _).mono ?_; rintro e w3 ⟨rfl, hb3⟩; have y3 := (hb3.cell (p := ⟨bd, 0, none⟩) y2).trans y0; have y4 := (hb3.frozen (p := ⟨bd, 0, none⟩) y2).trans y1; have HB4 : Hid (Below w2.heap.size w2 w3) := HB3.out.trans hb3; clear hb3))
    all_goals (go_wp2_with fail; go_meet; exact ⟨w3, HB4.out, by rw [← HP.out]⟩)
  case rest =>
    obtain ⟨w3, hb3, rfl⟩ := hcut
    have hlt := HV2.out.blk.lt
    have hpd : p ≠ bd := fun e => blk_ne HV2.out.blk (by rw [e]; exact HX3.out) (by decide)
    have hBd : B ≤ bd := by have := HV2.out.base; have := HP0.out; omega
    have hv3 := HV2.out.below hb3
    have hv4 : ChipV B (w3.setCell ⟨bd, 0, none⟩ (.string (pad d))) p V1 c u1 :=
      ⟨hv3.blk.far (p := ⟨bd, 0, none⟩) hpd _, fun b hb => (hv3.rows b hb).far (HX3.out.below hb3 HX3.out.lt) hBd (by decide) _, hv3.base⟩
    have hx1 : Blk (w3.setCell ⟨bd, 0, none⟩ (.string (pad d))) bx 146 #[.pointer (some ⟨p, n * 4, none⟩)] := (HX1.out.below hb3 HX1.out.lt).far (p := ⟨bd, 0, none⟩) (by show bx ≠ bd; omega) _
    have hx2 : Blk (w3.setCell ⟨bd, 0, none⟩ (.string (pad d))) (bx + 1) 3 #[.int .i64 (c.b n).l.length] := (HX2.out.below hb3 HX2.out.lt).far (p := ⟨bd, 0, none⟩) (by show bx + 1 ≠ bd; omega) _
    have hx3 : Blk (w3.setCell ⟨bd, 0, none⟩ (.string (pad d))) bd 9 #[.string (pad d)] := (HX3.out.below hb3 HX3.out.lt).set_ 0 _
    have hf4 : Fr B (· = p) w (w3.setCell ⟨bd, 0, none⟩ (.string (pad d))) := (HF2.out.trans (Fr.of_below hb3) (fun _ _ => trivial)).setCell hBd (.inr (by show w.heap.size ≤ bd; omega)) (fun h => absurd h (by show ¬ bd < w.heap.size; omega)) _
    generalize w3.setCell ⟨bd, 0, none⟩ (.string (pad d)) = w4 at *
    have hu : u1 = .nilFunc := by
      have h1 := HN0.out
      rw [HD0.out] at h1
      have h2 : c.pend = none := by simpa using h1
      have h3 := HU2.out
      rw [h2] at h3
      exact h3
    have hwf' := HWF.out.step_ HD0.out (p := .wr n (pad d)) ⟨hn, pad_size hs, hl⟩
    have hfz := HWF.out.fuse
    have HX1' := Lib.hid hx1
    have HX2' := Lib.hid hx2
    have HX3' := Lib.hid hx3
    have HV4 := Lib.hid hv4
    have HF4 := Lib.hid hf4
    have HW' := Lib.hid hwf'
    have HFZ := Lib.hid hfz
    have HUN := Lib.hid hu
    clear hx1 hx2 hx3 hv4 hv3 hf4 hwf' hfz HX1 HX2 HX3 HV2 HF2 HU2 hb3 hu hlt hpd hBd
    by_cases hf : c.fuse = 0
    · have E : Hid (c.step (.wr n (pad d)) = ({ c with down := true, pend := some (.wr n (pad d)) }, 9)) := if_pos hf
      have HS := Lib.hid (step_fall B p V1 c u1 91 92 #[.pointer (some ⟨bx, 0, none⟩), .pointer (some ⟨bx + 1, 0, none⟩), .pointer (some ⟨bd, 0, none⟩)] #[.pointer (some ⟨bx, 0, none⟩), .pointer (some ⟨bx + 1, 0, none⟩)] w4 HV4.out hf)
      clear hf
      go_wp2_with fail
      refine HS.out.mono ?_
      rintro e w5 ⟨rfl, hq, hf5⟩
      have HQ := Lib.hid hq
      have HF5 := Lib.hid hf5
      clear hq hf5 HS
      go_wp2_with fail
      go_ret
      rw [E.out] at HW' ⊢
      obtain ⟨qh, qd, q1, q2, q3⟩ := HQ.out
      exact ⟨rfl, ⟨V1, _, ⟨q1.blk, q1.rows, q1.base⟩, ⟨qh, qd, bx, bx + 1, bd, rfl, q2, q3, HX1'.out.fr HF5.out (.inr (.inr (by decide))), HX2'.out.fr HF5.out (.inr (.inr (by decide))), HX3'.out.fr HF5.out (.inr (.inr (by decide)))⟩, HW'.out⟩, HF4.out.trans HF5.out (fun _ _ => trivial)⟩
    · have E : Hid (c.step (.wr n (pad d)) = (doP { c with fuse := if 0 < c.fuse then c.fuse - 1 else c.fuse } (.wr n (pad d)), 0)) := if_neg hf
      have HS := Lib.hid (step_go B p V1 c u1 91 92 #[.pointer (some ⟨bx, 0, none⟩), .pointer (some ⟨bx + 1, 0, none⟩), .pointer (some ⟨bd, 0, none⟩)] #[.pointer (some ⟨bx, 0, none⟩), .pointer (some ⟨bx + 1, 0, none⟩)] w4
        (fun w5 => ∃ V', ChipV B w5 p V' (doP { c with fuse := if 0 < c.fuse then c.fuse - 1 else c.fuse } (.wr n (pad d))) u1) (enters_of Try.func91 (by kernel_rfl) rfl) HV4.out hf HFZ.out.1 HFZ.out.2
        (fun w5 hv5 hf5 => write1_any B p n bx (bx + 1) bd V1 { c with fuse := if 0 < c.fuse then c.fuse - 1 else c.fuse } u1 (pad d) w5 hv5 hn hl (HX1'.out.fr hf5 (.inr (.inr (by decide)))) (HX2'.out.fr hf5 (.inr (.inr (by decide)))) (HX3'.out.fr hf5 (.inr (.inr (by decide))))))
      clear hf
      go_wp2_with fail
      refine HS.out.mono ?_
      rintro e w5 ⟨rfl, hq, hf5⟩
      have HQ := Lib.hid hq
      have HF5 := Lib.hid hf5
      clear hq hf5 HS
      go_wp2_with fail
      go_ret
      rw [E.out] at HW' ⊢
      obtain ⟨V', q1⟩ := HQ.out
      have hn0 : c.pend = none := by
        have h1 := HN0.out
        rw [HD0.out] at h1
        simpa using h1
      exact ⟨rfl, ⟨V', u1, q1, by rw [(doP_pend _ _).1]; show UndoR _ _ _ _ c.pend; rw [hn0]; exact HUN.out, HW'.out⟩, HF4.out.trans HF5.out (fun _ _ => trivial)⟩
set_option maxRecDepth 20000 in
set_option maxHeartbeats 4000000 in
theorem cwrite_any (B p : Nat) (c : Chip) (b : Int) (d : ByteArray) (w : World) (h : ChipR B w p c) (hs : d.size ≤ 9223372036854775807) :
    Calls Try.prog 45 #[.pointer (some ⟨p, 0, none⟩), .int .i64 b, .string d] w fun e w' => e = .returned (errV (c.write b d).2) ∧ ChipR B w' p (c.write b d).1 ∧ Fr B (· = p) w w' := by
  have hb0 : Below w.heap.size w (w.alloc (.cells #[.string d] 9)) := (Below.refl _ _).alloc (Nat.le_refl _) _
  have hr0 := h.below hb0
  have hf0 : Fr B (· = p) w (w.alloc (.cells #[.string d] 9)) := (Fr.refl _ _ _).alloc _
  by_cases hrd : c.ready b = 0
  · obtain ⟨hd, h0, h1, hbad⟩ := ready_zero hrd
    obtain ⟨n, rfl⟩ := Int.eq_ofNat_of_zero_le h0
    rw [Int.toNat_natCast] at hbad
    have hn : n < 24 := by omega
    by_cases h64 : 64 < d.size
    · have E : Hid (c.write n d = (c, 2)) := by rw [Hid, Chip.write, if_neg (by rw [hrd]; simp), if_pos h64]
      have HRD := Lib.hid (ready_any B p c n (w.alloc (.cells #[.string d] 9)) hr0)
      rw [hrd, show errV 0 = Value.nilIface from rfl] at HRD
      have HR0 := Lib.hid hr0
      have HF0 := Lib.hid hf0
      have t1 : decide (64 < (d.size : Int)) = true := decide_eq_true (by omega)
      clear h hb0 hr0 hf0 hrd hd hbad
      go_enter Try.func45, Try.ntmps45
      go_wp2_with fail
      refine HRD.out.mono ?_
      rintro e w1 ⟨rfl, rfl⟩
      clear HRD
      go_wp2_with fail
      go_ret
      rw [E.out]
      exact ⟨rfl, HR0.out, HF0.out⟩
    · have t1 : decide (64 < (d.size : Int)) = false := decide_eq_false (by omega)
      by_cases h8 : (c.b n).l.length = 8
      · have E : Hid (c.write n d = (c, 6)) := by rw [Hid, Chip.write, if_neg (by rw [hrd]; simp), if_neg h64, Int.toNat_natCast, if_pos h8]
        have HRD := Lib.hid (ready_any B p c n (w.alloc (.cells #[.string d] 9)) hr0)
        rw [hrd, show errV 0 = Value.nilIface from rfl] at HRD
        have HR0 := Lib.hid hr0
        have HF0 := Lib.hid hf0
        obtain ⟨V, u, hv, hu, hwf⟩ := hr0
        obtain ⟨A, cap, hV, k2, k3, kA, kX⟩ := sheets_form (hv.rows n hn)
        have c1 := (hv.cell hn).1
        rw [hV] at c1
        have t2 : (((c.b n).l.length : Int) == 8) = true := by rw [h8]; rfl
        clear h hb0 hf0 hrd hd hbad hv hu hwf hV kA kX h8
        go_enter Try.func45, Try.ntmps45
        go_wp2_with fail
        refine HRD.out.mono ?_
        rintro e w1 ⟨rfl, rfl⟩
        clear HRD
        go_wp2_with fail
        go_ret
        rw [E.out]
        exact ⟨rfl, HR0.out, HF0.out⟩
      · cases hw : (c.b n).weak
        · have E : c.write n d = c.step (.wr n (pad d)) := by
            rw [Chip.write, if_neg (by rw [hrd]; simp), if_neg h64, Int.toNat_natCast, if_neg h8, hw, if_neg (by simp)]
          rw [E]
          have := h.wf.len n hn
          exact cwrite_go B p n c d w h hn hd hbad (by omega) (by omega) hw
        · have E : Hid (c.write n d = (c.spoil n, 7)) := by
            rw [Hid, Chip.write, if_neg (by rw [hrd]; simp), if_neg h64, Int.toNat_natCast, if_neg h8, if_pos hw]
          have HRD := Lib.hid (ready_any B p c n (w.alloc (.cells #[.string d] 9)) hr0)
          rw [hrd, show errV 0 = Value.nilIface from rfl] at HRD
          have HSP := Lib.hid (spoil_any B p c n (w.alloc (.cells #[.string d] 9)) hr0 hn hd hbad)
          rw [hw] at HSP
          have HF0 := Lib.hid hf0
          obtain ⟨V, u, hv, hu, hwf⟩ := hr0
          obtain ⟨A, cap, hV, k2, k3, kA, kX⟩ := sheets_form (hv.rows n hn)
          have c1 := (hv.cell hn).1
          rw [hV] at c1
          have t2 : (((c.b n).l.length : Int) == 8) = false := by rw [beq_eq_false_iff_ne]; omega
          clear h hb0 hf0 hrd hd hbad hv hu hwf hV kA kX h8 hw
          go_enter Try.func45, Try.ntmps45
          go_wp2_with fail
          refine HRD.out.mono ?_
          rintro e w1 ⟨rfl, rfl⟩
          clear HRD
          go_wp2_with fail
          refine HSP.out.mono ?_
          rintro e w1 ⟨rfl, hr1, hf1⟩
          have HR1 := Lib.hid hr1
          have HF1 := Lib.hid hf1
          clear hr1 hf1 HSP
          go_wp2_with fail
          go_ret
          rw [E.out]
          exact ⟨rfl, HR1.out, HF0.out.trans HF1.out (fun _ _ => trivial)⟩
  · have E : Hid (c.write b d = (c, c.ready b)) := if_pos hrd
    have e1 : errV (c.ready b) = .iface 137 (.int .i64 (c.ready b)) := if_neg hrd
    have HRD := Lib.hid (ready_any B p c b (w.alloc (.cells #[.string d] 9)) hr0)
    rw [e1] at HRD
    have E1 := Lib.hid e1
    have HR0 := Lib.hid hr0
    have HF0 := Lib.hid hf0
    clear h hb0 hr0 hf0 hrd e1
    go_enter Try.func45, Try.ntmps45
    go_wp2_with fail
    refine HRD.out.mono ?_
    rintro e w1 ⟨rfl, rfl⟩
    clear HRD
    go_wp2_with fail
    go_ret
    rw [E.out]
    exact ⟨by rw [E1.out]; rfl, HR0.out, HF0.out⟩
end Go.Proofs.Ytaepdbkfaoiimaa
