/- Erase and Restart of the chip. Conditions: none but the sizes of any memory. -/
import Derived.Test.YtaepdbkfaoiimaaChipT
set_option linter.unusedVariables false
set_option linter.unusedSimpArgs false
namespace Go.Proofs.Ytaepdbkfaoiimaa
open Go.RowKit
attribute [local go_sem] hmf

set_option maxRecDepth 20000 in
set_option maxHeartbeats 4000000 in
theorem cerase_go (B p n : Nat) (c : Chip) (w : World) (h : ChipR B w p c) (hn : n < 24) (hd : c.down = false) (hb : (c.b n).bad = false) (hw : (c.b n).weak = false) :
    Calls Try.prog 47 #[.pointer (some ⟨p, 0, none⟩), .int .i64 n] w fun e w' => e = .returned (errV (c.step (.er n)).2) ∧ ChipR B w' p (c.step (.er n)).1 ∧ Fr B (· = p) w w' := by
  have hrd : c.ready n = 0 := by unfold Chip.ready; rw [hd, if_neg (by simp), if_neg (by omega), Int.toNat_natCast, hb, if_neg (by simp)]
  have HRD := Lib.hid (ready_any B p c n w h)
  rw [hrd, show errV 0 = Value.nilIface from rfl] at HRD
  have hsp : c.spoil n = c := by unfold Chip.spoil; rw [hw]; rfl
  have HSP := Lib.hid (spoil_any B p c n w h hn hd hb)
  rw [hsp, hw] at HSP
  have hwf := h.wf
  have hwf' := hwf.step_ hd (p := .er n) hn
  have hn0 : c.pend = none := by
    have h1 := hwf.down
    rw [hd] at h1
    simpa using h1
  have HN0 := Lib.hid hn0
  have HWF := Lib.hid hwf
  have HW' := Lib.hid hwf'
  clear hrd hsp hb hw hd hwf hwf' hn0
  go_enter Try.func47, Try.ntmps47
  go_wp2_with fail
  refine HRD.out.mono ?_
  rintro e w1 ⟨rfl, rfl⟩
  clear HRD
  go_wp2_with fail
  refine HSP.out.mono ?_
  rintro e w1 ⟨rfl, hr1, hf1⟩
  obtain ⟨V1, u1, hv1, hu1, kY⟩ := hr1
  clear kY HSP
  have l1 := hv1.blk.lt
  have hB2 : Below w1.heap.size w1 (w1.alloc (.cells #[.pointer (some ⟨p, n * 4, none⟩)] 146)) := (Below.refl _ _).alloc (Nat.le_refl _) _
  have HX1 := Lib.hid (Blk.new w1 146 #[.pointer (some ⟨p, n * 4, none⟩)])
  have HV4 := Lib.hid (hv1.below hB2)
  have HU4 := Lib.hid (hu1.keep (Fr.of_below (B := B) (M := fun _ => False) hB2))
  have HF4 : Hid (Fr B (· = p) w (w1.alloc (.cells #[.pointer (some ⟨p, n * 4, none⟩)] 146))) := hf1.trans (Fr.of_below hB2) (fun _ _ => trivial)
  have HFZ := Lib.hid HWF.out.fuse
  clear hv1 hu1 hf1 hB2
  have HUN : Hid (u1 = .nilFunc) := by
    have h3 := HU4.out
    rw [HN0.out] at h3
    exact h3
  by_cases hf : c.fuse = 0
  · have E : Hid (c.step (.er n) = ({ c with down := true, pend := some (.er n) }, 9)) := if_pos hf
    have HS := Lib.hid (step_fall B p V1 c u1 95 96 #[.pointer (some ⟨w1.heap.size, 0, none⟩)] #[.pointer (some ⟨w1.heap.size, 0, none⟩)] _ HV4.out hf)
    clear hf
    go_wp2_with fail
    refine HS.out.mono ?_
    rintro e w5 ⟨rfl, hq, hf5⟩
    have HQ := Lib.hid hq
    have HF5 := Lib.hid hf5
    clear hq hf5 HS
    go_wp2_with fail
    go_ret
    rw [E.out] at HW' ⊢
    obtain ⟨qh, qd, q1, q2, q3⟩ := HQ.out
    exact ⟨rfl, ⟨V1, _, ⟨q1.blk, q1.rows, q1.base⟩, ⟨qh, qd, _, rfl, q2, q3, HX1.out.fr HF5.out (.inr (.inr (by decide)))⟩, HW'.out⟩, HF4.out.trans HF5.out (fun _ _ => trivial)⟩
  · have E : Hid (c.step (.er n) = (doP { c with fuse := if 0 < c.fuse then c.fuse - 1 else c.fuse } (.er n), 0)) := if_neg hf
    have HS := Lib.hid (step_go B p V1 c u1 95 96 #[.pointer (some ⟨w1.heap.size, 0, none⟩)] #[.pointer (some ⟨w1.heap.size, 0, none⟩)] _
      (fun w5 => ∃ V', ChipV B w5 p V' (doP { c with fuse := if 0 < c.fuse then c.fuse - 1 else c.fuse } (.er n)) u1) (enters_of Try.func95 (by kernel_rfl) rfl) HV4.out hf HFZ.out.1 HFZ.out.2
      (fun w5 hv5 hf5 => erase1_any B p n _ V1 { c with fuse := if 0 < c.fuse then c.fuse - 1 else c.fuse } u1 w5 hv5 hn (HX1.out.fr hf5 (.inr (.inr (by decide))))))
    clear hf
    go_wp2_with fail
    refine HS.out.mono ?_
    rintro e w5 ⟨rfl, hq, hf5⟩
    have HQ := Lib.hid hq
    have HF5 := Lib.hid hf5
    clear hq hf5 HS
    go_wp2_with fail
    go_ret
    rw [E.out] at HW' ⊢
    obtain ⟨V', q1⟩ := HQ.out
    exact ⟨rfl, ⟨V', u1, q1, by rw [(doP_pend _ _).1]; show UndoR _ _ _ _ c.pend; rw [HN0.out]; exact HUN.out, HW'.out⟩, HF4.out.trans HF5.out (fun _ _ => trivial)⟩
set_option maxRecDepth 20000 in
set_option maxHeartbeats 4000000 in
theorem cerase_any (B p : Nat) (c : Chip) (b : Int) (w : World) (h : ChipR B w p c) :
    Calls Try.prog 47 #[.pointer (some ⟨p, 0, none⟩), .int .i64 b] w fun e w' => e = .returned (errV (c.erase b).2) ∧ ChipR B w' p (c.erase b).1 ∧ Fr B (· = p) w w' := by
  by_cases hrd : c.ready b = 0
  · obtain ⟨hd, h0, h1, hbad⟩ := ready_zero hrd
    obtain ⟨n, rfl⟩ := Int.eq_ofNat_of_zero_le h0
    rw [Int.toNat_natCast] at hbad
    have hn : n < 24 := by omega
    cases hw : (c.b n).weak
    · have E : c.erase n = c.step (.er n) := by
        rw [Chip.erase, if_neg (by rw [hrd]; simp), Int.toNat_natCast, hw, if_neg (by simp)]
      rw [E]
      exact cerase_go B p n c w h hn hd hbad hw
    · have E : Hid (c.erase n = (c.spoil n, 7)) := by
        rw [Hid, Chip.erase, if_neg (by rw [hrd]; simp), Int.toNat_natCast, if_pos hw]
      have HRD := Lib.hid (ready_any B p c n w h)
      rw [hrd, show errV 0 = Value.nilIface from rfl] at HRD
      have HSP := Lib.hid (spoil_any B p c n w h hn hd hbad)
      rw [hw] at HSP
      clear h hrd hd hbad hw
      go_enter Try.func47, Try.ntmps47
      go_wp2_with fail
      refine HRD.out.mono ?_
      rintro e w1 ⟨rfl, rfl⟩
      clear HRD
      go_wp2_with fail
      refine HSP.out.mono ?_
      rintro e w1 ⟨rfl, hr1, hf1⟩
      have HR1 := Lib.hid hr1
      have HF1 := Lib.hid hf1
      clear hr1 hf1 HSP
      go_wp2_with fail
      go_ret
      rw [E.out]
      exact ⟨rfl, HR1.out, HF1.out⟩
  · have E : Hid (c.erase b = (c, c.ready b)) := if_pos hrd
    have e1 : errV (c.ready b) = .iface 137 (.int .i64 (c.ready b)) := if_neg hrd
    have HRD := Lib.hid (ready_any B p c b w h)
    rw [e1] at HRD
    have E1 := Lib.hid e1
    have HR0 := Lib.hid h
    clear h hrd e1
    go_enter Try.func47, Try.ntmps47
    go_wp2_with fail
    refine HRD.out.mono ?_
    rintro e w1 ⟨rfl, rfl⟩
    clear HRD
    go_wp2_with fail
    go_ret
    rw [E.out]
    exact ⟨by rw [E1.out]; rfl, HR0.out, Fr.refl _ _ _⟩
theorem neq_func (f : Fn) (a b : Array Value) (w : World) : (binOp .neq 79 (.func f a b) .nilFunc).run Try.prog w = .ok (.bool true) w := by kernel_rfl
theorem neq_nilfunc (w : World) : (binOp .neq 79 .nilFunc .nilFunc).run Try.prog w = .ok (.bool false) w := by kernel_rfl
attribute [local go_sem ↓] neq_func neq_nilfunc
set_option maxHeartbeats 1000000 in
theorem undo_any (B p qh qd : Nat) (V : Nat → Value) (c : Chip) (u : Value) (how : Int) (F1 F2 : Nat) (k1 k2 : Array Value) (pd : Pend) (w : World) (hv : ChipV B w p V c u)
    (h1 : Blk w qh 1 #[.func (.func F2) #[] k2]) (h2 : Blk w qd 1 #[.func (.func F1) #[] k1])
    (hE1 : ∀ (args : Array Value) (w : World), (callFunc F1 args).run Try.prog w = .ok (.enter F1 args) w) (hE2 : ∀ (args : Array Value) (w : World), (callFunc F2 args).run Try.prog w = .ok (.enter F2 args) w)
    (hd : Calls Try.prog F1 k1 w fun e w2 => e = .returned (.tuple #[]) ∧ (∃ V', ChipV B w2 p V' (doP c pd) u) ∧ Fr B (· = p) w w2)
    (hh : Calls Try.prog F2 k2 w fun e w2 => e = .returned (.tuple #[]) ∧ (∃ V', ChipV B w2 p V' (halfP c pd) u) ∧ Fr B (· = p) w w2) :
    Calls Try.prog 122 #[.int .i64 how, .pointer (some ⟨qh, 0, none⟩), .pointer (some ⟨qd, 0, none⟩)] w fun e w' =>
      e = .returned (.tuple #[]) ∧ (∃ V', ChipV B w' p V' (if how = 1 then halfP c pd else if how = 2 then doP c pd else c) u) ∧ Fr B (· = p) w w' := by
  have x1 := h1.cell 0
  have x2 := h2.cell 0
  simp at x1 x2
  have HV := Lib.hid hv
  have HD := Lib.hid hd
  have HH := Lib.hid hh
  clear hv hd hh h1 h2
  by_cases e1 : how = 1
  · subst e1
    rw [if_pos rfl]
    go_enter Try.func122, Try.ntmps122
    go_wp2_with fail
    refine HH.out.mono ?_
    rintro e w2 ⟨rfl, hq, hf⟩
    have HQ := Lib.hid hq
    have HF := Lib.hid hf
    clear hq hf HH HD hE1 hE2
    go_wp2_with fail
    go_end0
    exact ⟨rfl, HQ.out, HF.out⟩
  · rw [if_neg e1]
    by_cases e2 : how = 2
    · subst e2
      rw [if_pos rfl]
      clear e1
      go_enter Try.func122, Try.ntmps122
      go_wp2_with fail
      refine HD.out.mono ?_
      rintro e w2 ⟨rfl, hq, hf⟩
      have HQ := Lib.hid hq
      have HF := Lib.hid hf
      clear hq hf HH HD hE1 hE2
      go_wp2_with fail
      go_end0
      exact ⟨rfl, HQ.out, HF.out⟩
    · rw [if_neg e2]
      have t1 : (how == 1) = false := by rw [beq_eq_false_iff_ne]; exact e1
      have t2 : (how == 2) = false := by rw [beq_eq_false_iff_ne]; exact e2
      clear HH HD hE1 hE2 e1 e2
      go_enter Try.func122, Try.ntmps122
      go_wp2_with fail
      go_end0
      exact ⟨rfl, ⟨V, HV.out⟩, Fr.refl _ _ _⟩
theorem undo_pend (B p : Nat) (V : Nat → Value) (c : Chip) (u : Value) (how : Int) (pd : Pend) (w : World) (hv : ChipV B w p V c u) (hu : UndoR w p c u (some pd)) (hp : PendOk c pd) :
    ∃ qh qd, u = .func (.func 122) #[] #[.pointer (some ⟨qh, 0, none⟩), .pointer (some ⟨qd, 0, none⟩)] ∧
    Calls Try.prog 122 #[.int .i64 how, .pointer (some ⟨qh, 0, none⟩), .pointer (some ⟨qd, 0, none⟩)] w fun e w' =>
      e = .returned (.tuple #[]) ∧ (∃ V', ChipV B w' p V' (if how = 1 then halfP c pd else if how = 2 then doP c pd else c) u) ∧ Fr B (· = p) w w' := by
  match pd, hu, hp with
  | .wr b d, ⟨qh, qd, bx, bn, bd, e, h2, h3, h4, h5, h6⟩, hp =>
    exact ⟨qh, qd, e, undo_any B p qh qd V c u how _ _ _ _ (.wr b d) w hv h2 h3 (enters_of Try.func91 (by kernel_rfl) rfl) (enters_of Try.func92 (by kernel_rfl) rfl)
      (write1_any B p b bx bn bd V c u d w hv hp.1 hp.2.2 h4 h5 h6) (write2_any B p b bx bn V c u d w hv hp.1 hp.2.2 h4 h5)⟩
  | .er b, ⟨qh, qd, bx, e, h2, h3, h4⟩, hp =>
    exact ⟨qh, qd, e, undo_any B p qh qd V c u how _ _ _ _ (.er b) w hv h2 h3 (enters_of Try.func95 (by kernel_rfl) rfl) (enters_of Try.func96 (by kernel_rfl) rfl)
      (erase1_any B p b bx V c u w hv hp h4) (erase2_any B p b bx V c u w hv hp h4)⟩
set_option maxRecDepth 20000 in
set_option maxHeartbeats 1000000 in
theorem restart_any (B p : Nat) (c : Chip) (how : Int) (w : World) (h : ChipR B w p c) :
    Calls Try.prog 52 #[.pointer (some ⟨p, 0, none⟩), .int .i64 how] w fun e w' => e = .returned (.tuple #[]) ∧ ChipR B w' p (c.restart how) ∧ Fr B (· = p) w w' := by
  have hwf' := h.wf.restart_ how
  obtain ⟨V, u, hv, hu, hwf⟩ := h
  have fin : ∀ (w2 : World) (V' : Nat → Value), ChipV B w2 p V' (c.undone how) u → Fr B (· = p) w w2 → w2.cell? ⟨p, 98, none⟩ = some u → w2.frozen? ⟨p, 98, none⟩ = false → w2.frozen? ⟨p, 97, none⟩ = false → w2.frozen? ⟨p, 96, none⟩ = false →
      ChipR B (((w2.setCell ⟨p, 98, none⟩ .nilFunc).setCell ⟨p, 97, none⟩ (.bool false)).setCell ⟨p, 96, none⟩ (.int .i64 (-1))) p (c.restart how) ∧ Fr B (· = p) w (((w2.setCell ⟨p, 98, none⟩ .nilFunc).setCell ⟨p, 97, none⟩ (.bool false)).setCell ⟨p, 96, none⟩ (.int .i64 (-1))) := by
    intro w2 V' hv2 hf2 _ _ _ _
    have v1 := hv2.setT (c' := c.undone how) (u' := .nilFunc) (j := 2) (by omega) rfl (x := .nilFunc) rfl
    have v2 := v1.setT (c' := { c.undone how with down := false }) (u' := .nilFunc) (j := 1) (by omega) rfl (x := .bool false) rfl
    have v3 := v2.setT (c' := c.restart how) (u' := .nilFunc) (j := 0) (by omega) rfl (x := .int .i64 (-1)) rfl
    exact ⟨⟨V', .nilFunc, v3, rfl, hwf'⟩, ((hf2.setCell hv.base (.inl rfl) hv.mut _).setCell hv.base (.inl rfl) hv.mut _).setCell hv.base (.inl rfl) hv.mut _⟩
  have FIN := Lib.hid fin
  have c3 := hv.tail.2.2
  have d3 := hv.tail.2.1
  have e3 := hv.tail.1
  have z1 := hv.blk.frozen 98
  have z2 := hv.blk.frozen 97
  have z3 := hv.blk.frozen 96
  cases hpd : c.pend with
  | none =>
    have hund : c.undone how = c := by unfold Chip.undone; rw [hpd]
    rw [hpd] at hu
    have hu' : u = .nilFunc := hu
    subst hu'
    have HV : Hid (ChipV B w p V (c.undone how) .nilFunc) := by rw [hund]; exact hv
    clear hv hu hwf hpd hund fin hwf'
    go_enter Try.func52, Try.ntmps52
    go_wp2_with fail
    go_end0
    exact ⟨rfl, FIN.out w V HV.out (Fr.refl _ _ _) c3 z1 z2 z3⟩
  | some pd =>
    rw [hpd] at hu
    obtain ⟨qh, qd, rfl, hc⟩ := undo_pend B p V c u how pd w hv hu (hwf.pend pd hpd)
    have HC := Lib.hid hc
    have hund : c.undone how = if how = 1 then halfP c pd else if how = 2 then doP c pd else c := by unfold Chip.undone; rw [hpd]
    have HU := Lib.hid hund
    clear hv hu hwf hpd hund fin hwf' hc d3 e3 z1 z2 z3
    go_enter Try.func52, Try.ntmps52
    go_wp2_with fail
    refine HC.out.mono ?_
    rintro e w2 ⟨rfl, ⟨V', hv2⟩, hf2⟩
    rw [← HU.out] at hv2
    have c4 := hv2.tail.2.2
    have d4 := hv2.tail.2.1
    have e4 := hv2.tail.1
    have z1 := hv2.blk.frozen 98
    have z2 := hv2.blk.frozen 97
    have z3 := hv2.blk.frozen 96
    have HV2 := Lib.hid hv2
    have HF2 := Lib.hid hf2
    clear hv2 hf2 HC c3
    go_wp2_with fail
    go_end0
    exact ⟨rfl, FIN.out w2 V' HV2.out HF2.out c4 z1 z2 z3⟩
end Go.Proofs.Ytaepdbkfaoiimaa
