/- TopBetween returns true at every input, and leaves it as it was. Conditions: none. -/
import Derived.Test.YtaepdbkfaoiimadScan
import Derived.Test.YtaepdbkfaoiimadStoU
set_option linter.unusedVariables false
set_option linter.unusedSimpArgs false
namespace Go.Proofs.Ytaepdbkfaoiimad
open Go.ChangeShapes Go.WideShapes Go.ChangeAt Go.RowKit Go.WideMaps Go.WideElems
open Go.ChangeMaps (open_string shut_string)
attribute [local go_sem ↓] eql_err eql_nilerr neq_err neq_nilerr guard_err guard_nilerr guardn_err guardn_nilerr
attribute [local go_sem ↓] neq_ent eql_ent
theorem wpList_append_rdg {P : Program} {w : World} {ops : Array Oper} {rest : List Oper} {o : Oper} {a : Go.Act} {Q : Exit → Go.Act → World → Prop} (hw : Region.wanted o (yielded ops a.tmps) = true) (s x : Operand) (t : TypeId)
    (ho : o.op = .call { callee := .builtin .append, args := #[s, x], argTypes := #[t, t] })
    (base : Nat) (e : TypeId) (i : TypeInfo) (z : Value) (size bytes : Nat) (ht : P.underlying t = some (.slice e)) (hi : P.info? e = some i) (hz : i.zero = some z)
    (hsize : i.size = size) (hby : i.bytes = bytes) (hzs : z.cells.size = size) (hsz : 0 < size)
    (v : Value) (n : Nat) (xs : List Value) (hs : a.eval s = v) (hown : w.ownsRow base e size v n xs)
    (B T : Nat) (vx : Value) (m : Nat) (news : List Value) (hx : a.eval x = vx) (hr : Rd B T size w vx m news) (h1 : ∀ u ∈ news, u.oneCell' = true)
    (h63 : n + m ≤ maxLen) (hbytes : (n + m) * bytes ≤ 140737488355328) (hbase : base ≤ w.heap.size)
    (h : ∀ v' w', w'.ownsRow base e size v' (n + m) (xs ++ news) → w.grownBy w' v.ownBlock → (v'.ownBlock = v.ownBlock ∨ v'.ownBlock = some w.heap.size) → wpList P ops Q rest (a.put o.dst v') w') : wpList P ops Q (o :: rest) a w :=
  BigFrame.wpList_want hw fun _ hK => wp_append_rd w s x t ho base e i z size bytes ht hi hz hsize hby hzs hsz v n xs hs hown B T vx m news hx hr h1 h63 hbytes hbase fun v' w' h2 h3 h4 => hK _ _ (h v' w' h2 h3 h4)
theorem bet_len (r : List Ent) (a b : ByteArray) : (betM r a b).length ≤ r.length := by
  unfold betM
  exact Nat.le_trans (List.length_filter_le _ _) (by rw [List.length_reverse]; exact Nat.le_refl _)
theorem bet_split {a b c : ByteArray} (hab : ltB b a = false) (hbc : ltB c b = false) (hb0 : b.toList ≠ []) (hc0 : c.toList ≠ []) :
    ∀ {r : List Ent}, Rises r → r.filter (betP a b) ++ r.filter (betP b c) = r.filter (betP a c)
  | [], _ => rfl
  | x :: xs, hr => by
    obtain ⟨h1, h2⟩ := rises_cons.1 hr
    have ih := bet_split hab hbc hb0 hc0 h2
    have hb1 : (b.toList == []) = false := beq_eq_false_iff_ne.2 hb0
    have hc1 : (c.toList == []) = false := beq_eq_false_iff_ne.2 hc0
    have e1 : betP a b x = (!ltB x.k a && ltB x.k b) := by unfold betP; rw [hb1, Bool.false_or]
    have e2 : betP b c x = (!ltB x.k b && ltB x.k c) := by unfold betP; rw [hc1, Bool.false_or]
    have e3 : betP a c x = (!ltB x.k a && ltB x.k c) := by unfold betP; rw [hc1, Bool.false_or]
    cases hxb : ltB x.k b
    · have hn : xs.filter (betP a b) = [] := by
        rw [List.filter_eq_nil_iff]
        intro y hy
        have hxy := h1 y hy
        have : ltB y.k b = false := by
          cases h : ltB y.k b
          · rfl
          · rw [ltB_trans hxy h] at hxb; cases hxb
        unfold betP
        simp [hb0, this]
      have hxa : ltB x.k a = false := by
        cases h : ltB x.k a
        · rfl
        · by_cases hab' : ltB a b = true
          · rw [ltB_trans h hab'] at hxb; cases hxb
          · have := ltB_tri (by simpa using hab') hab
            rw [this, hxb] at h; cases h
      rw [List.filter_cons_of_neg (by rw [e1, hxb]; simp), hn, List.nil_append]
      rw [hn, List.nil_append] at ih
      cases hxc : ltB x.k c
      · rw [List.filter_cons_of_neg (by rw [e2, hxc]; simp), List.filter_cons_of_neg (by rw [e3, hxc]; simp), ih]
      · rw [List.filter_cons_of_pos (by rw [e2, hxb, hxc]; rfl), List.filter_cons_of_pos (by rw [e3, hxa, hxc]; rfl), ih]
    · have hxc : ltB x.k c = true := by
        by_cases hbc' : ltB b c = true
        · exact ltB_trans hxb hbc'
        · have := ltB_tri (by simpa using hbc') hbc
          rw [← this]; exact hxb
      rw [List.filter_cons_of_neg (l := xs) (p := betP b c) (by rw [e2, hxb]; simp)]
      cases hxa : ltB x.k a
      · rw [List.filter_cons_of_pos (by rw [e1, hxa, hxb]; rfl), List.filter_cons_of_pos (by rw [e3, hxa, hxc]; rfl), List.cons_append, ih]
      · rw [List.filter_cons_of_neg (by rw [e1, hxa]; simp), List.filter_cons_of_neg (by rw [e3, hxa]; simp), ih]
theorem bet_join {r : List Ent} (hr : Rises r) {a b c : ByteArray} (hab : ltB b a = false) (hbc : ltB c b = false) (hb0 : b.toList ≠ []) (hc0 : c.toList ≠ []) :
    betM r b c ++ betM r a b = betM r a c := by
  unfold betM
  rw [List.filter_reverse, List.filter_reverse, List.filter_reverse, ← List.reverse_append, bet_split hab hbc hb0 hc0 hr]
theorem bet_all (r : List Ent) : betM r ⟨#[]⟩ ⟨#[]⟩ = r.reverse := by
  unfold betM
  rw [List.filter_eq_self]
  intro e he
  have h0 : (⟨#[]⟩ : ByteArray).toList = [] := (toList_nil ByteArray.empty).2 rfl
  unfold betP ltB
  rw [h0]
  cases e.k.toList <;> rfl
theorem cmp_gt {a b : ByteArray} (h : ltB b a = true) : Op.bytesLess a.toList b.toList = false ∧ (a.toList == b.toList) = false ∧ ¬ a.toList = b.toList := by
  have e : (a.toList == b.toList) = false := by rw [ba_beq]; simp [(ltB_ne h).symm]
  exact ⟨ltB_asymm h, e, by simpa using e⟩
theorem cmp_le {a b : ByteArray} (h : ¬ ltB b a = true) : Op.bytesLess a.toList b.toList = true ∨ (Op.bytesLess a.toList b.toList = false ∧ (a.toList == b.toList) = true ∧ a.toList = b.toList) := by
  cases hx : ltB a b
  · have := ltB_tri (a := b) (b := a) (by simpa using h) hx
    exact .inr ⟨hx, by rw [this]; simp, by rw [this]⟩
  · exact .inl hx
theorem nil_cmp {a : ByteArray} (h : ¬ a.toList = []) : (a.toList == []) = false ∧ a.toList.isEmpty = false := ⟨beq_eq_false_iff_ne.2 h, by cases hh : a.toList with | nil => exact absurd hh h | cons x l => rfl⟩
set_option maxRecDepth 20000 in
set_option maxHeartbeats 4000000 in
theorem topBetween_walk (va : Value) (l : List Act) (a b d : ByteArray) (w : World) (ha : ActsR w.heap.size w va l) :
    Calls Try.prog 5 #[va, .string a, .string b, .string d] w fun e w' => e = .returned (.bool true) ∧ Below w.heap.size w w' := by
  have HWO := Lib.hid (works_any w)
  have HFI := Lib.hid (fun W (hW : Below w.heap.size w W) => filled_any w.heap.size va l W (acts_below ha hW) hW.size)
  clear ha
  cases hg : filG l
  · have HF0 := Lib.hid (fun W hW => fil_no hg (HFI.out W hW))
    clear hg HFI
    go_enter Try.func5, Try.ntmps5
    go_wp2_with (first
      | (go_at_call 6; refine HWO.out.mono ?_; rintro e w1 ⟨rfl, hb1⟩)
      | (go_at_call 7; refine (HF0.out w1 hb1).mono ?_; rintro e w2 ⟨rfl, rfl⟩))
    go_ret
    exact ⟨rfl, hb1⟩
  have HF1 := Lib.hid (fun W hW => fil_yes hg (HFI.out W hW))
  have hl80 := filG_len hg
  clear hg HFI
  by_cases ha : a.size ≤ 20
  case neg =>
    have t : decide ((20 : Int) < (a.size : Int)) = true := decide_eq_true (by omega)
    clear ha
    go_enter Try.func5, Try.ntmps5
    go_wp2_with (first
      | (go_at_call 6; refine HWO.out.mono ?_; rintro e w1 ⟨rfl, hb1⟩)
      | (go_at_call 7; refine (HF1.out w1 hb1).mono ?_; rintro e w2 ⟨p, q, rfl, c, s, F, hst, hrw, hFw, hpw, hb2⟩; have hb12 := hb1.trans (hb2.mono hb1.size)))
    all_goals
      go_ret
      exact ⟨rfl, hb12⟩
  have ta : decide ((20 : Int) < (a.size : Int)) = false := decide_eq_false (by omega)
  by_cases hb : b.size ≤ 20
  case neg =>
    have t : decide ((20 : Int) < (b.size : Int)) = true := decide_eq_true (by omega)
    clear hb
    go_enter Try.func5, Try.ntmps5
    go_wp2_with (first
      | (go_at_call 6; refine HWO.out.mono ?_; rintro e w1 ⟨rfl, hb1⟩)
      | (go_at_call 7; refine (HF1.out w1 hb1).mono ?_; rintro e w2 ⟨p, q, rfl, c, s, F, hst, hrw, hFw, hpw, hb2⟩; have hb12 := hb1.trans (hb2.mono hb1.size)))
    all_goals
      go_ret
      exact ⟨rfl, hb12⟩
  have tb : decide ((20 : Int) < (b.size : Int)) = false := decide_eq_false (by omega)
  by_cases hd : d.size ≤ 20
  case neg =>
    have t : decide ((20 : Int) < (d.size : Int)) = true := decide_eq_true (by omega)
    clear hd
    go_enter Try.func5, Try.ntmps5
    go_wp2_with (first
      | (go_at_call 6; refine HWO.out.mono ?_; rintro e w1 ⟨rfl, hb1⟩)
      | (go_at_call 7; refine (HF1.out w1 hb1).mono ?_; rintro e w2 ⟨p, q, rfl, c, s, F, hst, hrw, hFw, hpw, hb2⟩; have hb12 := hb1.trans (hb2.mono hb1.size)))
    all_goals
      go_ret
      exact ⟨rfl, hb12⟩
  have td : decide ((20 : Int) < (d.size : Int)) = false := decide_eq_false (by omega)
  by_cases hab : ltB b a = true
  · obtain ⟨u1, u2, u3⟩ := cmp_gt hab
    go_enter Try.func5, Try.ntmps5
    go_wp2_with (first
      | (go_at_call 6; refine HWO.out.mono ?_; rintro e w1 ⟨rfl, hb1⟩)
      | (go_at_call 7; refine (HF1.out w1 hb1).mono ?_; rintro e w2 ⟨p, q, rfl, c, s, F, hst, hrw, hFw, hpw, hb2⟩; have hb12 := hb1.trans (hb2.mono hb1.size)))
    all_goals
      go_ret
      exact ⟨rfl, hb12⟩
  have HAB : Hid (ltB b a = false) := Bool.not_eq_true _ ▸ hab
  have cab := cmp_le hab
  clear hab
  by_cases hbd : ltB d b = true
  · obtain ⟨u1, u2, u3⟩ := cmp_gt hbd
    rcases cab with v1 | ⟨v1, v2, -⟩
    all_goals
      go_enter Try.func5, Try.ntmps5
      go_wp2_with (first
        | (go_at_call 6; refine HWO.out.mono ?_; rintro e w1 ⟨rfl, hb1⟩)
        | (go_at_call 7; refine (HF1.out w1 hb1).mono ?_; rintro e w2 ⟨p, q, rfl, c, s, F, hst, hrw, hFw, hpw, hb2⟩; have hb12 := hb1.trans (hb2.mono hb1.size)))
      all_goals
        go_ret
        exact ⟨rfl, hb12⟩
  have HBD : Hid (ltB d b = false) := Bool.not_eq_true _ ▸ hbd
  have cbd := cmp_le hbd
  clear hbd
  by_cases hb0 : b.toList = []
  · have u1 : (b.toList == []) = true := by rw [hb0]; rfl
    have u2 : b.toList.isEmpty = true := by rw [hb0]; rfl
    clear hb0
    rcases cab with v1 | ⟨v1, v2, -⟩
    all_goals
      rcases cbd with w1' | ⟨w1', w2', -⟩
      all_goals
        go_enter Try.func5, Try.ntmps5
        go_wp2_with (first
          | (go_at_call 6; refine HWO.out.mono ?_; rintro e w1 ⟨rfl, hb1⟩)
          | (go_at_call 7; refine (HF1.out w1 hb1).mono ?_; rintro e w2 ⟨p, q, rfl, c, s, F, hst, hrw, hFw, hpw, hb2⟩; have hb12 := hb1.trans (hb2.mono hb1.size)))
        all_goals
          go_ret
          exact ⟨rfl, hb12⟩
  obtain ⟨n1, n2⟩ := nil_cmp hb0
  by_cases hd0 : d.toList = []
  · have u1 : (d.toList == []) = true := by rw [hd0]; rfl
    have u2 : d.toList.isEmpty = true := by rw [hd0]; rfl
    clear hd0
    rcases cab with v1 | ⟨v1, v2, -⟩
    all_goals
      rcases cbd with w1' | ⟨w1', w2', -⟩
      all_goals
        go_enter Try.func5, Try.ntmps5
        go_wp2_with (first
          | (go_at_call 6; refine HWO.out.mono ?_; rintro e w1 ⟨rfl, hb1⟩)
          | (go_at_call 7; refine (HF1.out w1 hb1).mono ?_; rintro e w2 ⟨p, q, rfl, c, s, F, hst, hrw, hFw, hpw, hb2⟩; have hb12 := hb1.trans (hb2.mono hb1.size)))
        all_goals
          go_ret
          exact ⟨rfl, hb12⟩
  obtain ⟨n3, n4⟩ := nil_cmp hd0
  have HN0 := Lib.hid (And.intro hb0 hd0)
  rcases cab with v1 | ⟨v1, v2, -⟩
  all_goals
    rcases cbd with w1' | ⟨w1', w2', -⟩
    all_goals
      go_enter Try.func5, Try.ntmps5
      go_wp2_with (first
        | (go_at_call 6; refine HWO.out.mono ?_; rintro e w1 ⟨rfl, hb1⟩)
        | (go_at_call 7; refine (HF1.out w1 hb1).mono ?_; rintro e w2 ⟨p, q, rfl, c, s, F, hst, hrw, hFw, hpw, hb2⟩; have hb12 := hb1.trans (hb2.mono hb1.size)))
      have HB2 := Lib.hid (And.intro hb2 hb1.size)
      have HBW : Hid (∀ W, Below w1.heap.size w1 W → Below w.heap.size w W) := Lib.hid fun W hW => hb1.trans (hW.mono hb1.size)
      have HS2 := Lib.hid hst
      clear hst hrw hFw hpw hb2 hb1 hb12 HWO HF1
      have hr40 : s.rows.length ≤ 40 := HS2.out.ok.inv.body.rows
      have HJ : Hid (betM s.rows b d ++ betM s.rows a b = betM s.rows a d) := bet_join HS2.out.rise HAB.out HBD.out HN0.out.1 HN0.out.2
      have HA0 := Lib.hid (bet_all s.rows)
      have HLX : Hid ((betM s.rows a b).length ≤ 40 ∧ (betM s.rows b d).length ≤ 40) := ⟨Nat.le_trans (bet_len _ _ _) hr40, Nat.le_trans (bet_len _ _ _) hr40⟩
      replace HB2 := Lib.hid HB2.out.1
      have HX3 := Lib.hid (sbet_any w1.heap.size q p _ _ c s F a b w2 HS2.out)
      refine HX3.out.mono ?_
      rintro e w3 ⟨v3, rfl, hv3, hb3⟩
      obtain ⟨A3, c3, rfl, l3, l3', kX3⟩ := hv3.form
      have HS3 := Lib.hid (HS2.out.below hb3)
      have HB3 := Lib.hid (HB2.out.trans (hb3.mono HB2.out.size))
      have HV3_3 := Lib.hid hv3
      clear hv3 hb3 kX3 HX3 HS2 HB2
      go_wp2_with fail
      have HX4 := Lib.hid (sbet_any w1.heap.size q p _ _ c s F b d w3 HS3.out)
      refine HX4.out.mono ?_
      rintro e w4 ⟨v4, rfl, hv4, hb4⟩
      obtain ⟨A4, c4, rfl, l4, l4', kX4⟩ := hv4.form
      have HS4 := Lib.hid (HS3.out.below hb4)
      have HB4 := Lib.hid (HB3.out.trans (hb4.mono HB3.out.size))
      have HV4_3 := Lib.hid (HV3_3.out.below hb4)
      have HV4_4 := Lib.hid hv4
      clear hv4 hb4 kX4 HX4 HS3 HB3 HV3_3
      go_wp2_with fail
      have HX5 := Lib.hid (sbet_any w1.heap.size q p _ _ c s F a d w4 HS4.out)
      refine HX5.out.mono ?_
      rintro e w5 ⟨v5, rfl, hv5, hb5⟩
      obtain ⟨A5, c5, rfl, l5, l5', kX5⟩ := hv5.form
      have HS5 := Lib.hid (HS4.out.below hb5)
      have HB5 := Lib.hid (HB4.out.trans (hb5.mono HB4.out.size))
      have HV5_3 := Lib.hid (HV4_3.out.below hb5)
      have HV5_4 := Lib.hid (HV4_4.out.below hb5)
      have HV5_5 := Lib.hid hv5
      clear hv5 hb5 kX5 HX5 HS4 HB4 HV4_3 HV4_4
      go_wp2_with fail
      have HX6 := Lib.hid (sbet_any w1.heap.size q p _ _ c s F ⟨#[]⟩ ⟨#[]⟩ w5 HS5.out)
      refine HX6.out.mono ?_
      rintro e w6 ⟨v6, rfl, hv6, hb6⟩
      obtain ⟨A6, c6, rfl, l6, l6', kX6⟩ := hv6.form
      have HS6 := Lib.hid (HS5.out.below hb6)
      have HB6 := Lib.hid (HB5.out.trans (hb6.mono HB5.out.size))
      have HV6_3 := Lib.hid (HV5_3.out.below hb6)
      have HV6_4 := Lib.hid (HV5_4.out.below hb6)
      have HV6_5 := Lib.hid (HV5_5.out.below hb6)
      have HV6_6 := Lib.hid hv6
      clear hv6 hb6 kX6 HX6 HS5 HB5 HV5_3 HV5_4 HV5_5
      go_wp2_with fail
      have HR7 := Lib.hid (rows_st HS6.out)
      refine HR7.out.mono ?_
      rintro e w7 ⟨v7, rfl, hv7, _, hb7⟩
      obtain ⟨A7, c7, rfl, m1, m2, hcell7⟩ := hv7.form
      have HV7_3 := Lib.hid (HV6_3.out.below hb7)
      have HV7_4 := Lib.hid (HV6_4.out.below hb7)
      have HV7_5 := Lib.hid (HV6_5.out.below hb7)
      have hall := HV6_6.out.below hb7
      obtain ⟨_, _, e6, _, _, hcell6⟩ := hall.form
      cases e6
      have HB7 := Lib.hid (HB6.out.trans (hb7.mono HB6.out.size))
      have HC6 := Lib.hid hcell6
      have HC7 := Lib.hid hcell7
      have HLE : Hid ((betM s.rows ⟨#[]⟩ ⟨#[]⟩).length = s.rows.length) := by rw [Hid, HA0.out, List.length_reverse]
      have HIX : Hid (∀ i x, (betM s.rows ⟨#[]⟩ ⟨#[]⟩)[i]? = some x → i < s.rows.length → s.rows[s.rows.length - 1 - i]? = some x) := by
        intro i x h hi
        rw [HA0.out, List.getElem?_reverse hi] at h
        exact h
      clear hv7 hb7 hall hcell6 hcell7 HR7 HV6_3 HV6_4 HV6_5 HV6_6 HS6 HB6 HA0
      generalize betM s.rows ⟨#[]⟩ ⟨#[]⟩ = al at *
      have HLE2 := HLE.out
      generalize betM s.rows a b = xs at *
      generalize betM s.rows b d = ys at *
      generalize betM s.rows a d = zs at *
      generalize s.rows = r at *
      rw [HLE2]
      go_wp2_with fail
      go_loopw [21] (fun i wr => ∃ n m : Nat, i = .int .i64 (n : Int) ∧ n ≤ r.length ∧ wr = w7.drewN m) (fun i _ => r.length - (intOf i).toNat)
      case atStart => exact ⟨0, 0, rfl, Nat.zero_le _, rfl⟩
      case round =>
        obtain ⟨n, m, rfl, hn, rfl⟩ := hrel
        by_cases hlt : n < r.length
        · obtain ⟨x, hx, _, _⟩ := getElem?_of_lt (l := al) (k := n) (by omega)
          have hx7 := HIX.out n x hx hlt
          obtain ⟨b6, o6, rfl, hb6', y1, y2, y3⟩ := HC6.out n x hx
          obtain ⟨b7', o7, rfl, hb7', z1, z2, z3⟩ := HC7.out (r.length - 1 - n) x hx7
          have g1 : (0 : Int) ≤ (n : Int) := by omega
          have g2 : (n : Int) < (r.length : Int) := by omega
          have g3 : (0 : Int) ≤ (r.length : Int) - 1 - (n : Int) := by omega
          have g4 : (r.length : Int) - 1 - (n : Int) < (r.length : Int) := by omega
          have hd : decide (x = x) = true := decide_eq_true rfl
          clear hx hx7
          go_wp2_with fail
          go_quiet (fail)
          go_wp2_with fail
          go_roundw
          case rel => exact ⟨n + 1, m + nq, by go_num, by omega, by simp [World.drewN_drewN]⟩
          case measure => simp [intOf] <;> omega
        · obtain rfl : n = r.length := by omega
          have t97 : decide ((r.length : Int) < (r.length : Int)) = false := by simp
          obtain ⟨i0, hi, hz0, hz1, hz2⟩ := info_parts info_entry
          have HY := Lib.hid (HV7_4.out.drewN m)
          have HX := Lib.hid (HV7_3.out.drewN m)
          have HZ := Lib.hid (HV7_5.out.drewN m)
          have HB8 : Hid (Below w1.heap.size w1 (w7.drewN m)) := below_drewN' HB7.out m
          have HL2 : Hid (xs.length ≤ 40 ∧ ys.length ≤ 40) := HLX
          have HEO : Hid ((∀ e ∈ xs, e.k.size ≤ 9223372036854775807 ∧ e.v.size ≤ 9223372036854775807) ∧ ∀ e ∈ ys, e.k.size ≤ 9223372036854775807 ∧ e.v.size ≤ 9223372036854775807) := ⟨HX.out.2, HY.out.2⟩
          obtain ⟨lx, ly⟩ := HL2.out
          generalize w7.drewN m = w8 at *
          have hnil := Lib.hid (World.ownsRow_nil w8 w8.heap.size 34 3)
          go_wp2_with (first
            | (at_builtin; refine wpList_append_rdg rfl (.const (.slice none 0 0)) (.tmp 135) 28 rfl w8.heap.size 34 i0 _ 3 40 Try.underlying28 hi hz0 hz1 hz2 rfl (by decide) _ 0 [] rfl hnil.out w1.heap.size 34 _ _ _ rfl HY.out.1 (ents_one _) (by unfold maxLen; omega) (by omega) (Nat.le_refl _) ?_; intro v9 w9 hown9 hg9 hat9; have hb9 := below_own (Below.refl w8.heap.size w8) (Nat.le_refl _) hnil.out hg9; have HX9 := (HX.out.below hb9).1; have hsz9 := hb9.size)
            | (at_builtin; refine wpList_append_rdg rfl (.tmp 136) (.tmp 137) 28 rfl w8.heap.size 34 i0 _ 3 40 Try.underlying28 hi hz0 hz1 hz2 rfl (by decide) v9 _ _ rfl hown9 w1.heap.size 34 _ _ _ rfl HX9 (ents_one _) (by unfold maxLen; omega) (by omega) hsz9 ?_; intro v10 w10 hown10 hg10 hat10))
          have hb10 : Below w8.heap.size w8 w10 := below_own hb9 (Nat.le_refl _) hown9 hg10
          have HE10 : Hid (Ents w1.heap.size w10 v10 (ys ++ xs)) := by
            have h := Rd.of_own (B := w1.heap.size) hown10
            refine ⟨?_, fun e he => ?_⟩
            · have e1 : 0 + ys.length + xs.length = (ys ++ xs).length := by rw [List.length_append]; omega
              rw [e1] at h
              simpa using h
            · rcases List.mem_append.1 he with h | h
              · exact HEO.out.2 e h
              · exact HEO.out.1 e h
          have HSA : Hid (Calls Try.prog 15 #[v10, .slice A5 zs.length c5] w10 fun e w' => e = .returned (.bool true) ∧ ∃ n, w' = w10.drewN n) := by
            refine (same_any w1.heap.size v10 _ _ _ w10 HE10.out (HZ.out.below hb10)).mono ?_
            rintro e w' ⟨rfl, n, rfl⟩
            exact ⟨by rw [HJ.out]; simp, n, rfl⟩
          have HB10 : Hid (Below w1.heap.size w1 w10) := HB8.out.trans (hb10.mono HB8.out.size)
          clear hown9 hown10 hg9 hg10 hat9 hat10 hb9 hb10 HX9 hnil hi hz0 hz1 hz2
          refine HSA.out.mono ?_
          rintro e w11 ⟨rfl, n, rfl⟩
          go_wp2_with fail
          go_ret
          exact ⟨rfl, HBW.out _ (below_drewN' HB10.out n)⟩

-- CLOSING

set_option maxRecDepth 100000 in
theorem topBetween_holds : Rows.TopBetweenSaid :=
  OpenClaim.holds_of_wide 5 Try.f5 rfl rfl rfl rfl rfl rfl rfl ⟨rfl, rfl, rfl, rfl, rfl⟩ rfl rfl rfl rfl rfl (by kernel_rfl) Try.func5 (by kernel_rfl)
    (of_decide_eq_true (by kernel_rfl)) (by unfold Func.isWrapper; first | (rw [if_pos (by decide +kernel)]; kernel_rfl) | (rw [if_neg (by decide +kernel)]; exact ⟨rfl, rfl⟩))
    (fun os started H enc _ => close_lifted Rows.topBetweenSpec 5 Try.f5 os started H enc (by kernel_rfl) Try.func5 (by kernel_rfl) rfl
      (fun ds hd => by
        rw [Try.params5] at hd
        match ds, hd with
        | [d1, d2, d3, d4], _ => rfl)
      (by kernel_rfl)
      (ChangeSpec.witness6 (enc := enc) (C := Try.checked) false ⟨#[], #[.slice none 0 0, .string ByteArray.empty, .string ByteArray.empty, .string ByteArray.empty], []⟩ 8 (by kernel_rfl) (by kernel_rfl) (by kernel_rfl) (by kernel_rfl))
      (fun W base args ds p hval hA => by
        rw [Try.params5] at hA hval
        obtain ⟨v0, v1, v2, v3, d0, d1, d2, d3, p0, p1, p2, p3, hargs, rfl, rfl, h0, h1, h2, h3⟩ := trodAll_four hA
        obtain rfl : args = #[v0, v1, v2, v3] := by cases args; simp_all
        obtain ⟨l0, hl0⟩ := acts_of (hval 0 _ v0 rfl rfl) h0
        obtain ⟨s1, rfl, rfl, rfl, hs1⟩ := open_string Try.underlying9 (hval 1 _ v1 rfl rfl) h1
        obtain ⟨s2, rfl, rfl, rfl, hs2⟩ := open_string Try.underlying9 (hval 2 _ v2 rfl rfl) h2
        obtain ⟨s3, rfl, rfl, rfl, hs3⟩ := open_string Try.underlying9 (hval 3 _ v3 rfl rfl) h3
        exact topBetween_walk v0 l0 s1 s2 s3 W hl0))
#print axioms topBetween_holds
end Go.Proofs.Ytaepdbkfaoiimad
