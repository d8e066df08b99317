/- The contracts of package manifest: Check, Bytes, Parse. Conditions: none but the sizes of any memory. -/
import Derived.Test.YtaepdbkfaoiimaaMan0
import Derived.Test.YtaepdbkfaoiimaaInts
import Derived.Deep.RegionHeld3
import Derived.Deep.DeepCutAuto
set_option linter.unusedVariables false
set_option linter.unusedSimpArgs false
namespace Go.Proofs.Ytaepdbkfaoiimaa
open Go.RowKit

/-- A manifest as it is handed over. -/
def ManV (B : Nat) (w : World) (v : Value) (m : Man) : Prop := ∃ vn vo, v = .agg #[.int .i64 m.ep, .int .i64 m.log, vn, vo] ∧ Ints B w vn m.nw ∧ Ints B w vo m.od
theorem ManV.below {B : Nat} {w w' : World} {v : Value} {m : Man} (h : ManV B w v m) (hb : Below w.heap.size w w') : ManV B w' v m := by
  obtain ⟨vn, vo, h1, h2, h3⟩ := h
  exact ⟨vn, vo, h1, h2.below hb, h3.below hb⟩
theorem ManV.fr {B : Nat} {M : Nat → Prop} {w w' : World} {v : Value} {m : Man} (h : ManV B w v m) (hb : Fr B M w w') : ManV B w' v m := by
  obtain ⟨vn, vo, h1, h2, h3⟩ := h
  exact ⟨vn, vo, h1, h2.fr hb, h3.fr hb⟩
theorem ManV.zero (B : Nat) (w : World) : ManV B w (.agg #[.int .i64 0, .int .i64 0, .slice none 0 0, .slice none 0 0]) Man.zero := ⟨_, _, rfl, Rd.nil _ _ _ _, Rd.nil _ _ _ _⟩
/-- The row of one number. -/
theorem own_one {w : World} {base g : Nat} {x : Value} {T : TypeId} (h : Blk w g T #[x]) (hb : base ≤ g) : w.ownsRow base T 1 (.slice (some ⟨g, 0, none⟩) 1 1) 1 [x] :=
  ⟨rfl, .inr ⟨g, 1, #[x], rfl, hb, h, Nat.le_refl _, by decide, rfl, rfl⟩⟩
theorem step_append_rd {P : Program} {ops : Array Oper} {o : Oper} {a : Act} {w : World} {K : Act → World → Prop} {Q : Exit → Act → World → Prop} {E : Prop} (hgd : o.guard = none) (s x : Operand) (t : TypeId)
    (ho : o.op = .call { callee := .builtin .append, args := #[s, x], argTypes := #[t, t] })
    (base : Nat) (e : TypeId) (i : TypeInfo) (z : Value) (size bytes : Nat) (ht : P.underlying t = some (.slice e)) (hi : P.info? e = some i) (hz : i.zero = some z)
    (hsize : i.size = size) (hby : i.bytes = bytes) (hzs : z.cells.size = size) (hsz : 0 < size)
    (v : Value) (n : Nat) (xs : List Value) (hs : a.eval s = v) (hown : w.ownsRow base e size v n xs)
    (B T : Nat) (vx : Value) (m : Nat) (news : List Value) (hx : a.eval x = vx) (hr : Rd B T size w vx m news) (h1 : ∀ u ∈ news, u.oneCell' = true)
    (h63 : n + m ≤ maxLen) (hbytes : (n + m) * bytes ≤ 140737488355328) (hbase : base ≤ w.heap.size)
    (h : ∀ v' w', w'.ownsRow base e size v' (n + m) (xs ++ news) → w.grownBy w' v.ownBlock → (v'.ownBlock = v.ownBlock ∨ v'.ownBlock = some w.heap.size) → K (a.put o.dst v') w') :
    if Region.wanted o (yielded ops a.tmps) = true then Oper.wp P o a w K Q else E := by
  have hw : Region.wanted o (yielded ops a.tmps) = true := by simp [Region.wanted, hgd]
  rw [if_pos hw]
  exact wp_append_rd w s x t ho base e i z size bytes ht hi hz hsize hby hzs hsz v n xs hs hown B T vx m news hx hr h1 h63 hbytes hbase h

theorem ints_take {B : Nat} {w : World} {A : Option Addr} {c : Nat} {l : List Int} (h : Ints B w (.slice A l.length c) l) {k : Nat} (hk : k ≤ l.length) : Ints B w (.slice A k c) (l.take k) := by
  obtain ⟨_, A', c', e, h2, h3, h4⟩ := h
  cases e
  have e : (l.take k).length = k := by rw [List.length_take]; omega
  refine ⟨by simp, A, c, by rw [e], by omega, h3, fun h0 => ?_⟩
  rw [e] at h0
  obtain ⟨b, o, hA, hk2, hb, hc⟩ := h4 (by omega)
  refine ⟨b, o, hA, hk2, hb, fun j u hu => hc j u ?_⟩
  rw [List.map_take, List.getElem?_take] at hu
  split at hu
  · exact hu
  · cases hu
theorem chk_step {seen l : List Int} {b : Int} (h1 : ¬ b < 2) (h2 : ¬ 24 ≤ b) (h3 : inL seen b = false) : chk seen (b :: l) = chk (seen ++ [b]) l := by
  unfold inL at h3
  rw [chk, if_neg (by omega), if_neg (by rw [h3]; simp)]
set_option maxRecDepth 20000 in
set_option maxHeartbeats 8000000 in
theorem mcheck_any (B : Nat) (v : Value) (m : Man) (w : World) (h : ManV B w v m) (h1 : m.nw.length ≤ 1000) (h2 : m.od.length ≤ 1000) :
    Calls Try.prog 63 #[v] w fun e w' => e = .returned (errV m.fault) ∧ Below w.heap.size w w' := by
  obtain ⟨vn, vo, rfl, hn, ho⟩ := h
  obtain ⟨A1, c1, rfl, k1, k2, kX⟩ := hn.form
  obtain ⟨A2, c2, rfl, k3, k4, kY⟩ := ho.form
  clear kX kY
  have HN := Lib.hid hn
  have HO := Lib.hid ho
  have hx : Hid (Blk (w.alloc (.cells #[.int .i64 m.ep, .int .i64 m.log, .slice A1 m.nw.length c1, .slice A2 m.od.length c2] 91)) w.heap.size 91 #[.int .i64 m.ep, .int .i64 m.log, .slice A1 m.nw.length c1, .slice A2 m.od.length c2]) := Blk.new w _ _
  have x0 := hx.out.cell 0
  have x1 := hx.out.cell 1
  have x2 := hx.out.cell 2
  have x3 := hx.out.cell 3
  simp at x0 x1 x2 x3
  clear hn ho
  by_cases he : m.ep < 1 ∨ 100000 < m.ep
  · have hf : Hid (m.fault = 1) := if_pos he
    rcases he with he | he
    · go_enter Try.func63, Try.ntmps63
      go_wp2_with fail
      go_ret
      exact ⟨by rw [hf.out]; rfl, (Below.refl _ _).alloc (Nat.le_refl _) _⟩
    · have he2 : ¬ m.ep < 1 := by omega
      go_enter Try.func63, Try.ntmps63
      go_wp2_with fail
      go_ret
      exact ⟨by rw [hf.out]; rfl, (Below.refl _ _).alloc (Nat.le_refl _) _⟩
  · have hf : Hid (m.fault = chk [] m.all) := if_neg he
    have e1 : ¬ m.ep < 1 := by omega
    have e2 : ¬ 100000 < m.ep := by omega
    clear he
    go_enter Try.func63, Try.ntmps63
    go_wp2_with fail
    have HC : Hid (∀ w' : World, Below (w.heap.size + 1) (w.alloc (.cells #[.int .i64 m.ep, .int .i64 m.log, .slice A1 m.nw.length c1, .slice A2 m.od.length c2] 91)) w' → (w'.cell? ⟨w.heap.size, 1, none⟩ = some (.int .i64 m.log) ∧ w'.cell? ⟨w.heap.size, 2, none⟩ = some (.slice A1 m.nw.length c1) ∧ w'.cell? ⟨w.heap.size, 3, none⟩ = some (.slice A2 m.od.length c2)) ∧ Below (w.heap.size + 1) (w.alloc (.cells #[.int .i64 m.ep, .int .i64 m.log, .slice A1 m.nw.length c1, .slice A2 m.od.length c2] 91)) w') := fun w' hb =>
      ⟨⟨(hb.cell (p := ⟨w.heap.size, 1, none⟩) (by show w.heap.size < _; omega)).trans (hx.out.cell 1), (hb.cell (p := ⟨w.heap.size, 2, none⟩) (by show w.heap.size < _; omega)).trans (hx.out.cell 2), (hb.cell (p := ⟨w.heap.size, 3, none⟩) (by show w.heap.size < _; omega)).trans (hx.out.cell 3)⟩, hb⟩
    have hB0 : Below w.heap.size w (w.alloc (.cells #[.int .i64 m.ep, .int .i64 m.log, .slice A1 m.nw.length c1, .slice A2 m.od.length c2] 91)) := (Below.refl _ _).alloc (Nat.le_refl _) _
    have hBa : Below (w.heap.size + 1) (w.alloc (.cells #[.int .i64 m.ep, .int .i64 m.log, .slice A1 m.nw.length c1, .slice A2 m.od.length c2] 91)) (((w.alloc (.cells #[.int .i64 m.ep, .int .i64 m.log, .slice A1 m.nw.length c1, .slice A2 m.od.length c2] 91)).alloc (.cells #[.int .i64 m.log] 3)).alloc (.cells #[.slice A1 m.nw.length c1, .slice A2 m.od.length c2] 41)).drew := (((Below.refl _ _).alloc (by simp) _).alloc (by simp <;> omega) _).drew
    have hBb : Below (w.heap.size + 1) (w.alloc (.cells #[.int .i64 m.ep, .int .i64 m.log, .slice A1 m.nw.length c1, .slice A2 m.od.length c2] 91)) (((w.alloc (.cells #[.int .i64 m.ep, .int .i64 m.log, .slice A1 m.nw.length c1, .slice A2 m.od.length c2] 91)).alloc (.cells #[.slice A1 m.nw.length c1, .slice A2 m.od.length c2] 41)).alloc (.cells #[.int .i64 m.log] 3)).drew := (((Below.refl _ _).alloc (by simp) _).alloc (by simp <;> omega) _).drew
    have hBc : Below (w.heap.size + 1) (w.alloc (.cells #[.int .i64 m.ep, .int .i64 m.log, .slice A1 m.nw.length c1, .slice A2 m.od.length c2] 91)) ((w.alloc (.cells #[.int .i64 m.ep, .int .i64 m.log, .slice A1 m.nw.length c1, .slice A2 m.od.length c2] 91)).alloc (.cells #[.slice A1 m.nw.length c1, .slice A2 m.od.length c2] 41)).drew := ((Below.refl _ _).alloc (by simp) _).drew
    have up : ∀ w', Below (w.heap.size + 1) (w.alloc (.cells #[.int .i64 m.ep, .int .i64 m.log, .slice A1 m.nw.length c1, .slice A2 m.od.length c2] 91)) w' → Below w.heap.size w w' := fun w' hb => hB0.trans (hb.mono (by omega))
    have ga : Blk (((w.alloc (.cells #[.int .i64 m.ep, .int .i64 m.log, .slice A1 m.nw.length c1, .slice A2 m.od.length c2] 91)).alloc (.cells #[.int .i64 m.log] 3)).alloc (.cells #[.slice A1 m.nw.length c1, .slice A2 m.od.length c2] 41)).drew (w.heap.size + 2) 41 #[.slice A1 m.nw.length c1, .slice A2 m.od.length c2] := by
      have := Blk.drewN (Blk.new ((w.alloc (.cells #[.int .i64 m.ep, .int .i64 m.log, .slice A1 m.nw.length c1, .slice A2 m.od.length c2] 91)).alloc (.cells #[.int .i64 m.log] 3)) 41 #[.slice A1 m.nw.length c1, .slice A2 m.od.length c2]) 1
      simp only [World.size_alloc] at this
      exact this
    have gb : Blk (((w.alloc (.cells #[.int .i64 m.ep, .int .i64 m.log, .slice A1 m.nw.length c1, .slice A2 m.od.length c2] 91)).alloc (.cells #[.slice A1 m.nw.length c1, .slice A2 m.od.length c2] 41)).alloc (.cells #[.int .i64 m.log] 3)).drew (w.heap.size + 1) 41 #[.slice A1 m.nw.length c1, .slice A2 m.od.length c2] := by
      have := Blk.drewN ((Blk.new (w.alloc (.cells #[.int .i64 m.ep, .int .i64 m.log, .slice A1 m.nw.length c1, .slice A2 m.od.length c2] 91)) 41 #[.slice A1 m.nw.length c1, .slice A2 m.od.length c2]).alloc (.cells #[.int .i64 m.log] 3)) 1
      simp only [World.size_alloc] at this
      exact this
    have gc : Blk ((w.alloc (.cells #[.int .i64 m.ep, .int .i64 m.log, .slice A1 m.nw.length c1, .slice A2 m.od.length c2] 91)).alloc (.cells #[.slice A1 m.nw.length c1, .slice A2 m.od.length c2] 41)).drew (w.heap.size + 1) 41 #[.slice A1 m.nw.length c1, .slice A2 m.od.length c2] := by
      have := Blk.drewN (Blk.new (w.alloc (.cells #[.int .i64 m.ep, .int .i64 m.log, .slice A1 m.nw.length c1, .slice A2 m.od.length c2] 91)) 41 #[.slice A1 m.nw.length c1, .slice A2 m.od.length c2]) 1
      simp only [World.size_alloc] at this
      exact this
    have la : Blk (((w.alloc (.cells #[.int .i64 m.ep, .int .i64 m.log, .slice A1 m.nw.length c1, .slice A2 m.od.length c2] 91)).alloc (.cells #[.int .i64 m.log] 3)).alloc (.cells #[.slice A1 m.nw.length c1, .slice A2 m.od.length c2] 41)).drew (w.heap.size + 1) 3 #[.int .i64 m.log] := by
      have := Blk.drewN ((Blk.new (w.alloc (.cells #[.int .i64 m.ep, .int .i64 m.log, .slice A1 m.nw.length c1, .slice A2 m.od.length c2] 91)) 3 #[.int .i64 m.log]).alloc (.cells #[.slice A1 m.nw.length c1, .slice A2 m.od.length c2] 41)) 1
      simp only [World.size_alloc] at this
      exact this
    have lb : Blk (((w.alloc (.cells #[.int .i64 m.ep, .int .i64 m.log, .slice A1 m.nw.length c1, .slice A2 m.od.length c2] 91)).alloc (.cells #[.slice A1 m.nw.length c1, .slice A2 m.od.length c2] 41)).alloc (.cells #[.int .i64 m.log] 3)).drew (w.heap.size + 2) 3 #[.int .i64 m.log] := by
      have := Blk.drewN (Blk.new ((w.alloc (.cells #[.int .i64 m.ep, .int .i64 m.log, .slice A1 m.nw.length c1, .slice A2 m.od.length c2] 91)).alloc (.cells #[.slice A1 m.nw.length c1, .slice A2 m.od.length c2] 41)) 3 #[.int .i64 m.log]) 1
      simp only [World.size_alloc] at this
      exact this
    have CA : Hid (Calls Try.prog 98 #[.slice (some ⟨w.heap.size + 2, 0, none⟩) 2 2] (((w.alloc (.cells #[.int .i64 m.ep, .int .i64 m.log, .slice A1 m.nw.length c1, .slice A2 m.od.length c2] 91)).alloc (.cells #[.int .i64 m.log] 3)).alloc (.cells #[.slice A1 m.nw.length c1, .slice A2 m.od.length c2] 41)).drew fun e w3 => ∃ v3, e = .returned v3 ∧ Ints B w3 v3 (m.nw ++ m.od) ∧ Below (w.heap.size + 1) (w.alloc (.cells #[.int .i64 m.ep, .int .i64 m.log, .slice A1 m.nw.length c1, .slice A2 m.od.length c2] 91)) w3 ∧ Blk w3 (w.heap.size + 1) 3 #[.int .i64 m.log]) :=
      (concat_rd B _ (.slice A1 m.nw.length c1) (.slice A2 m.od.length c2) m.nw m.od _ ga (HN.out.below (up _ hBa)) (HO.out.below (up _ hBa)) (by omega) (by omega)).mono fun e w3 ⟨v3, h3, h4, h5⟩ => ⟨v3, h3, h4, hBa.trans (h5.mono (by simp <;> omega)), la.below h5 la.lt⟩
    have CB : Hid (Calls Try.prog 98 #[.slice (some ⟨w.heap.size + 1, 0, none⟩) 2 2] (((w.alloc (.cells #[.int .i64 m.ep, .int .i64 m.log, .slice A1 m.nw.length c1, .slice A2 m.od.length c2] 91)).alloc (.cells #[.slice A1 m.nw.length c1, .slice A2 m.od.length c2] 41)).alloc (.cells #[.int .i64 m.log] 3)).drew fun e w3 => ∃ v3, e = .returned v3 ∧ Ints B w3 v3 (m.nw ++ m.od) ∧ Below (w.heap.size + 1) (w.alloc (.cells #[.int .i64 m.ep, .int .i64 m.log, .slice A1 m.nw.length c1, .slice A2 m.od.length c2] 91)) w3 ∧ Blk w3 (w.heap.size + 2) 3 #[.int .i64 m.log]) :=
      (concat_rd B _ (.slice A1 m.nw.length c1) (.slice A2 m.od.length c2) m.nw m.od _ gb (HN.out.below (up _ hBb)) (HO.out.below (up _ hBb)) (by omega) (by omega)).mono fun e w3 ⟨v3, h3, h4, h5⟩ => ⟨v3, h3, h4, hBb.trans (h5.mono (by simp <;> omega)), lb.below h5 lb.lt⟩
    have CC : Hid (Calls Try.prog 98 #[.slice (some ⟨w.heap.size + 1, 0, none⟩) 2 2] ((w.alloc (.cells #[.int .i64 m.ep, .int .i64 m.log, .slice A1 m.nw.length c1, .slice A2 m.od.length c2] 91)).alloc (.cells #[.slice A1 m.nw.length c1, .slice A2 m.od.length c2] 41)).drew fun e w3 => ∃ v3, e = .returned v3 ∧ Ints B w3 v3 (m.nw ++ m.od) ∧ Below (w.heap.size + 1) (w.alloc (.cells #[.int .i64 m.ep, .int .i64 m.log, .slice A1 m.nw.length c1, .slice A2 m.od.length c2] 91)) w3) :=
      (concat_rd B _ (.slice A1 m.nw.length c1) (.slice A2 m.od.length c2) m.nw m.od _ gc (HN.out.below (up _ hBc)) (HO.out.below (up _ hBc)) (by omega) (by omega)).mono fun e w3 ⟨v3, h3, h4, h5⟩ => ⟨v3, h3, h4, hBc.trans (h5.mono (by simp))⟩
    have HBA : Hid (Below (w.heap.size + 1) (w.alloc (.cells #[.int .i64 m.ep, .int .i64 m.log, .slice A1 m.nw.length c1, .slice A2 m.od.length c2] 91)) (((w.alloc (.cells #[.int .i64 m.ep, .int .i64 m.log, .slice A1 m.nw.length c1, .slice A2 m.od.length c2] 91)).alloc (.cells #[.int .i64 m.log] 3)).alloc (.cells #[.slice A1 m.nw.length c1, .slice A2 m.od.length c2] 41)).drew ∧ Below (w.heap.size + 1) (w.alloc (.cells #[.int .i64 m.ep, .int .i64 m.log, .slice A1 m.nw.length c1, .slice A2 m.od.length c2] 91)) (((w.alloc (.cells #[.int .i64 m.ep, .int .i64 m.log, .slice A1 m.nw.length c1, .slice A2 m.od.length c2] 91)).alloc (.cells #[.slice A1 m.nw.length c1, .slice A2 m.od.length c2] 41)).alloc (.cells #[.int .i64 m.log] 3)).drew ∧ Below (w.heap.size + 1) (w.alloc (.cells #[.int .i64 m.ep, .int .i64 m.log, .slice A1 m.nw.length c1, .slice A2 m.od.length c2] 91)) ((w.alloc (.cells #[.int .i64 m.ep, .int .i64 m.log, .slice A1 m.nw.length c1, .slice A2 m.od.length c2] 91)).alloc (.cells #[.slice A1 m.nw.length c1, .slice A2 m.od.length c2] 41)).drew) := ⟨hBa, hBb, hBc⟩
    have UP := Lib.hid up
    have HB0 : Hid (Below (w.heap.size + 1) (w.alloc (.cells #[.int .i64 m.ep, .int .i64 m.log, .slice A1 m.nw.length c1, .slice A2 m.od.length c2] 91)) (w.alloc (.cells #[.int .i64 m.ep, .int .i64 m.log, .slice A1 m.nw.length c1, .slice A2 m.od.length c2] 91)).drew) := (Below.refl _ _).drew
    obtain ⟨i0, hi, hz0, hz1, hz2⟩ := info_parts info_int
    clear hB0 hBa hBb hBc up ga gb gc la lb
    go_cut [3] from 15 to 24 (fun s3 wx => ∃ v3, s3 = v3 ∧ Ints w.heap.size wx v3 m.all ∧ Below w.heap.size w wx)
    case first =>
      go_region_held3 (fun w' => (w'.cell? ⟨w.heap.size, 1, none⟩ = some (.int .i64 m.log) ∧ w'.cell? ⟨w.heap.size, 2, none⟩ = some (.slice A1 m.nw.length c1) ∧ w'.cell? ⟨w.heap.size, 3, none⟩ = some (.slice A2 m.od.length c2)) ∧ Below (w.heap.size + 1) (w.alloc (.cells #[.int .i64 m.ep, .int .i64 m.log, .slice A1 m.nw.length c1, .slice A2 m.od.length c2] 91)) w')
        ((first
          | exact HC.out _ hB5
          | exact HC.out _ hB6
          | exact HC.out _ hB4
          | exact HC.out _ HB0.out
          | exact HC.out _ HBA.out.2.2
          | exact HC.out _ HBA.out.1
          | exact HC.out _ HBA.out.2.1
          | exact HC.out _ ((Below.refl _ _).alloc (by simp) _).drew))
        ((first
          | (go_at_call 98; ((with_reducible refine CA.out.mono ?_); rintro e w3 ⟨v3, rfl, hi3, hB4, q17⟩))
          | (go_at_call 98; ((with_reducible refine CB.out.mono ?_); rintro e w3 ⟨v3, rfl, hi3, hB4, q17⟩))
          | (go_at_call 98; ((with_reducible refine CC.out.mono ?_); rintro e w3 ⟨v3, rfl, hi3, hB4⟩; have q18 := Blk.new w3 3 #[.int .i64 m.log]; have hi4 : Ints B (w3.alloc (.cells #[.int .i64 m.log] 3)) v3 (m.nw ++ m.od) := hi3.below ((Below.refl _ _).alloc (Nat.le_refl _) _); have s18 : w.heap.size + 1 ≤ w3.heap.size := (by have := hB4.size; simp at this; omega); have hB6 := hB4.alloc s18 (.cells #[.int .i64 m.log] 3)))
          | (refine step_append_rd rfl (.tmp 17) (.tmp 23) 41 rfl (w.heap.size + 1) 3 i0 _ 1 8 Try.underlying41 hi hz0 hz1 hz2 rfl (by decide) _ 1 [.int .i64 m.log] rfl (own_one q17 (by omega)) B 3 v3 _ _ rfl hi3 ints_one (by unfold maxLen; simp <;> omega) (by simp <;> omega) (by have := hB4.size; simp at this; omega) ?_; intro v4 w4 hown4 hg4 hat4; have hB5 : Below (w.heap.size + 1) (w.alloc (.cells #[.int .i64 m.ep, .int .i64 m.log, .slice A1 m.nw.length c1, .slice A2 m.od.length c2] 91)) w4 := hB4.grown hg4 (by have := hB4.size; simp at this; omega) (own_ge (own_one (base := w.heap.size + 1) q17 (by omega))))
          | (refine step_append_rd rfl (.tmp 17) (.tmp 23) 41 rfl (w.heap.size + 1) 3 i0 (.int .i64 0) 1 8 Try.underlying41 hi hz0 hz1 hz2 rfl (by decide) (.slice (some ⟨w3.heap.size, 0, none⟩) 1 1) 1 [.int .i64 m.log] rfl (own_one q18 s18) B 3 v3 (m.nw ++ m.od).length ((m.nw ++ m.od).map (.int .i64)) rfl hi4 ints_one (by unfold maxLen; simp <;> omega) (by simp <;> omega) (by have := hB6.size; simp at this ⊢; omega) ?_; intro v4 w4 hown4 hg4 hat4; have hB5 : Below (w.heap.size + 1) (w.alloc (.cells #[.int .i64 m.ep, .int .i64 m.log, .slice A1 m.nw.length c1, .slice A2 m.od.length c2] 91)) w4 := hB6.grown hg4 (by have := hB6.size; simp at this ⊢; omega) (own_ge (own_one q18 s18)))))
      all_goals
        have HI4 : Hid (Ints w.heap.size w4 v4 m.all) := by
          have := Rd.of_own (B := w.heap.size) hown4
          have e : (1 + (m.nw ++ m.od).length) = m.all.length := by simp [Man.all]; omega
          rw [e] at this
          exact this
        have HB5 := Lib.hid (UP.out _ hB5)
        clear hown4 hg4 hat4 hi3 hB4 hB5
        go_wp2_with fail
        go_meet
        exact ⟨v4, rfl, HI4.out, HB5.out⟩
    case rest =>
      obtain ⟨v3, rfl, hi3, hB3⟩ := hcut
      have hlen : m.all.length ≤ 2001 := by simp [Man.all]; omega
      obtain ⟨A3, c3, rfl, q1, q2, hcell⟩ := hi3.form
      have HC3 := Lib.hid hcell
      have HI3 := Lib.hid hi3
      have HB3 := Lib.hid hB3
      clear hcell hi3 hB3 CA CB CC HBA HB0 UP hi hz0 hz1 hz2 HC x0 x1 x2 x3 e1 e2
      generalize m.all = l at *
      go_wp2_with fail
      go_loop [27] (fun i => ∃ k : Nat, k ≤ l.length ∧ i = .int .i64 k ∧ Hid (m.fault = chk (l.take k) (l.drop k))) (fun i => l.length - (intOf i).toNat)
      case atStart => exact ⟨0, Nat.zero_le _, rfl, hf⟩
      case round =>
        obtain ⟨k, hk, rfl, hch⟩ := hrel
        by_cases hlt : k < l.length
        · obtain ⟨x, hx, htk, hdr⟩ := getElem?_of_lt hlt
          obtain ⟨b, o, rfl, hb, hc1⟩ := HC3.out k x hx
          have HCO := Lib.hid (contains_any w.heap.size _ (l.take k) x wc (ints_take HI3.out hk))
          have g1 : (0 : Int) ≤ (k : Int) := by omega
          have g2 : (k : Int) < (l.length : Int) := by omega
          have g3 : (k : Int) ≤ (c3 : Int) := by omega
          rw [hdr] at hch
          have HT := Lib.hid htk
          clear hx htk hdr
          by_cases b1 : x < 2
          · have HF : Hid (m.fault = 1) := by rw [Hid, hch.out, chk, if_pos (.inl b1)]
            go_wp2_with fail
            go_ret
            exact ⟨by rw [HF.out]; rfl, HB3.out⟩
          · by_cases b2 : 24 ≤ x
            · have HF : Hid (m.fault = 1) := by rw [Hid, hch.out, chk, if_pos (.inr b2)]
              go_wp2_with fail
              go_ret
              exact ⟨by rw [HF.out]; rfl, HB3.out⟩
            · cases hin : inL (l.take k) x
              · have HF : Hid (m.fault = chk (l.take (k + 1)) (l.drop (k + 1))) := by rw [Hid, hch.out, chk_step b1 b2 hin, HT.out]
                rw [hin] at HCO
                clear hin
                go_wp2_with (go_at_call 99; refine HCO.out.mono ?_; rintro e w5 ⟨rfl, rfl⟩)
                go_round
                case rel => exact ⟨k + 1, by omega, by go_num, HF⟩
                case measure => simp [intOf] <;> omega
              · have HF : Hid (m.fault = 3) := by
                  rw [Hid, hch.out, chk, if_neg (by omega), if_pos (by exact hin)]
                rw [hin] at HCO
                clear hin
                go_wp2_with (go_at_call 99; refine HCO.out.mono ?_; rintro e w5 ⟨rfl, rfl⟩)
                go_ret
                exact ⟨by rw [HF.out]; rfl, HB3.out⟩
        · have HF : Hid (m.fault = 0) := by rw [Hid, hch.out, List.drop_eq_nil_of_le (by omega)]; rfl
          go_wp2_with fail
          go_ret
          exact ⟨by rw [HF.out]; rfl, HB3.out⟩
theorem rd_at' {B T sz n : Nat} {w : World} {xs : List Value} {A : Option Addr} {m cap : Nat} (h : Rd B T sz w (.slice A m cap) n xs) : 0 < n → ∃ b o, A = some ⟨b, o, none⟩ ∧ Kd B T w b ∧ b < w.heap.size ∧ ∀ j u, xs[j]? = some u → w.cell? ⟨b, o + j, none⟩ = some u := by
  obtain ⟨_, A', cap', e, _, _, h5⟩ := h
  cases e
  exact h5
theorem rd_form' {B T sz n : Nat} {w : World} {xs : List Value} {v : Value} (h : Rd B T sz w v n xs) : ∃ A cap, v = .slice A n cap := by
  obtain ⟨_, A', cap', e, _⟩ := h
  exact ⟨A', cap', e⟩
theorem own_type {w : World} {base e size n g : Nat} {v : Value} {xs : List Value} (h : w.ownsRow base e size v n xs) (hg : v.ownBlock = some g) : ∃ cs, w.heap[g]? = some (.cells cs e (0, 0)) := by
  rcases h.2 with ⟨rfl, _⟩ | ⟨g', cap, cur, rfl, _, hh, _⟩
  · cases hg
  · cases hg; exact ⟨cur, hh⟩
theorem ints_grown {B base e size n : Nat} {w w' : World} {v u : Value} {l : List Int} {xs : List Value} (h : Ints B w v l) (ho : w.ownsRow base e size u n xs) (hB : B ≤ base) (he : e ≠ 3) (hg : w.grownBy w' u.ownBlock) : Ints B w' v l :=
  Rd.grown h hg fun g hr _ => ⟨Nat.le_trans hB (own_ge ho g hr), by obtain ⟨cs, hc⟩ := own_type ho hr; exact ⟨cs, e, _, hc, he⟩⟩
def mbytesS (m : Man) : ByteArray := if m.fault = 0 then m.bytes else ByteArray.empty
theorem info_u8 : (Try.prog.info? 5).map (fun i => (i.zero, i.size, i.bytes)) = some (some (.int .u8 0), 1, 1) := by kernel_rfl
set_option maxRecDepth 20000 in
set_option maxHeartbeats 8000000 in
theorem mbytes_any (B : Nat) (v : Value) (m : Man) (w : World) (h : ManV B w v m) (h1 : m.nw.length ≤ 1000) (h2 : m.od.length ≤ 1000) :
    Calls Try.prog 59 #[v] w fun e w' => e = .returned (.tuple #[.string (mbytesS m), errV m.fault]) ∧ Below w.heap.size w w' := by
  have hc := mcheck_any B v m (w.alloc (.cells v.cells 91)) (h.below ((Below.refl _ _).alloc (Nat.le_refl _) _)) h1 h2
  obtain ⟨vn, vo, rfl, hn, ho⟩ := h
  obtain ⟨A1, c1, rfl, k1, k2, kX⟩ := hn.form
  obtain ⟨A2, c2, rfl, k3, k4, kY⟩ := ho.form
  clear kX kY
  have HN := Lib.hid hn
  have HO := Lib.hid ho
  have HCK : Hid (Calls Try.prog 63 #[.agg #[.int .i64 m.ep, .int .i64 m.log, .slice A1 m.nw.length c1, .slice A2 m.od.length c2]] (w.alloc (.cells #[.int .i64 m.ep, .int .i64 m.log, .slice A1 m.nw.length c1, .slice A2 m.od.length c2] 91)) _) := hc
  clear hn ho hc
  have hx : Hid (Blk (w.alloc (.cells #[.int .i64 m.ep, .int .i64 m.log, .slice A1 m.nw.length c1, .slice A2 m.od.length c2] 91)) w.heap.size 91 #[.int .i64 m.ep, .int .i64 m.log, .slice A1 m.nw.length c1, .slice A2 m.od.length c2]) := Blk.new w _ _
  by_cases hf : m.fault = 0
  · have HF := Lib.hid hf
    rw [hf, show errV 0 = Value.nilIface from rfl] at HCK
    obtain ⟨z1, z2, z3, z4⟩ := fault_zero.1 hf
    clear hf
    go_enter Try.func59, Try.ntmps59
    go_wp2_with fail
    refine HCK.out.mono ?_
    rintro e w1 ⟨rfl, hb1⟩
    have hx1 := hx.out.below hb1 (by simp)
    have y0 := hx1.cell 0
    have y1 := hx1.cell 1
    have y2 := hx1.cell 2
    have y3 := hx1.cell 3
    simp at y0 y1 y2 y3
    have HB1 : Hid (Below w.heap.size w w1) := ((Below.refl _ _).alloc (Nat.le_refl _) _).trans (hb1.mono (by simp))
    have hlt := hx1.lt
    clear hx1 hb1 HCK
    go_wp2_with fail
    have hb2 : Below w.heap.size w ((w1.alloc (.cells #[.int .u8 77, .int .u8 (m.ep % 256), .int .u8 (m.ep / 256 % 256), .int .u8 (m.ep / 65536), .int .u8 (m.log % 256), .int .u8 ((m.nw.length : Int) % 256), .int .u8 ((m.od.length : Int) % 256)] 5)).alloc (.cells #[.slice A1 m.nw.length c1, .slice A2 m.od.length c2] 41)) := (HB1.out.alloc HB1.out.size _).alloc (by have := HB1.out.size; simp; omega) _
    have hg := Blk.new (w1.alloc (.cells #[.int .u8 77, .int .u8 (m.ep % 256), .int .u8 (m.ep / 256 % 256), .int .u8 (m.ep / 65536), .int .u8 (m.log % 256), .int .u8 ((m.nw.length : Int) % 256), .int .u8 ((m.od.length : Int) % 256)] 5)) 41 #[.slice A1 m.nw.length c1, .slice A2 m.od.length c2]
    rw [World.size_alloc] at hg
    have hrow := (Blk.new w1 5 #[.int .u8 77, .int .u8 (m.ep % 256), .int .u8 (m.ep / 256 % 256), .int .u8 (m.ep / 65536), .int .u8 (m.log % 256), .int .u8 ((m.nw.length : Int) % 256), .int .u8 ((m.od.length : Int) % 256)]).alloc (.cells #[.slice A1 m.nw.length c1, .slice A2 m.od.length c2] 41)
    have HCC := Lib.hid (concat_any B _ _ _ m.nw m.od _ hg (HN.out.below hb2) (HO.out.below hb2) (by omega) (by omega))
    have HB2 := Lib.hid hb2
    have HROW := Lib.hid hrow
    have HS1 := Lib.hid HB1.out.size
    clear hb2 hg hrow y0 y1 y2 y3
    refine HCC.out.mono ?_
    rintro e w3 ⟨v3, rfl, ho3, hb3⟩
    have hi3 : Ints w.heap.size w3 v3 (m.nw ++ m.od) := Rd.of_own ho3
    have HB3 := Lib.hid (HB2.out.trans (hb3.mono HB2.out.size))
    have hr3 := HROW.out.below hb3 HROW.out.lt
    have HI3 := Lib.hid hi3
    obtain ⟨A3, c3, rfl, q1, q2, hcell⟩ := hi3.form
    have HO3 : Hid (w3.ownsRow w.heap.size 5 1 (.slice (some ⟨w1.heap.size, 0, none⟩) 7 7) 7 (#[.int .u8 77, .int .u8 (m.ep % 256), .int .u8 (m.ep / 256 % 256), .int .u8 (m.ep / 65536), .int .u8 (m.log % 256), .int .u8 ((m.nw.length : Int) % 256), .int .u8 ((m.od.length : Int) % 256)].toList)) := ⟨rfl, .inr ⟨w1.heap.size, 7, _, rfl, HS1.out, hr3, Nat.le_refl _, by decide, rfl, rfl⟩⟩
    have hL : (m.nw ++ m.od).length ≤ 2000 := by simp; omega
    have HEQ : Hid (m.bytes = strOfNums ([77, m.ep % 256, m.ep / 256 % 256, m.ep / 65536, m.log % 256, (m.nw.length : Int) % 256, (m.od.length : Int) % 256] ++ (m.nw ++ m.od).map (· % 256))) := rfl
    clear hb3 hr3 hi3 ho3 hcell HCC HB2 HROW HS1 hlt
    generalize m.nw ++ m.od = l at *
    have hL2 : (l.length : Int) ≤ 2000 := by omega
    go_wp2_with fail
    go_loopw [5, 43] (fun u i wr => ∃ k : Nat, k ≤ l.length ∧ i = .int .i64 k ∧ Hid (wr.ownsRow w.heap.size 5 1 u (7 + k) (#[.int .u8 77, .int .u8 (m.ep % 256), .int .u8 (m.ep / 256 % 256), .int .u8 (m.ep / 65536), .int .u8 (m.log % 256), .int .u8 ((m.nw.length : Int) % 256), .int .u8 ((m.od.length : Int) % 256)].toList ++ (l.take k).map (fun x => Value.int .u8 (x % 256)))) ∧ Below w.heap.size w wr ∧ Hid (Ints w.heap.size wr (.slice A3 l.length c3) l)) (fun _ i _ => l.length - (intOf i).toNat)
    case atStart => exact ⟨0, Nat.zero_le _, rfl, HO3.out, HB3.out, HI3.out⟩
    case round =>
      obtain ⟨k, hk, rfl, hown, hbl, hin⟩ := hrel
      by_cases hlt : k < l.length
      · obtain ⟨x, hx, htk, _⟩ := getElem?_of_lt hlt
        obtain ⟨A4, c4, e4, _, _, hcell⟩ := hin.out.form
        cases e4
        obtain ⟨b, o, rfl, hb, d1⟩ := hcell k x hx
        have g1 : (0 : Int) ≤ (k : Int) := by omega
        have g2 : (k : Int) < (l.length : Int) := by omega
        have HT := Lib.hid htk
        obtain ⟨i0, hi, hz0, hz1, hz2⟩ := info_parts info_u8
        have hbs := hbl.size
        have hown' := Lib.hid (own_alloc hown.out (.cells #[.int .u8 (x % 256)] 5))
        have hone := Lib.hid (Rd.of_own (B := B) (own_one (base := 0) (Blk.new wr 5 #[.int .u8 (x % 256)]) (by omega)))
        have HI' := Lib.hid (hin.out.below ((Below.refl _ _).alloc (Nat.le_refl _) (.cells #[.int .u8 (x % 256)] 5)))
        have HB' := Lib.hid (hbl.alloc hbl.size (.cells #[.int .u8 (x % 256)] 5))
        clear hx htk hcell
        go_wp2_with (at_builtin; go_loud (refine wpList_append_rd _ rfl (.tmp 47) (.tmp 50) 139 rfl w.heap.size 5 i0 _ 1 1 Try.underlying139 hi hz0 hz1 hz2 rfl (by decide) u5 _ _ rfl hown'.out B 5 _ 1 _ rfl hone.out (by simp [Value.oneCell']) (by unfold maxLen; omega) (by omega) (by simp; omega) ?_); intro v4 w4 hown4 hg4 hat4)
        have hb4 := below_own HB'.out (Nat.le_refl _) hown'.out hg4
        have hi4 := ints_grown HI'.out hown'.out (Nat.le_refl _) (by decide) hg4
        have HO4 : Hid (w4.ownsRow w.heap.size 5 1 v4 (7 + (k + 1)) (#[.int .u8 77, .int .u8 (m.ep % 256), .int .u8 (m.ep / 256 % 256), .int .u8 (m.ep / 65536), .int .u8 (m.log % 256), .int .u8 ((m.nw.length : Int) % 256), .int .u8 ((m.od.length : Int) % 256)].toList ++ (l.take (k + 1)).map (fun x => Value.int .u8 (x % 256)))) := by
          rw [Hid, HT.out, ← Nat.add_assoc]
          simpa using hown4
        have HI4 := Lib.hid hi4
        clear hi hz0 hz1 hz2 hg4 hat4 hown4 hi4
        go_roundw
        case rel => exact ⟨k + 1, by omega, by go_num, HO4, hb4, HI4⟩
        case measure => simp [intOf] <;> omega
      · have hkl : k = l.length := by omega
        subst hkl
        rw [List.take_length] at hown
        have hrd := Rd.of_own (B := w.heap.size) hown.out
        obtain ⟨A5, c5, rfl⟩ := rd_form' hrd
        obtain ⟨b5, o5, rfl, _, _, hc5⟩ := rd_at' hrd (by omega)
        have hcv := fun T hT => run_convert_bytes_arg (P := Try.prog) wr 139 5 Try.underlying139 Try.underlying5 b5 o5 (7 + l.length) c5 ([77, m.ep % 256, m.ep / 256 % 256, m.ep / 65536, m.log % 256, (m.nw.length : Int) % 256, (m.od.length : Int) % 256] ++ l.map (· % 256)) (by simp <;> omega) (fun i hi => by
          refine hc5 i _ ?_
          have e : #[.int .u8 77, .int .u8 (m.ep % 256), .int .u8 (m.ep / 256 % 256), .int .u8 (m.ep / 65536), .int .u8 (m.log % 256), .int .u8 ((m.nw.length : Int) % 256), .int .u8 ((m.od.length : Int) % 256)].toList ++ l.map (fun x => Value.int .u8 (x % 256)) = ([77, m.ep % 256, m.ep / 256 % 256, m.ep / 65536, m.log % 256, (m.nw.length : Int) % 256, (m.od.length : Int) % 256] ++ l.map (· % 256)).map (.int .u8) := by simp
          rw [e, List.getElem?_map, List.getD_eq_getElem?_getD, List.getElem?_eq_getElem (by simp <;> omega)]
          rfl) T hT
        have hcv2 := hcv 9 Try.underlying9
        rw [← HEQ.out] at hcv2
        clear hcv hc5 hrd hown HEQ
        go_wp2_with fail
        exact bodyPost_ret (v := .tuple #[.string m.bytes, .nilIface]) (by simp [results, Try.results59, go_sem] <;> rfl) rfl ⟨by rw [mbytesS, HF.out]; rfl, hbl⟩
  · have he : errV m.fault = .iface 137 (.int .i64 m.fault) := if_neg hf
    have HS : Hid (mbytesS m = ByteArray.empty) := if_neg hf
    rw [he] at HCK
    have HE := Lib.hid he
    clear hf he
    go_enter Try.func59, Try.ntmps59
    go_wp2_with fail
    refine HCK.out.mono ?_
    rintro e w1 ⟨rfl, hb1⟩
    have HB1 : Hid (Below w.heap.size w w1) := ((Below.refl _ _).alloc (Nat.le_refl _) _).trans (hb1.mono (by simp))
    clear hb1 HCK
    go_wp2_with fail
    exact bodyPost_ret (v := .tuple #[.string ByteArray.empty, .iface 137 (.int .i64 m.fault)]) (by simp [results, Try.results59, go_sem] <;> rfl) rfl ⟨by rw [HS.out, HE.out], HB1.out⟩
end Go.Proofs.Ytaepdbkfaoiimaa
