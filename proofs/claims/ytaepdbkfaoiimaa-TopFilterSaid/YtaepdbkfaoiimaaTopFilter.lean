/- TopFilter returns true at every input, and leaves it as it was. Conditions: none. -/
import Derived.Test.YtaepdbkfaoiimaaFiltLaw
import Derived.Test.YtaepdbkfaoiimaaOpen
set_option linter.unusedVariables false
set_option linter.unusedSimpArgs false
namespace Go.Proofs.Ytaepdbkfaoiimaa
open Go.ChangeShapes Go.WideShapes Go.ChangeAt Go.RowKit Go.WideMaps Go.WideElems
open Go.ChangeMaps (open_string shut_string)

theorem foldl_or_bit (l : List ByteArray) : ∀ (n i : Nat), n.testBit i = true → (l.foldl (fun f s => f ||| spBits s) n).testBit i = true := by
  induction l with
  | nil => intro n i h; exact h
  | cons s l ih => intro n i h; exact ih _ _ (by rw [Nat.testBit_or, h, Bool.true_or])
theorem spBits_a (s : ByteArray) : (spBits s).testBit (spA s) = true := by rw [spBits, Nat.testBit_or, Nat.testBit_two_pow_self, Bool.true_or]
theorem spBits_b (s : ByteArray) : (spBits s).testBit (spB s) = true := by rw [spBits, Nat.testBit_or, Nat.testBit_two_pow_self, Bool.or_true]
theorem foldl_or_mem (l : List ByteArray) (s : ByteArray) (h : s ∈ l) : ∀ (n i : Nat), (spBits s).testBit i = true → (l.foldl (fun f s => f ||| spBits s) n).testBit i = true := by
  induction l with
  | nil => cases h
  | cons a l ih =>
    intro n i hi
    rcases List.mem_cons.1 h with rfl | h
    · exact foldl_or_bit l _ _ (by rw [Nat.testBit_or, hi, Bool.or_true])
    · exact ih h _ _ hi
theorem may_mem (l : List ByteArray) (s : ByteArray) (h : s ∈ l) : mayB (fOf l) s = true := by
  rw [mayB, fOf, foldl_or_mem l s h _ _ (spBits_a s), foldl_or_mem l s h _ _ (spBits_b s)]; rfl
theorem may_more (l m : List ByteArray) (s : ByteArray) (h : mayB (fOf l) s = true) : mayB (fOf (l ++ m)) s = true := by
  rw [mayB, Bool.and_eq_true] at h
  have e : fOf (l ++ m) = m.foldl (fun f s => f ||| spBits s) (fOf l) := by simp [fOf]
  rw [mayB, e, foldl_or_bit m _ _ h.1, foldl_or_bit m _ _ h.2]; rfl
theorem fOf_nil : fOf [] = 0 := rfl
theorem info_string : (Try.prog.info? 9).map (fun i => (i.zero, i.size, i.bytes)) = some (some (.string ByteArray.empty), 1, 16) := by kernel_rfl

set_option maxHeartbeats 1000000 in
theorem topFilter_walk (keys more : Value) (l m : List ByteArray) (s : ByteArray) (w : World) (hl : Strs w.heap.size w keys l) (hm : Strs w.heap.size w more m) (hs : s.size ≤ 9223372036854775807) :
    Calls Try.prog 10 #[keys, more, .string s] w fun e w' => e = .returned (.bool true) ∧ Below w.heap.size w w' := by
  have H0 := fOf_nil
  have H1 := may_k
  obtain ⟨A, c, rfl, hc, hc2, hcell⟩ := hl.form
  have HC := Lib.hid hcell
  clear hcell
  have HL : Hid (Strs w.heap.size w (.slice A l.length c) l) := hl
  have HM : Hid (Strs w.heap.size w more m) := hm
  clear hl hm
  go_enter Try.func10, Try.ntmps10
  go_wp2_with fail
  refine (of_any w.heap.size _ [] _ ⟨Rd.nil _ _ _ _, by simp⟩).mono ?_
  rintro e w' ⟨rfl, n0, rfl⟩
  go_wp2_with fail
  refine (of_any w.heap.size _ [kText] _ (strs_lit (w.drewN n0) kText (by decide) _)).mono ?_
  rintro e w' ⟨rfl, n, rfl⟩
  go_wp2_with fail
  refine (may_any _ kText _ (by decide) (fOf_lt _)).mono ?_
  rintro e w' ⟨rfl, rfl⟩
  have hb : Below w.heap.size w (((w.drewN n0).alloc (.cells #[.string kText] 9)).drewN n) := below_drewN' ((below_drewN' (Below.refl w.heap.size w) n0).alloc (Nat.le_refl _) _) n
  go_wp2_with fail
  generalize (((w.drewN n0).alloc (.cells #[.string kText] 9)).drewN n) = W at hb ⊢
  have hbs := hb.size
  refine (light_any w.heap.size _ l _ (HL.out.below hb)).mono ?_
  rintro e w' ⟨rfl, rfl⟩
  by_cases h1 : lightB l = true
  case neg =>
    have h1' : lightB l = false := by simpa using h1
    clear h1
    go_wp2_with fail
    go_ret
    exact ⟨rfl, hb⟩
  go_wp2_with fail
  refine (light_any w.heap.size _ m _ (HM.out.below hb)).mono ?_
  rintro e w' ⟨rfl, rfl⟩
  by_cases h2 : lightB m = true
  case neg =>
    have h2' : lightB m = false := by simpa using h2
    clear h2
    go_wp2_with fail
    go_ret
    exact ⟨rfl, hb⟩
  by_cases h20 : s.size ≤ 20
  case neg =>
    go_wp2_with fail
    go_ret
    exact ⟨rfl, hb⟩
  have hl60 : l.length ≤ 60 := by have := h1; simp [lightB] at this; omega
  have hm60 : m.length ≤ 60 := by have := h2; simp [lightB] at this; omega
  go_wp2_with fail
  refine (of_any w.heap.size _ l _ (HL.out.below hb)).mono ?_
  rintro e w' ⟨rfl, n1, rfl⟩
  obtain ⟨i0, hi, hz0, hz1, hz2⟩ := info_parts info_string
  go_wp2_with (first
    | (at_builtin; refine wpList_append_rd _ rfl (.const (.slice none 0 0)) (.tmp 33) 22 rfl w.heap.size 9 i0 _ 1 16 Try.underlying22 hi hz0 hz1 hz2 rfl (by decide) (.slice none 0 0) 0 [] rfl (World.ownsRow_nil _ _ _ _) w.heap.size 9 _ l.length (l.map .string) rfl ((HL.out.below hb).drewN n1).1 (by simp [Value.oneCell']) (by unfold maxLen; omega) (by omega) hbs ?_; intro v1 w1 hown1 hg1 hat1)
    | (at_builtin; refine wpList_append_rd _ rfl (.tmp 34) (.tmp 35) 22 rfl w.heap.size 9 i0 _ 1 16 Try.underlying22 hi hz0 hz1 hz2 rfl (by decide) v1 _ _ rfl hown1 w.heap.size 9 _ m.length (m.map .string) rfl (((HM.out.below hb).drewN n1).1.grown hg1 (by simp [Value.ownBlock])) (by simp [Value.oneCell']) (by unfold maxLen; omega) (by omega) (Nat.le_trans hbs hg1.size) ?_; intro v2 w2 hown2 hg2 hat2))
  have hb1 : Below w.heap.size w w1 := (below_drewN' hb n1).grown hg1 hbs (by simp [Value.ownBlock])
  have hb2 : Below w.heap.size w w2 := hb1.grown hg2 hb1.size (fun k hk => by
    rcases hat1 with e | e <;> rw [e] at hk <;> simp [Value.ownBlock] at hk
    omega)
  have hown : w2.ownsRow w.heap.size 9 1 v2 (l ++ m).length ((l ++ m).map .string) := by simpa using hown2
  have hsz : ∀ x ∈ l ++ m, x.size ≤ 9223372036854775807 := fun x hx => by
    rcases List.mem_append.1 hx with h | h
    · exact HL.out.2 x h
    · exact HM.out.2 x h
  refine (of_any w.heap.size _ (l ++ m) _ ⟨Rd.of_own hown, hsz⟩).mono ?_
  rintro e w' ⟨rfl, n2, rfl⟩
  have HC2 : Hid (∀ i x, l[i]? = some x → ∃ b o, A = some ⟨b, o, none⟩ ∧ w2.cell? ⟨b, o + i, none⟩ = some (.string x)) := fun i x h => by
    obtain ⟨b, o, e1, e2, e3⟩ := HC.out i x h
    exact ⟨b, o, e1, (hb2.cell (p := ⟨b, o + i, none⟩) e2).trans e3⟩
  clear hown hown1 hown2 hg1 hg2 hat1 hat2 hsz hi hz0 hz1 hz2 HC hb hbs hb1
  go_wp2_with fail
  go_loop [9] (fun i => ∃ k : Nat, k ≤ l.length ∧ i = .int .i64 k) (fun i => l.length - (intOf i).toNat)
  case atStart => exact ⟨0, Nat.zero_le _, rfl⟩
  case round =>
    obtain ⟨k, hk, rfl⟩ := hrel
    by_cases hlt : k < l.length
    · obtain ⟨x, hx, _, _⟩ := getElem?_of_lt hlt
      obtain ⟨b, o, rfl, hcell⟩ := HC2.out k x hx
      have hxm := List.mem_of_getElem? hx
      have hx2 := HL.out.2 x hxm
      have m1 := may_mem l x hxm
      have m2 := may_more l m x m1
      clear hx hxm HC2 HL
      go_wp2_with fail
      refine (may_any (fOf l) x _ hx2 (fOf_lt _)).mono ?_
      rintro e w' ⟨rfl, rfl⟩
      go_wp2_with fail
      refine (may_any (fOf (l ++ m)) x _ hx2 (fOf_lt _)).mono ?_
      rintro e w' ⟨rfl, rfl⟩
      go_wp2_with fail
      go_round
      case rel => exact ⟨k + 1, by omega, by go_num⟩
      case measure => simp [intOf]; omega
    · have hge : l.length ≤ k := by omega
      have hb3 : Below w.heap.size w (w2.drewN n2) := below_drewN' hb2 n2
      have hmm : mayB (fOf l) s = true → mayB (fOf (l ++ m)) s = true := may_more l m s
      by_cases hms : mayB (fOf l) s = true
      · have h2 := hmm hms
        clear hmm
        go_wp2_with fail
        refine (may_any (fOf l) s _ hs (fOf_lt _)).mono ?_
        rintro e w' ⟨rfl, rfl⟩
        go_wp2_with fail
        refine (may_any (fOf (l ++ m)) s _ hs (fOf_lt _)).mono ?_
        rintro e w' ⟨rfl, rfl⟩
        go_wp2_with fail
        go_ret
        exact ⟨rfl, hb3⟩
      · have hms' : mayB (fOf l) s = false := by simpa using hms
        clear hmm hms
        go_wp2_with fail
        refine (may_any (fOf l) s _ hs (fOf_lt _)).mono ?_
        rintro e w' ⟨rfl, rfl⟩
        go_wp2_with fail
        go_ret
        exact ⟨rfl, hb3⟩

set_option maxRecDepth 100000 in
theorem topFilter_holds : Rows.TopFilterSaid :=
  OpenClaim.holds_of_wide 10 Try.f10 rfl rfl rfl rfl rfl rfl rfl ⟨rfl, rfl, rfl, rfl, rfl⟩ rfl rfl rfl rfl rfl (by kernel_rfl) Try.func10 (by kernel_rfl)
    (of_decide_eq_true (by kernel_rfl)) (by unfold Func.isWrapper; first | (rw [if_pos (by decide +kernel)]; kernel_rfl) | (rw [if_neg (by decide +kernel)]; exact ⟨rfl, rfl⟩))
    (fun os started H enc _ => close_lifted Rows.topFilterSpec 10 Try.f10 os started H enc (by kernel_rfl) Try.func10 (by kernel_rfl) rfl
      (fun ds hd => by
        rw [Try.params10] at hd
        match ds, hd with
        | [d1, d2, d3], _ => rfl)
      (by kernel_rfl)
      (ChangeSpec.witness6 (enc := enc) (C := Try.checked) false ⟨#[], #[.slice none 0 0, .slice none 0 0, .string ByteArray.empty], []⟩ 8 (by kernel_rfl) (by kernel_rfl) (by kernel_rfl) (by kernel_rfl))
      (fun W base args ds p hval hA => by
        rw [Try.params10] at hA hval
        obtain ⟨v0, v1, v2, d0, d1, d2, p0, p1, p2, hargs, rfl, rfl, h0, h1, h2⟩ := trodAll_three hA
        obtain rfl : args = #[v0, v1, v2] := by cases args; simp_all
        obtain ⟨l, hl⟩ := strs_of (hval 0 _ v0 rfl rfl) h0
        obtain ⟨m, hm⟩ := strs_of (hval 1 _ v1 rfl rfl) h1
        obtain ⟨s, rfl, rfl, rfl, hs⟩ := open_string Try.underlying9 (hval 2 _ v2 rfl rfl) h2
        exact topFilter_walk v0 v1 l m s W hl hm (by unfold maxLen at hs; omega)))
#print axioms topFilter_holds
end Go.Proofs.Ytaepdbkfaoiimaa
