/- The contracts of the reference's lists of entries: Put, Get, Live, Merged. Conditions: lists of at most a million entries. -/
import Derived.Test.YtaepdbkfaoiimacMf
set_option linter.unusedVariables false
set_option linter.unusedSimpArgs false
namespace Go.Proofs.Ytaepdbkfaoiimac
open Go.RowKit


set_option maxHeartbeats 1000000 in
theorem rget_any (B : Nat) (v : Value) (l : List Ent) (key : ByteArray) (w : World) (h : Ents B w v l) :
    Calls Try.prog 21 #[v, .string key] w fun e w' => e = .returned (.tuple #[((getE l key).getD Ent.zero).val, .bool (getE l key).isSome]) ∧ Below w.heap.size w w' := by
  obtain ⟨A, c, rfl, hc, hc2, hcell⟩ := h.form
  have HC := Lib.hid hcell
  clear hcell h
  go_enter Try.func21, Try.ntmps21
  go_wp2_with fail
  go_loop [6] (fun i => ∃ k : Nat, k ≤ l.length ∧ i = .int .i64 k ∧ Hid (getE (l.take k) key = none)) (fun i => l.length - (intOf i).toNat)
  case atStart => exact ⟨0, Nat.zero_le _, rfl, rfl⟩
  case round =>
    obtain ⟨k, hk, rfl, hz⟩ := hrel
    have hbl : Below w.heap.size w (w.alloc (.cells #[.string { data := #[] }, .string { data := #[] }, .bool false] 34)) := (Below.refl _ _).alloc (Nat.le_refl _) _
    by_cases hlt : k < l.length
    · obtain ⟨x, hx, htk, hdk⟩ := getElem?_of_lt hlt
      obtain ⟨b, o, rfl, hb, c1, c2, c3⟩ := HC.out k x hx
      have d1 := (hbl.cell (p := ⟨b, o + k * 3, none⟩) hb).trans c1
      have d2 := (hbl.cell (p := ⟨b, o + k * 3 + 1, none⟩) hb).trans c2
      have d3 := (hbl.cell (p := ⟨b, o + k * 3 + 2, none⟩) hb).trans c3
      have HT := Lib.hid htk
      have HD := Lib.hid hdk
      clear htk hx hdk c1 c2 c3
      by_cases hkey : x.k = key
      · have ht : (x.k.toList == key.toList) = true := by rw [hkey]; simp
        have hf : Hid (getE l key = some x) := by
          have e : l = l.take k ++ x :: l.drop (k + 1) := by rw [← HD.out, List.take_append_drop]
          have h1 := hz.out
          unfold getE at h1
          rw [Hid, getE, e, List.find?_append, h1]
          simp [hkey]
        clear hkey
        go_wp2_with fail
        refine bodyPost_ret (v := .tuple #[x.val, .bool true]) (by simp [results, Try.results21, go_sem, Ent.val]) rfl ⟨by rw [hf.out]; rfl, ?_⟩
        exact (Below.refl _ _).alloc (Nat.le_refl _) _
      · have ht : (x.k.toList == key.toList) = false := by rw [ba_beq]; simp [hkey]
        have hf : Hid (getE (l.take (k + 1)) key = none) := by
          have h1 := hz.out
          unfold getE at h1
          rw [Hid, HT.out, getE, List.find?_append, h1]
          simp [hkey]
        clear hkey
        go_wp2_with fail
        go_round
        case rel => exact ⟨k + 1, by omega, by go_num, hf⟩
        case measure => simp [intOf] <;> omega
    · have hge : l.length ≤ k := by omega
      have hf : Hid (getE l key = none) := by
        have h1 := hz.out
        rw [List.take_of_length_le hge] at h1
        exact h1
      go_wp2_with fail
      refine bodyPost_ret (v := .tuple #[Ent.zero.val, .bool false]) (by simp [results, Try.results21, go_sem, Ent.val, Ent.zero]; rfl) rfl ⟨by rw [hf.out]; rfl, ?_⟩
      exact (Below.refl _ _).alloc (Nat.le_refl _) _

end Go.Proofs.Ytaepdbkfaoiimac
