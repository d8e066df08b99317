/- The plain model of a manifest: what is wrong with it, its bytes, the one of a page. Conditions: none. -/
import Derived.Test.YtaepdbkfaoiimaaParse
set_option linter.unusedVariables false
set_option linter.unusedSimpArgs false
namespace Go.Proofs.Ytaepdbkfaoiimaa
open Go.RowKit

structure Man where
  ep : Int
  log : Int
  nw : List Int
  od : List Int
def Man.zero : Man := ⟨0, 0, [], []⟩
def Man.all (m : Man) : List Int := m.log :: (m.nw ++ m.od)
/-- What is wrong with blocks, those ahead of them seen. -/
def chk (seen : List Int) : List Int → Nat
  | [] => 0
  | b :: l => if b < 2 ∨ 24 ≤ b then 1 else if seen.contains b then 3 else chk (seen ++ [b]) l
def Man.fault (m : Man) : Nat := if m.ep < 1 ∨ 100000 < m.ep then 1 else chk [] m.all
def Man.bytes (m : Man) : ByteArray := strOfNums ([77, m.ep % 256, m.ep / 256 % 256, m.ep / 65536, m.log % 256, (m.nw.length : Int) % 256, (m.od.length : Int) % 256] ++ (m.nw ++ m.od).map (· % 256))
def manAt (s : ByteArray) : Man :=
  ⟨bt s 1 + 256 * bt s 2 + 65536 * bt s 3, bt s 4, (List.range (bt s 5)).map (fun i => (bt s (7 + i) : Int)), (List.range (bt s 6)).map (fun i => (bt s (7 + bt s 5 + i) : Int))⟩
/-- The manifest of a page. -/
def manOf (s : ByteArray) : Option Man :=
  if s.size < 7 ∨ bt s 0 ≠ 77 ∨ s.size < 7 + bt s 5 + bt s 6 then none else if (manAt s).fault = 0 then some (manAt s) else none

theorem chk_zero : ∀ {l seen : List Int}, seen.Nodup → (chk seen l = 0 ↔ (∀ b ∈ l, 2 ≤ b ∧ b < 24) ∧ (seen ++ l).Nodup)
  | [], seen, hs => by simp [chk, hs]
  | b :: l, seen, hs => by
    unfold chk
    split
    · rename_i hb
      constructor
      · intro h; cases h
      · rintro ⟨h, _⟩; have := h b (by simp); omega
    · rename_i hb
      split
      · rename_i hm
        have hm' : b ∈ seen := by simpa using hm
        constructor
        · intro h; cases h
        · rintro ⟨_, h⟩
          rw [List.nodup_append] at h
          exact absurd rfl (h.2.2 b hm' b (by simp))
      · rename_i hm
        have hm' : b ∉ seen := by simpa using hm
        have hs' : (seen ++ [b]).Nodup := by
          rw [List.nodup_append]
          refine ⟨hs, by simp, fun x hx y hy e => ?_⟩
          simp at hy
          subst hy; subst e
          exact hm' hx
        rw [chk_zero hs', List.append_assoc, List.singleton_append]
        constructor
        · rintro ⟨h1, h2⟩
          refine ⟨fun x hx => ?_, h2⟩
          rcases List.mem_cons.1 hx with rfl | hx
          · omega
          · exact h1 x hx
        · rintro ⟨h1, h2⟩
          exact ⟨fun x hx => h1 x (List.mem_cons_of_mem _ hx), h2⟩
theorem fault_zero {m : Man} : m.fault = 0 ↔ 1 ≤ m.ep ∧ m.ep ≤ 100000 ∧ (∀ b ∈ m.all, 2 ≤ b ∧ b < 24) ∧ m.all.Nodup := by
  unfold Man.fault
  split
  · rename_i h
    constructor
    · intro h'; cases h'
    · rintro ⟨h1, h2, _⟩; omega
  · rename_i h
    rw [chk_zero List.nodup_nil, List.nil_append]
    constructor
    · rintro ⟨h1, h2⟩; exact ⟨by omega, by omega, h1, h2⟩
    · rintro ⟨_, _, h1, h2⟩; exact ⟨h1, h2⟩
theorem chk_le : ∀ (l seen : List Int), chk seen l ≤ 3
  | [], _ => by simp [chk]
  | b :: l, seen => by unfold chk; split <;> (try split) <;> first | omega | exact chk_le l _
theorem fault_le (m : Man) : m.fault ≤ 3 := by unfold Man.fault; split <;> first | omega | exact chk_le _ _
/-- At most 22 blocks. -/
theorem nodup_len : ∀ (n : Nat) (l : List Int), l.Nodup → (∀ b ∈ l, 0 ≤ b ∧ b < n) → l.length ≤ n
  | 0, l, _, h => by
    cases l with
    | nil => simp
    | cons b l => have := h b (by simp); omega
  | n + 1, l, hn, h => by
    have h1 : (l.filter (fun b => decide (b ≠ (n : Int)))).length ≤ n := by
      refine nodup_len n _ (hn.filter _) fun b hb => ?_
      simp at hb
      have := h b hb.1
      omega
    have h2 : l.length ≤ (l.filter (fun b => decide (b ≠ (n : Int)))).length + 1 := by
      have h3 := List.length_eq_countP_add_countP (fun b => decide (b ≠ (n : Int))) (l := l)
      rw [← List.countP_eq_length_filter] 
      have h4 : l.countP (fun b => decide (¬ (decide (b ≠ (n : Int)) = true))) ≤ 1 := by
        have h5 : l.countP (fun b => decide (¬ (decide (b ≠ (n : Int)) = true))) = l.count (n : Int) := by
          unfold List.count
          congr 1
          funext b
          by_cases e : b = (n : Int) <;> simp [e]
        rw [h5]
        exact List.nodup_iff_count.1 hn _
      omega
    omega
theorem all_len {m : Man} (h : m.fault = 0) : m.all.length ≤ 24 := by
  obtain ⟨_, _, h1, h2⟩ := fault_zero.1 h
  exact nodup_len 24 _ h2 fun b hb => by have := h1 b hb; omega
end Go.Proofs.Ytaepdbkfaoiimaa
