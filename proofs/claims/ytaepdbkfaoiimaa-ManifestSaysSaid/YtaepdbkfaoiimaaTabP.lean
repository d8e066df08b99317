/- Plain: what table.Write leaves. Conditions: none. -/
import Derived.Test.YtaepdbkfaoiimaaTab2
import Derived.Test.YtaepdbkfaoiimaaTabW
set_option linter.unusedVariables false
namespace Go.Proofs.Ytaepdbkfaoiimaa
open Go.RowKit

/-- From c to c' nothing has turned but block b's pages, and the fuse. -/
structure SameBut (b : Nat) (c c' : Chip) : Prop where
  other : ∀ i, i ≠ b → c'.b i = c.b i
  weak : (c'.b b).weak = (c.b b).weak
  bad : (c'.b b).bad = (c.b b).bad
theorem SameBut.refl (b : Nat) (c : Chip) : SameBut b c c := ⟨fun _ _ => rfl, rfl, rfl⟩
theorem SameBut.trans {b : Nat} {c c' c2 : Chip} (h : SameBut b c c') (k : SameBut b c' c2) : SameBut b c c2 := ⟨fun i hi => (k.other i hi).trans (h.other i hi), k.weak.trans h.weak, k.bad.trans h.bad⟩
theorem write_calm {c : Chip} {b : Nat} {d : ByteArray} (hb : b < 24) (hd : c.down = false) (hbad : (c.b b).bad = false) (hwk : (c.b b).weak = false) (hs : d.size ≤ 64) (hl : (c.b b).l.length < 8) :
    ∃ c' n, c.write b d = (c', n) ∧ SameBut b c c' ∧ (c.fuse < 0 → n = 0 ∧ c'.fuse < 0) ∧
      ((n = 0 ∧ c'.down = false ∧ c'.pend = c.pend ∧ (c'.b b).l = (c.b b).l ++ [⟨pad d, false⟩] ∧ (c'.b b).wear = (c.b b).wear) ∨ (n = 9 ∧ c'.down = true ∧ c'.pend = some (.wr b (pad d)) ∧ c'.b = c.b)) := by
  have hr : c.ready b = 0 := by unfold Chip.ready; rw [hd, if_neg (by simp), if_neg (by omega), Int.toNat_natCast, hbad]; simp
  unfold Chip.write
  rw [if_neg (by simp [hr]), if_neg (by omega), Int.toNat_natCast, if_neg (by omega), hwk, if_neg (by simp)]
  unfold Chip.step
  by_cases hf : c.fuse = 0
  · rw [if_pos hf]
    exact ⟨_, _, rfl, ⟨fun _ _ => rfl, rfl, rfl⟩, fun h => by omega, .inr ⟨rfl, rfl, rfl, rfl⟩⟩
  · rw [if_neg hf]
    refine ⟨_, _, rfl, ⟨fun i hi => ?_, ?_, ?_⟩, fun h => ⟨rfl, ?_⟩, .inl ⟨rfl, hd, rfl, ?_, ?_⟩⟩
    · simp [doP, Chip.set, hi]
    · simp [doP, Chip.set]
    · simp [doP, Chip.set]
    · show (if 0 < c.fuse then c.fuse - 1 else c.fuse) < 0
      rw [if_neg (by omega)]; exact h
    · simp [doP, Chip.set]
    · simp [doP, Chip.set]
theorem erase_calm {c : Chip} {b : Nat} (hb : b < 24) (hd : c.down = false) (hbad : (c.b b).bad = false) (hwk : (c.b b).weak = false) :
    ∃ c' n, c.erase b = (c', n) ∧ SameBut b c c' ∧ (c.fuse < 0 → n = 0 ∧ c'.fuse < 0) ∧
      ((n = 0 ∧ c'.down = false ∧ c'.pend = c.pend ∧ (c'.b b).l = [] ∧ (c'.b b).wear = wrap64 ((c.b b).wear + 1)) ∨ (n = 9 ∧ c'.down = true ∧ c'.pend = some (.er b) ∧ c'.b = c.b)) := by
  have hr : c.ready b = 0 := by unfold Chip.ready; rw [hd, if_neg (by simp), if_neg (by omega), Int.toNat_natCast, hbad]; simp
  unfold Chip.erase
  rw [if_neg (by simp [hr]), Int.toNat_natCast, hwk, if_neg (by simp)]
  unfold Chip.step
  by_cases hf : c.fuse = 0
  · rw [if_pos hf]
    exact ⟨_, _, rfl, ⟨fun _ _ => rfl, rfl, rfl⟩, fun h => by omega, .inr ⟨rfl, rfl, rfl, rfl⟩⟩
  · rw [if_neg hf]
    refine ⟨_, _, rfl, ⟨fun i hi => ?_, ?_, ?_⟩, fun h => ⟨rfl, ?_⟩, .inl ⟨rfl, hd, rfl, ?_, ?_⟩⟩
    · simp [doP, Chip.set, hi]
    · simp [doP, Chip.set]
    · simp [doP, Chip.set]
    · show (if 0 < c.fuse then c.fuse - 1 else c.fuse) < 0
      rw [if_neg (by omega)]; exact h
    · simp [doP, Chip.set]
    · simp [doP, Chip.set]
theorem fold_stuck {b : Int} {ds : List ByteArray} {st : Chip × Nat} (h : st.2 ≠ 0) : ds.foldl (pStepW b) st = st := by
  induction ds with
  | nil => rfl
  | cons d ds ih => rw [List.foldl_cons, show pStepW b st d = st from if_neg h]; exact ih
theorem fold_calm {b : Nat} (hb : b < 24) : ∀ (ds : List ByteArray) (c : Chip), c.down = false → (c.b b).bad = false → (c.b b).weak = false → (∀ d ∈ ds, d.size ≤ 64) → (c.b b).l.length + ds.length ≤ 8 →
    ∃ c' n, ds.foldl (pStepW b) (c, 0) = (c', n) ∧ SameBut b c c' ∧ (c.fuse < 0 → n = 0 ∧ c'.fuse < 0) ∧ (c'.b b).wear = (c.b b).wear ∧
      ((n = 0 ∧ c'.down = false ∧ c'.pend = c.pend ∧ (c'.b b).l = (c.b b).l ++ ds.map (fun d => ⟨pad d, false⟩)) ∨ (n = 9 ∧ c'.down = true ∧ ∃ d, c'.pend = some (.wr b d)))
  | [], c, hd, _, _, _, _ => ⟨c, 0, rfl, .refl _ _, fun h => ⟨rfl, h⟩, rfl, .inl ⟨rfl, hd, rfl, by simp⟩⟩
  | d :: ds, c, hd, hbad, hwk, hs, hl => by
    rw [List.length_cons] at hl
    obtain ⟨c1, n1, e1, s1, f1, h1⟩ := write_calm hb hd hbad hwk (hs d List.mem_cons_self) (by omega)
    have e2 : pStepW b (c, 0) d = (c1, n1) := by rw [pStepW, if_pos rfl]; exact e1
    rw [List.foldl_cons, e2]
    rcases h1 with ⟨rfl, d1, p1, l1, w1⟩ | ⟨rfl, d1, p1, b1⟩
    · obtain ⟨c2, n2, e3, s2, f2, w2, h2⟩ := fold_calm hb ds c1 d1 (s1.bad.trans hbad) (s1.weak.trans hwk) (fun x hx => hs x (List.mem_cons_of_mem _ hx)) (by rw [l1, List.length_append, List.length_singleton]; omega)
      refine ⟨c2, n2, e3, s1.trans s2, fun h => f2 (f1 h).2, w2.trans w1, ?_⟩
      rcases h2 with ⟨rfl, d2, p2, l2⟩ | h2
      · exact .inl ⟨rfl, d2, p2.trans p1, by rw [l2, l1]; simp⟩
      · exact .inr h2
    · rw [fold_stuck (by simp)]
      exact ⟨c1, 9, rfl, s1, fun h => absurd (f1 h).1 (by omega), by rw [b1], .inr ⟨rfl, d1, _, p1⟩⟩
theorem rawPages_size {l : List Ent} (h : tabF l = 0) : ∀ d ∈ rawPages l, d.size ≤ 64 := by
  intro d hd
  rcases List.mem_cons.1 hd with rfl | hd
  · rw [bitsB_size]; omega
  · obtain ⟨q, hq, rfl⟩ := List.mem_map.1 hd
    have hm := chunks2_mem hq
    have hall := chkT_all (tabF_parts h).2.2
    have := bytesL_size q.length q (fun e he => hall e (hm.2 e he))
    omega
/-- **What table.Write leaves**: the table; or the machine has fallen within that block. -/
theorem tabWrite_calm {c : Chip} {b : Nat} {l : List Ent} (hb : b < 24) (hd : c.down = false) (hbad : (c.b b).bad = false) (hwk : (c.b b).weak = false) (ht : tabF l = 0) :
    ∃ c' n, tabWrite c b l = (c', n) ∧ SameBut b c c' ∧ (c.fuse < 0 → n = 0 ∧ c'.fuse < 0) ∧
      ((n = 0 ∧ c'.down = false ∧ c'.pend = c.pend ∧ TabAt c' b l ∧ (c'.b b).wear = wrap64 ((c.b b).wear + 1)) ∨ (n = 9 ∧ c'.down = true ∧ ∃ p, c'.pend = some p ∧ p.blk = b)) := by
  obtain ⟨c1, n1, e1, s1, f1, h1⟩ := erase_calm hb hd hbad hwk
  unfold tabWrite
  rw [e1]
  rcases h1 with ⟨rfl, d1, p1, l1, w1⟩ | ⟨rfl, d1, p1, b1⟩
  · have hlen : (rawPages l).length ≤ 8 := by
      have := tabF_parts ht
      have := chunks2_len l
      simp [rawPages]
      omega
    obtain ⟨c2, n2, e3, s2, f2, w2, h2⟩ := fold_calm hb (rawPages l) c1 d1 (s1.bad.trans hbad) (s1.weak.trans hwk) (rawPages_size ht) (by rw [l1]; simpa using hlen)
    refine ⟨c2, n2, e3, s1.trans s2, fun h => f2 (f1 h).2, ?_⟩
    rcases h2 with ⟨rfl, d2, p2, l2⟩ | ⟨rfl, d2, x, p2⟩
    · exact .inl ⟨rfl, d2, p2.trans p1, ⟨by rw [l2, l1]; rfl, ht⟩, w2.trans w1⟩
    · exact .inr ⟨rfl, d2, _, p2, rfl⟩
  · rw [fold_stuck (by simp)]
    exact ⟨c1, 9, rfl, s1, fun h => absurd (f1 h).1 (by omega), .inr ⟨rfl, d1, _, p1, rfl⟩⟩
end Go.Proofs.Ytaepdbkfaoiimaa
