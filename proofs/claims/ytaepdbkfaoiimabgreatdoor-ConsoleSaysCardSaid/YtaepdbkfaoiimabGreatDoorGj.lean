/- Several texts of this proof, one behind the other: walks and plain laws that the statement rests on. Conditions: none but those that each lemma names. -/
import Derived.Test.YtaepdbkfaoiimabGreatDoorGa
import Derived.Deep.LoopGhost
import Derived.RegionTactic
import Derived.BigRegion
/- Towers as they lie in memory, and the plain laws of putting a node in. Conditions: none but those that each law names. -/
set_option linter.unusedVariables false
set_option linter.unusedSimpArgs false
namespace Go.Proofs.YtaepdbkfaoiimabGreatDoor
open Go.RowKit

/-- A node: its block, its entry, how high it is. -/
structure Nd where
  b : Nat
  e : Ent
  h : Nat
/-- The first node that is higher than f. -/
def nxt (f : Nat) : List Nd → Option Addr
  | [] => none
  | nd :: l => if f < nd.h then some ⟨nd.b, 0, none⟩ else nxt f l

/-- The cells: N b f is the pointer of block b on floor f. -/
structure TRep (w : World) (t : Nat) (ns : List Nd) (N : Nat → Nat → Option Addr) (cnt : Int) : Prop where
  head : Blk w t 131 #[.string ByteArray.empty, .string ByteArray.empty, .bool false, .pointer (N t 0), .pointer (N t 1), .pointer (N t 2), .pointer (N t 3), .int .i64 cnt]
  node : ∀ nd ∈ ns, Blk w nd.b 129 #[.string nd.e.k, .string nd.e.v, .bool nd.e.g, .pointer (N nd.b 0), .pointer (N nd.b 1), .pointer (N nd.b 2), .pointer (N nd.b 3)]
/-- The pointers are those of the floors. -/
structure TVal (t : Nat) (ns : List Nd) (N : Nat → Nat → Option Addr) : Prop where
  head : ∀ f, f < 4 → N t f = nxt f ns
  node : ∀ i nd, ns[i]? = some nd → ∀ f, f < nd.h → N nd.b f = nxt f (ns.drop (i + 1))
structure TOk (ns : List Nd) : Prop where
  nodup : (ns.map Nd.b).Nodup
  high : ∀ nd ∈ ns, 1 ≤ nd.h ∧ nd.h ≤ 4 ∧ EntOk nd.e
  rises : Rises (ns.map Nd.e)

/-- A tower at block t that has the entries l, over the blocks F. -/
def Tower (B : Nat) (w : World) (t : Nat) (l : List Ent) (F : List Nat) : Prop :=
  ∃ ns N, TRep w t ns N ns.length ∧ TVal t ns N ∧ TOk ns ∧ l = ns.map Nd.e ∧ F = t :: ns.map Nd.b ∧ ∀ b ∈ F, B ≤ b

section
variable {B : Nat} {M : Nat → Prop} {w w' : World} {t : Nat} {ns : List Nd} {N : Nat → Nat → Option Addr} {cnt : Int} {l : List Ent} {F : List Nat}
theorem TRep.keep (h : TRep w t ns N cnt) (hk : ∀ b, b < w.heap.size → (b = t ∨ b ∈ ns.map Nd.b) → w'.heap[b]? = w.heap[b]?) : TRep w' t ns N cnt :=
  ⟨(hk t h.head.lt (.inl rfl)).trans h.head, fun nd hnd => (hk nd.b (h.node nd hnd).lt (.inr (List.mem_map.2 ⟨nd, hnd, rfl⟩))).trans (h.node nd hnd)⟩
theorem TRep.below (h : TRep w t ns N cnt) (hb : Below w.heap.size w w') : TRep w' t ns N cnt := h.keep fun b hb' _ => hb.block b hb'
theorem Tower.below (h : Tower B w t l F) (hb : Below w.heap.size w w') : Tower B w' t l F := by
  obtain ⟨ns, N, h1, h2⟩ := h
  exact ⟨ns, N, h1.below hb, h2⟩
theorem Tower.fr (h : Tower B w t l F) (hf : Fr B M w w') (hM : ∀ b ∈ F, ¬ M b) : Tower B w' t l F := by
  obtain ⟨ns, N, h1, h2, h3, h4, rfl, h6⟩ := h
  refine ⟨ns, N, h1.keep fun b hb hm => hf.block b hb (.inr (.inl (hM b ?_))), h2, h3, h4, rfl, h6⟩
  rcases hm with rfl | hm
  · simp
  · simp [hm]
theorem Tower.lt (h : Tower B w t l F) : ∀ b ∈ F, b < w.heap.size := by
  obtain ⟨ns, N, h1, h2, h3, h4, rfl, h6⟩ := h
  intro b hb
  rcases List.mem_cons.1 hb with rfl | hb
  · exact h1.head.lt
  · obtain ⟨nd, hnd, rfl⟩ := List.mem_map.1 hb
    exact (h1.node nd hnd).lt
theorem Tower.mut (h : Tower B w t l F) : ∀ b ∈ F, ∃ cs T fz, w.heap[b]? = some (.cells cs T fz) ∧ mutT T = true := by
  obtain ⟨ns, N, h1, h2, h3, h4, rfl, h6⟩ := h
  intro b hb
  rcases List.mem_cons.1 hb with rfl | hb
  · exact ⟨_, _, _, h1.head, by decide⟩
  · obtain ⟨nd, hnd, rfl⟩ := List.mem_map.1 hb
    exact ⟨_, _, _, h1.node nd hnd, by decide⟩
theorem Tower.rises (h : Tower B w t l F) : Rises l := by
  obtain ⟨ns, N, h1, h2, h3, rfl, _⟩ := h; exact h3.rises
theorem Tower.ok (h : Tower B w t l F) : ∀ e ∈ l, EntOk e := by
  obtain ⟨ns, N, h1, h2, h3, rfl, _⟩ := h
  intro e he
  obtain ⟨nd, hnd, rfl⟩ := List.mem_map.1 he
  exact (h3.high nd hnd).2.2
theorem Tower.drewN (h : Tower B w t l F) (n : Nat) : Tower B (w.drewN n) t l F := by
  obtain ⟨ns, N, h1, h2⟩ := h
  exact ⟨ns, N, ⟨h1.head, h1.node⟩, h2⟩
theorem TRep.ne (h : TRep w t ns N cnt) : ∀ nd ∈ ns, nd.b ≠ t := by
  intro nd hnd e
  have h1 := h.node nd hnd
  have h2 := h.head
  unfold Blk at h1 h2
  rw [e, h2] at h1
  injection h1 with h1
  injection h1 with _ h1
  exact absurd h1 (by decide)
end

/-! ### the way to a key -/
/-- The pointer to position i: 0: the head; else the node ahead of it in number. -/
def blkOf (t : Nat) (ns : List Nd) (i : Nat) : Nat := if i = 0 then t else ((ns[i - 1]?).map Nd.b).getD 0
def hOf (ns : List Nd) (i : Nat) : Nat := if i = 0 then 4 else ((ns[i - 1]?).map Nd.h).getD 0
/-- Position i is the last one on floor f among the first m. -/
def IsLast (ns : List Nd) (m f i : Nat) : Prop := i ≤ m ∧ f < hOf ns i ∧ ∀ j, i < j → j ≤ m → hOf ns j ≤ f
theorem hOf_succ {ns : List Nd} {i : Nat} {nd : Nd} (h : ns[i]? = some nd) : hOf ns (i + 1) = nd.h := by simp [hOf, h]
theorem blkOf_succ {t : Nat} {ns : List Nd} {i : Nat} {nd : Nd} (h : ns[i]? = some nd) : blkOf t ns (i + 1) = nd.b := by simp [blkOf, h]
/-- What the pointer on floor f of position i is. -/
theorem TVal.at_ {t : Nat} {ns : List Nd} {N : Nat → Nat → Option Addr} (h : TVal t ns N) {i f : Nat} (hi : i ≤ ns.length) (hf : f < hOf ns i) (h4 : f < 4) : N (blkOf t ns i) f = nxt f (ns.drop i) := by
  cases i with
  | zero => simpa [blkOf] using h.head f h4
  | succ i =>
    obtain ⟨nd, hnd, _⟩ := getElem?_of_lt (show i < ns.length by omega)
    rw [hOf_succ hnd] at hf
    rw [blkOf_succ hnd, h.node i nd hnd f hf]
theorem nxt_none {f : Nat} : ∀ {l : List Nd}, nxt f l = none → ∀ nd ∈ l, nd.h ≤ f
  | [], _, nd, h => by cases h
  | x :: l, h, nd, hm => by
    unfold nxt at h
    split at h
    · cases h
    · rcases List.mem_cons.1 hm with rfl | hm
      · omega
      · exact nxt_none h nd hm
theorem nxt_some {f : Nat} {a : Addr} : ∀ {l : List Nd}, nxt f l = some a → ∃ (j : Nat) (nd : Nd), l[j]? = some nd ∧ f < nd.h ∧ a = ⟨nd.b, 0, none⟩ ∧ ∀ (j' : Nat) (nd' : Nd), j' < j → l[j']? = some nd' → nd'.h ≤ f
  | [], h => by cases h
  | x :: l, h => by
    unfold nxt at h
    split at h
    · rename_i hx
      exact ⟨0, x, rfl, hx, (Option.some.inj h).symm, fun j' nd' hj _ => by omega⟩
    · rename_i hx
      obtain ⟨j, nd, h1, h2, h3, h4⟩ := nxt_some h
      refine ⟨j + 1, nd, h1, h2, h3, fun j' nd' hj hnd => ?_⟩
      cases j' with
      | zero => simp at hnd; subst hnd; omega
      | succ j' => exact h4 j' nd' (by omega) hnd
theorem nxt_at {f : Nat} {l : List Nd} {j : Nat} {nd : Nd} (h1 : l[j]? = some nd) (h2 : f < nd.h) (h3 : ∀ (j' : Nat) (nd' : Nd), j' < j → l[j']? = some nd' → nd'.h ≤ f) : nxt f l = some ⟨nd.b, 0, none⟩ := by
  induction l generalizing j with
  | nil => simp at h1
  | cons x l ih =>
    unfold nxt
    cases j with
    | zero => simp at h1; subst h1; rw [if_pos h2]
    | succ j =>
      have hx := h3 0 x (by omega) rfl
      rw [if_neg (by omega)]
      exact ih (by simpa using h1) (fun j' nd' hj hnd => h3 (j' + 1) nd' (by omega) (by simpa using hnd))
theorem nxt_none_of {f : Nat} {l : List Nd} (h : ∀ nd ∈ l, nd.h ≤ f) : nxt f l = none := by
  induction l with
  | nil => rfl
  | cons x l ih =>
    unfold nxt
    rw [if_neg (by have := h x (by simp); omega)]
    exact ih fun nd hnd => h nd (by simp [hnd])

/-- How many entries are below a key. -/
def below (ns : List Nd) (k : ByteArray) : Nat := (ns.takeWhile fun nd => ltB nd.e.k k).length
theorem below_le (ns : List Nd) (k : ByteArray) : below ns k ≤ ns.length := by
  unfold below; exact (List.takeWhile_sublist _).length_le
theorem below_lt {ns : List Nd} (hr : Rises (ns.map Nd.e)) (k : ByteArray) : ∀ (i : Nat) (nd : Nd), ns[i]? = some nd → (ltB nd.e.k k = true ↔ i < below ns k) := by
  induction ns with
  | nil => intro i nd h; simp at h
  | cons x ns ih =>
    intro i nd h
    rw [List.map_cons, rises_cons] at hr
    unfold below
    cases hx : ltB x.e.k k
    · rw [List.takeWhile_cons, hx]
      simp only [Bool.false_eq_true, if_false, List.length_nil, Nat.not_lt_zero, iff_false]
      intro hlt
      cases i with
      | zero => simp at h; subst h; rw [hx] at hlt; cases hlt
      | succ i =>
        simp at h
        have := hr.1 nd.e (List.mem_map.2 ⟨nd, List.mem_of_getElem? h, rfl⟩)
        rw [ltB_trans this hlt] at hx
        cases hx
    · rw [List.takeWhile_cons, hx]
      simp only [if_true, List.length_cons]
      cases i with
      | zero => simp at h; subst h; simp [hx]
      | succ i =>
        simp at h
        rw [ih hr.2 i nd h]
        unfold below
        omega

/-! ### a node is put in -/
theorem nxt_append (f : Nat) (a b : List Nd) : nxt f (a ++ b) = (nxt f a).or (nxt f b) := by
  induction a with
  | nil => rfl
  | cons x a ih =>
    rw [List.cons_append, nxt, nxt]
    split
    · rfl
    · exact ih
theorem nxt_drop {f m i : Nat} {ns : List Nd} (hi : i ≤ m) (hm : m ≤ ns.length) : nxt f (ns.drop i) = (nxt f ((ns.take m).drop i)).or (nxt f (ns.drop m)) := by
  rw [← nxt_append]
  congr 1
  have h : ns = ns.take m ++ ns.drop m := (List.take_append_drop m ns).symm
  have h2 : (ns.take m ++ ns.drop m).drop i = (ns.take m).drop i ++ ns.drop m := by
    rw [List.drop_append, show i - (ns.take m).length = 0 by rw [List.length_take]; omega, List.drop_zero]
  rw [← h2, ← h]
theorem nxt_last_none {f m i : Nat} {ns : List Nd} (hm : m ≤ ns.length) (h : IsLast ns m f i) : nxt f ((ns.take m).drop i) = none := by
  refine nxt_none_of fun nd hnd => ?_
  obtain ⟨j, hj⟩ := List.getElem?_of_mem hnd
  rw [List.getElem?_drop, List.getElem?_take] at hj
  split at hj
  · rename_i hlt
    have h1 := h.2.2 (i + j + 1) (by omega) (by omega)
    rw [hOf_succ hj] at h1
    exact h1
  · cases hj
theorem nxt_before_some {f m i q : Nat} {ns : List Nd} (hm : m ≤ ns.length) (h : IsLast ns m f q) (hi : i < q) : ∃ a, nxt f ((ns.take m).drop i) = some a := by
  cases hx : nxt f ((ns.take m).drop i) with
  | some a => exact ⟨a, rfl⟩
  | none =>
    have hq := h.1
    obtain ⟨nd, hnd, _⟩ := getElem?_of_lt (show q - 1 < ns.length by omega)
    have h1 := hOf_succ hnd
    rw [show q - 1 + 1 = q by omega] at h1
    have h2 := nxt_none hx nd (by
      rw [List.mem_iff_getElem?]
      exact ⟨q - 1 - i, by rw [List.getElem?_drop, show i + (q - 1 - i) = q - 1 by omega, List.getElem?_take, if_pos (by omega)]; exact hnd⟩)
    have h3 := h.2.1
    omega
theorem last_le {f m i q : Nat} {ns : List Nd} (h : IsLast ns m f q) (hi : i ≤ m) (hf : f < hOf ns i) : i ≤ q := by
  rcases Nat.lt_or_ge q i with hlt | hge
  · have := h.2.2 i hlt hi; omega
  · exact hge
/-- Two positions of one block are one. -/
theorem blkOf_inj {t : Nat} {ns : List Nd} (hn : (t :: ns.map Nd.b).Nodup) {i j : Nat} (hi : i ≤ ns.length) (hj : j ≤ ns.length) (h : blkOf t ns i = blkOf t ns j) : i = j := by
  have e : ∀ k, k ≤ ns.length → (t :: ns.map Nd.b)[k]? = some (blkOf t ns k) := by
    intro k hk
    cases k with
    | zero => rfl
    | succ k =>
      obtain ⟨nd, hnd, _⟩ := getElem?_of_lt (show k < ns.length by omega)
      rw [blkOf_succ hnd, List.getElem?_cons_succ, List.getElem?_map, hnd]; rfl
  have h1 := e i hi
  have h2 := e j hj
  rw [h] at h1
  exact (List.getElem?_inj (show i < (t :: ns.map Nd.b).length by simp; omega) hn).1 (h1.trans h2.symm)
theorem blkOf_mem {t : Nat} {ns : List Nd} {i : Nat} (hi : i ≤ ns.length) : blkOf t ns i = t ∨ blkOf t ns i ∈ ns.map Nd.b := by
  cases i with
  | zero => exact .inl rfl
  | succ i =>
    obtain ⟨nd, hnd, _⟩ := getElem?_of_lt (show i < ns.length by omega)
    rw [blkOf_succ hnd]
    exact .inr (List.mem_map.2 ⟨nd, List.mem_of_getElem? hnd, rfl⟩)

/-- The pointers behind f floors of a node nb that is put in behind the blocks W. -/
def putN (N : Nat → Nat → Option Addr) (nb : Nat) (W : Nat → Nat) (f : Nat) : Nat → Nat → Option Addr :=
  fun b g => if g < f then (if b = nb then N (W g) g else if b = W g then some ⟨nb, 0, none⟩ else N b g) else if b = nb then none else N b g
def upd (N : Nat → Nat → Option Addr) (b f : Nat) (v : Option Addr) : Nat → Nat → Option Addr := fun b' g => if b' = b ∧ g = f then v else N b' g
theorem putN_succ (N : Nat → Nat → Option Addr) (nb : Nat) (W : Nat → Nat) (f : Nat) (hW : W f ≠ nb) : putN N nb W (f + 1) = upd (upd (putN N nb W f) nb f (N (W f) f)) (W f) f (some ⟨nb, 0, none⟩) := by
  funext b g
  unfold putN upd
  by_cases hg : g = f
  · subst hg
    by_cases hb : b = nb
    · subst hb; simp [Ne.symm hW]
    · by_cases hb2 : b = W g
      · subst hb2; simp [hW]
      · simp [hb, hb2]
  · have h1 : (g < f + 1) ↔ (g < f) := by omega
    simp [hg, h1]
theorem TRep.set_ {w : World} {t : Nat} {ns : List Nd} {N : Nat → Nat → Option Addr} {cnt : Int} (h : TRep w t ns N cnt) (hn : (t :: ns.map Nd.b).Nodup) {b f : Nat} (hb : b = t ∨ b ∈ ns.map Nd.b) (hf : f < 4) (v : Option Addr) :
    TRep (w.setCell ⟨b, 3 + f, none⟩ (.pointer v)) t ns (upd N b f v) cnt := by
  have hnd := List.nodup_cons.1 hn
  have hhead : ∀ c, (upd N b f v) c = if c = b then (fun g => if g = f then v else N b g) else N c := by
    intro c; funext g; unfold upd; by_cases hc : c = b
    · subst hc; simp
    · simp [hc]
  refine ⟨?_, fun nd hmem => ?_⟩
  · rw [hhead]
    by_cases hbt : b = t
    · subst hbt
      rw [if_pos rfl]
      have h1 := h.head.set_ (3 + f) (.pointer v)
      match f, hf with
      | 0, _ => exact h1
      | 1, _ => exact h1
      | 2, _ => exact h1
      | 3, _ => exact h1
    · rw [if_neg (Ne.symm hbt)]
      exact h.head.far (Ne.symm hbt) _
  · rw [hhead]
    by_cases hbn : b = nd.b
    · subst hbn
      rw [if_pos rfl]
      have h1 := (h.node nd hmem).set_ (3 + f) (.pointer v)
      match f, hf with
      | 0, _ => exact h1
      | 1, _ => exact h1
      | 2, _ => exact h1
      | 3, _ => exact h1
    · rw [if_neg (Ne.symm hbn)]
      exact (h.node nd hmem).far (Ne.symm hbn) _

theorem TVal.put {t : Nat} {ns : List Nd} {N : Nat → Nat → Option Addr} {m nb h : Nat} {e : Ent} {q : Nat → Nat} (hv : TVal t ns N) (ho : TOk ns) (hm : m ≤ ns.length) (hh : 1 ≤ h ∧ h ≤ 4) (hn : (t :: ns.map Nd.b).Nodup)
    (hnb : nb ≠ t ∧ nb ∉ ns.map Nd.b) (hq : ∀ f, f < 4 → IsLast ns m f (q f)) :
    TVal t (ns.take m ++ ⟨nb, e, h⟩ :: ns.drop m) (putN N nb (fun f => blkOf t ns (q f)) h) := by
  -- a position at or ahead of m
  have low : ∀ i f, i ≤ m → f < 4 → f < hOf ns i → putN N nb (fun f => blkOf t ns (q f)) h (blkOf t ns i) f = nxt f ((ns.take m).drop i ++ ⟨nb, e, h⟩ :: ns.drop m) := by
    intro i f hi hf4 hfi
    have hne : blkOf t ns i ≠ nb := by
      rcases blkOf_mem (t := t) (ns := ns) (i := i) (by omega) with h1 | h1
      · rw [h1]; exact fun e => hnb.1 e.symm
      · intro e; rw [e] at h1; exact hnb.2 h1
    have hat := hv.at_ (i := i) (f := f) (by omega) hfi hf4
    rw [nxt_append, nxt]
    unfold putN
    rw [if_neg hne, if_neg hne]
    by_cases hfh : f < h
    · rw [if_pos hfh, if_pos hfh]
      by_cases hiq : i = q f
      · subst hiq
        rw [if_pos rfl, nxt_last_none hm (hq f hf4)]; rfl
      · rw [if_neg (fun e => hiq (blkOf_inj hn (by omega) (by have := (hq f hf4).1; omega) e)), hat, nxt_drop hi hm]
        have hlt : i < q f := by have := last_le (hq f hf4) hi hfi; omega
        obtain ⟨a, ha⟩ := nxt_before_some hm (hq f hf4) hlt
        rw [ha]; rfl
    · rw [if_neg hfh, if_neg hfh, hat, nxt_drop hi hm]
  have htl : (ns.take m).length = m := by rw [List.length_take]; omega
  refine ⟨fun f hf => ?_, fun i nd hi f hf => ?_⟩
  · have := low 0 f (Nat.zero_le _) hf (by simpa [hOf] using hf)
    simpa [blkOf] using this
  · rcases Nat.lt_or_ge i m with hlt | hge
    · rw [List.getElem?_append_left (by omega), List.getElem?_take, if_pos hlt] at hi
      have h4 := (ho.high nd (List.mem_of_getElem? hi)).2.1
      have := low (i + 1) f (by omega) (by omega) (by rw [hOf_succ hi]; exact hf)
      rw [blkOf_succ hi] at this
      rw [this, List.drop_append, show i + 1 - (ns.take m).length = 0 by omega, List.drop_zero]
    · rw [List.getElem?_append_right (by omega), htl] at hi
      rcases Nat.eq_or_lt_of_le hge with heq | hgt
      · subst heq
        rw [Nat.sub_self, List.getElem?_cons_zero] at hi
        obtain rfl := Option.some.inj hi
        simp only at hf
        have hqm := hq f (by omega)
        unfold putN
        rw [if_pos hf, if_pos rfl, hv.at_ (by have := hqm.1; omega) hqm.2.1 (by omega), nxt_drop hqm.1 hm, nxt_last_none hm hqm]
        have hd : (ns.take m).drop (m + 1) = [] := List.drop_eq_nil_of_le (by omega)
        rw [List.drop_append, hd, htl, show m + 1 - m = 1 by omega]
        rfl
      · rw [show i - m = (i - m - 1) + 1 by omega, List.getElem?_cons_succ, List.getElem?_drop, show m + (i - m - 1) = i - 1 by omega] at hi
        have hne : nd.b ≠ nb := fun e => hnb.2 (List.mem_map.2 ⟨nd, List.mem_of_getElem? hi, e⟩)
        have hil : i - 1 < ns.length := (List.getElem?_eq_some_iff.1 hi).1
        have h4 := (ho.high nd (List.mem_of_getElem? hi)).2.1
        have hbl := blkOf_succ (t := t) hi
        rw [show i - 1 + 1 = i by omega] at hbl
        have hnW : nd.b ≠ blkOf t ns (q f) := by
          rw [← hbl]
          intro e
          have h1 := (hq f (by omega)).1
          have := blkOf_inj hn (by omega) (by omega) e
          omega
        have hval := hv.node (i - 1) nd hi f hf
        rw [show i - 1 + 1 = i by omega] at hval
        have hput : putN N nb (fun f => blkOf t ns (q f)) h nd.b f = N nd.b f := by
          unfold putN
          rw [if_neg hne, if_neg hne, if_neg hnW]
          split <;> rfl
        have hd : (ns.take m).drop (i + 1) = [] := List.drop_eq_nil_of_le (by omega)
        rw [hput, hval, List.drop_append, hd, htl, List.nil_append, show i + 1 - m = (i - m) + 1 by omega, List.drop_succ_cons, List.drop_drop, show m + (i - m) = i by omega]

/-! ### what putting makes of the entries -/
theorem merge2_at (e : Ent) : ∀ (l : List Ent), merge2 [e] l = l.takeWhile (fun x => ltB x.k e.k) ++ e :: (match l.dropWhile (fun x => ltB x.k e.k) with | [] => [] | x :: r => if x.k = e.k then r else x :: r)
  | [] => by simp [merge2]
  | x :: l => by
    rw [merge2]
    cases h1 : ltB e.k x.k
    · cases h2 : ltB x.k e.k
      · have hk := ltB_tri h1 h2
        rw [List.takeWhile_cons, h2, List.dropWhile_cons, h2]
        simp [hk, merge2]
      · rw [List.takeWhile_cons, h2, List.dropWhile_cons, h2]
        simp only [Bool.false_eq_true, if_false, if_true, List.cons_append]
        rw [merge2_at e l]
    · have h2 := ltB_asymm h1
      rw [List.takeWhile_cons, h2, List.dropWhile_cons, h2]
      have hk := (ltB_ne h1).symm
      simp [hk, merge2]
theorem takeWhile_map' (p : Ent → Bool) : ∀ ns : List Nd, (ns.map Nd.e).takeWhile p = (ns.takeWhile fun nd => p nd.e).map Nd.e
  | [] => rfl
  | x :: ns => by
    rw [List.map_cons, List.takeWhile_cons, List.takeWhile_cons]
    split
    · rw [takeWhile_map' p ns]; rfl
    · rfl
theorem dropWhile_map' (p : Ent → Bool) : ∀ ns : List Nd, (ns.map Nd.e).dropWhile p = (ns.dropWhile fun nd => p nd.e).map Nd.e
  | [] => rfl
  | x :: ns => by
    rw [List.map_cons, List.dropWhile_cons, List.dropWhile_cons]
    split
    · rw [dropWhile_map' p ns]
    · rfl
theorem take_while (p : Nd → Bool) : ∀ ns : List Nd, ns.takeWhile p = ns.take (ns.takeWhile p).length ∧ ns.dropWhile p = ns.drop (ns.takeWhile p).length
  | [] => ⟨rfl, rfl⟩
  | x :: ns => by
    rw [List.takeWhile_cons, List.dropWhile_cons]
    split
    · obtain ⟨h1, h2⟩ := take_while p ns
      exact ⟨by rw [List.length_cons, List.take_succ_cons, ← h1], by rw [List.length_cons, List.drop_succ_cons, ← h2]⟩
    · exact ⟨rfl, rfl⟩
theorem put_at {ns : List Nd} (hr : Rises (ns.map Nd.e)) (e : Ent) : putE (ns.map Nd.e) e = (ns.take (below ns e.k)).map Nd.e ++ e :: (match ns.drop (below ns e.k) with | [] => [] | x :: r => if x.e.k = e.k then r.map Nd.e else (x :: r).map Nd.e) := by
  obtain ⟨h1, h2⟩ := take_while (fun nd => ltB nd.e.k e.k) ns
  rw [putE_eq e _ hr, merge2_at, takeWhile_map', dropWhile_map', h1, h2]
  unfold below
  congr 2
  cases ns.drop (ns.takeWhile fun nd => ltB nd.e.k e.k).length with
  | nil => rfl
  | cons x r => simp only [List.map_cons]

/-! ### an entry takes another one's place -/
def sh (l : List Nd) : List (Nat × Nat) := l.map fun nd => (nd.b, nd.h)
theorem nxt_sh (f : Nat) : ∀ {a b : List Nd}, sh a = sh b → nxt f a = nxt f b
  | [], [], _ => rfl
  | [], y :: b, h => by simp [sh] at h
  | x :: a, [], h => by simp [sh] at h
  | x :: a, y :: b, h => by
    simp only [sh, List.map_cons, List.cons.injEq, Prod.mk.injEq] at h
    obtain ⟨⟨h1, h2⟩, h3⟩ := h
    rw [nxt, nxt, h1, h2, nxt_sh f h3]
theorem TVal.same {t : Nat} {ns ns' : List Nd} {N : Nat → Nat → Option Addr} (h : TVal t ns N) (hs : sh ns' = sh ns) : TVal t ns' N := by
  refine ⟨fun f hf => (h.head f hf).trans (nxt_sh f hs.symm), fun i nd hi f hf => ?_⟩
  have h1 : (sh ns')[i]? = some (nd.b, nd.h) := by rw [sh, List.getElem?_map, hi]; rfl
  rw [hs, sh, List.getElem?_map] at h1
  cases hx : ns[i]? with
  | none => rw [hx] at h1; cases h1
  | some nd' =>
    rw [hx] at h1
    simp at h1
    rw [← h1.1, h.node i nd' hx f (by omega)]
    refine nxt_sh f ?_
    have e : ∀ l : List Nd, sh (l.drop (i + 1)) = (sh l).drop (i + 1) := fun l => by rw [sh, sh, List.map_drop]
    rw [e, e, hs]
theorem split_at {ns : List Nd} {m : Nat} {nd : Nd} (h : ns[m]? = some nd) : ns = ns.take m ++ nd :: ns.drop (m + 1) := by
  have hlt : m < ns.length := (List.getElem?_eq_some_iff.1 h).1
  have h1 := List.drop_eq_getElem_cons hlt
  rw [(List.getElem?_eq_some_iff.1 h).2] at h1
  rw [← h1, List.take_append_drop]
theorem sh_put {ns : List Nd} {m : Nat} {nd : Nd} (h : ns[m]? = some nd) (e : Ent) : sh (ns.take m ++ ⟨nd.b, e, nd.h⟩ :: ns.drop (m + 1)) = sh ns := by
  have h1 : sh ns = sh (ns.take m ++ nd :: ns.drop (m + 1)) := by rw [← split_at h]
  rw [h1]; simp [sh]
theorem TRep.put_ {w : World} {t : Nat} {ns : List Nd} {N : Nat → Nat → Option Addr} {cnt : Int} (h : TRep w t ns N cnt) (hn : (t :: ns.map Nd.b).Nodup) {m : Nat} {nd : Nd} (hm : ns[m]? = some nd) (e : Ent) :
    TRep (((w.setCell ⟨nd.b, 0, none⟩ (.string e.k)).setCell ⟨nd.b, 1, none⟩ (.string e.v)).setCell ⟨nd.b, 2, none⟩ (.bool e.g)) t (ns.take m ++ ⟨nd.b, e, nd.h⟩ :: ns.drop (m + 1)) N cnt := by
  have hsp := split_at hm
  have hmem := List.mem_of_getElem? hm
  have hbt : nd.b ≠ t := by
    intro e'
    have := (List.nodup_cons.1 hn).1
    exact this (e' ▸ List.mem_map.2 ⟨nd, hmem, rfl⟩)
  have hfar : ∀ {g T cs}, g ≠ nd.b → Blk w g T cs → Blk (((w.setCell ⟨nd.b, 0, none⟩ (.string e.k)).setCell ⟨nd.b, 1, none⟩ (.string e.v)).setCell ⟨nd.b, 2, none⟩ (.bool e.g)) g T cs :=
    fun hg hb => ((hb.far hg _).far hg _).far hg _
  have hn2 := (List.nodup_cons.1 hn).2
  rw [hsp, List.map_append, List.map_cons, List.nodup_append] at hn2
  refine ⟨hfar (Ne.symm hbt) h.head, fun x hx => ?_⟩
  rcases List.mem_append.1 hx with hx | hx
  · have hne : x.b ≠ nd.b := hn2.2.2 x.b (List.mem_map.2 ⟨x, hx, rfl⟩) nd.b (by simp)
    exact hfar hne (h.node x (List.mem_of_mem_take hx))
  · rcases List.mem_cons.1 hx with rfl | hx
    · have h1 := (((h.node nd hmem).set_ 0 (.string e.k)).set_ 1 (.string e.v)).set_ 2 (.bool e.g)
      exact h1
    · have hne : x.b ≠ nd.b := by
        intro e'
        have := (List.nodup_cons.1 hn2.2.1).1
        exact this (e' ▸ List.mem_map.2 ⟨x, hx, rfl⟩)
      exact hfar hne (h.node x (List.mem_of_mem_drop hx))

theorem TRep.cell_ {w : World} {t : Nat} {ns : List Nd} {N : Nat → Nat → Option Addr} {cnt : Int} (h : TRep w t ns N cnt) {b f : Nat} (hb : b = t ∨ b ∈ ns.map Nd.b) (hf : f < 4) :
    w.cell? ⟨b, 3 + f, none⟩ = some (.pointer (N b f)) ∧ w.frozen? ⟨b, 3 + f, none⟩ = false := by
  rcases hb with rfl | hb
  · refine ⟨?_, h.head.frozen _⟩
    rw [h.head.cell]
    match f, hf with
    | 0, _ => rfl
    | 1, _ => rfl
    | 2, _ => rfl
    | 3, _ => rfl
  · obtain ⟨nd, hnd, rfl⟩ := List.mem_map.1 hb
    refine ⟨?_, (h.node nd hnd).frozen _⟩
    rw [(h.node nd hnd).cell]
    match f, hf with
    | 0, _ => rfl
    | 1, _ => rfl
    | 2, _ => rfl
    | 3, _ => rfl

/-- Four positions as a function of the floor. -/
def at4 (i0 i1 i2 i3 : Nat) : Nat → Nat
  | 0 => i0
  | 1 => i1
  | 2 => i2
  | _ => i3
/-- What holds when f floors of the new node are done. -/
structure TPut (B : Nat) (w wr : World) (t : Nat) (ns : List Nd) (N : Nat → Nat → Option Addr) (a nb : Nat) (T : TypeId) (q : Nat → Nat) (e : Ent) (h f : Nat) : Prop where
  rep : TRep wr t (⟨nb, e, h⟩ :: ns) (putN N nb (fun f => blkOf t ns (q f)) f) ns.length
  arr : Blk wr a T #[.pointer (some ⟨blkOf t ns (q 0), 0, none⟩), .pointer (some ⟨blkOf t ns (q 1), 0, none⟩), .pointer (some ⟨blkOf t ns (q 2), 0, none⟩), .pointer (some ⟨blkOf t ns (q 3), 0, none⟩)]
  fr : Fr B (· ∈ t :: ns.map Nd.b) w wr
  new : w.heap.size ≤ nb
section
variable {B : Nat} {w wr : World} {t : Nat} {ns : List Nd} {N : Nat → Nat → Option Addr} {a nb : Nat} {T : TypeId} {q : Nat → Nat} {e : Ent} {h f : Nat}
theorem TPut.nodup (hp : TPut B w wr t ns N a nb T q e h f) (hold : TRep w t ns N ns.length) (hn : (t :: ns.map Nd.b).Nodup) : (t :: (Nd.mk nb e h :: ns).map Nd.b).Nodup := by
  have h1 : ∀ b ∈ t :: ns.map Nd.b, b < w.heap.size := by
    intro b hb
    rcases List.mem_cons.1 hb with rfl | hb
    · exact hold.head.lt
    · obtain ⟨nd, hnd, rfl⟩ := List.mem_map.1 hb; exact (hold.node nd hnd).lt
  have h2 := hp.new
  have hnd := List.nodup_cons.1 hn
  rw [List.map_cons, List.nodup_cons, List.nodup_cons]
  refine ⟨?_, ?_, hnd.2⟩
  · intro hm
    rcases List.mem_cons.1 hm with e1 | hm
    · have := h1 t (by simp); simp at e1; omega
    · exact hnd.1 hm
  · intro hm
    have := h1 nb (List.mem_cons_of_mem _ hm); omega
theorem TPut.facts (hp : TPut B w wr t ns N a nb T q e h f) (hold : TRep w t ns N ns.length) (hq : q f ≤ ns.length) (hf : f < 4) :
    wr.cell? ⟨a, f, none⟩ = some (.pointer (some ⟨blkOf t ns (q f), 0, none⟩)) ∧ wr.cell? ⟨blkOf t ns (q f), 3 + f, none⟩ = some (.pointer (N (blkOf t ns (q f)) f)) ∧ wr.frozen? ⟨blkOf t ns (q f), 3 + f, none⟩ = false ∧
      (∃ v, wr.cell? ⟨nb, 3 + f, none⟩ = some v) ∧ wr.frozen? ⟨nb, 3 + f, none⟩ = false ∧ blkOf t ns (q f) ≠ nb ∧ blkOf t ns (q f) < w.heap.size := by
  have hlt : blkOf t ns (q f) < w.heap.size := by
    rcases blkOf_mem (t := t) hq with h1 | h1
    · rw [h1]; exact hold.head.lt
    · obtain ⟨nd, hnd, h2⟩ := List.mem_map.1 h1; rw [← h2]; exact (hold.node nd hnd).lt
  have hne : blkOf t ns (q f) ≠ nb := by have := hp.new; omega
  have hm : blkOf t ns (q f) = t ∨ blkOf t ns (q f) ∈ (Nd.mk nb e h :: ns).map Nd.b := by
    rcases blkOf_mem (t := t) hq with h1 | h1
    · exact .inl h1
    · exact .inr (List.mem_cons_of_mem _ h1)
  have h1 := hp.rep.cell_ hm hf
  have h2 := hp.rep.cell_ (b := nb) (.inr (by simp)) hf
  have h3 : putN N nb (fun f => blkOf t ns (q f)) f (blkOf t ns (q f)) f = N (blkOf t ns (q f)) f := by
    unfold putN; rw [if_neg (by omega), if_neg hne]
  rw [h3] at h1
  refine ⟨?_, h1.1, h1.2, ⟨_, h2.1⟩, h2.2, hne, hlt⟩
  rw [hp.arr.cell]
  match f, hf with
  | 0, _ => rfl
  | 1, _ => rfl
  | 2, _ => rfl
  | 3, _ => rfl
theorem TPut.step (hp : TPut B w wr t ns N a nb T q e h f) (hold : TRep w t ns N ns.length) (hn : (t :: ns.map Nd.b).Nodup) (hq : q f ≤ ns.length) (hf : f < 4) (hB : ∀ b ∈ t :: ns.map Nd.b, B ≤ b) (hBw : B ≤ w.heap.size) (ha : a ≠ nb ∧ w.heap.size ≤ a) :
    TPut B w ((wr.setCell ⟨nb, 3 + f, none⟩ (.pointer (N (blkOf t ns (q f)) f))).setCell ⟨blkOf t ns (q f), 3 + f, none⟩ (.pointer (some ⟨nb, 0, none⟩))) t ns N a nb T q e h (f + 1) := by
  obtain ⟨_, _, _, _, _, hne, hlt⟩ := hp.facts hold hq hf
  have hnd := hp.nodup hold hn
  have hmem : blkOf t ns (q f) ∈ t :: ns.map Nd.b := by
    rcases blkOf_mem (t := t) hq with h1 | h1
    · rw [h1]; simp
    · exact List.mem_cons_of_mem _ h1
  have hm : blkOf t ns (q f) = t ∨ blkOf t ns (q f) ∈ (Nd.mk nb e h :: ns).map Nd.b := by
    rcases blkOf_mem (t := t) hq with h1 | h1
    · exact .inl h1
    · exact .inr (List.mem_cons_of_mem _ h1)
  refine ⟨?_, (hp.arr.far (by exact ha.1) _).far (by simp; omega) _, ?_, hp.new⟩
  · rw [putN_succ N nb (fun f => blkOf t ns (q f)) f hne]
    exact (hp.rep.set_ hnd (.inr (by simp)) hf _).set_ hnd hm hf _
  · refine (hp.fr.setCell (p := ⟨nb, 3 + f, none⟩) (Nat.le_trans hBw hp.new) (.inr hp.new) (fun h => by have := hp.new; simp at h; omega) _).setCell (p := ⟨blkOf t ns (q f), 3 + f, none⟩) (hB _ hmem) (.inl hmem) (fun _ => ?_) _
    rcases blkOf_mem (t := t) hq with h1 | h1
    · simp only [h1]; exact ⟨_, _, _, hold.head, by decide⟩
    · obtain ⟨nd, hnd, h2⟩ := List.mem_map.1 h1
      simp only [← h2]; exact ⟨_, _, _, hold.node nd hnd, by decide⟩
theorem TPut.drew (hp : TPut B w wr t ns N a nb T q e h f) : TPut B w wr.drew t ns N a nb T q e h f :=
  ⟨⟨hp.rep.head, hp.rep.node⟩, hp.arr, ⟨hp.fr.os, hp.fr.tape, hp.fr.output, hp.fr.size, hp.fr.block⟩, hp.new⟩
theorem TPut.cnt (hp : TPut B w wr t ns N a nb T q e h f) : wr.cell? ⟨t, 7, none⟩ = some (.int .i64 ns.length) ∧ wr.frozen? ⟨t, 7, none⟩ = false := by
  refine ⟨?_, hp.rep.head.frozen _⟩
  rw [hp.rep.head.cell]; rfl
theorem TPut.done (hp : TPut B w wr t ns N a nb T q e h h) (hold : TRep w t ns N ns.length) (hv : TVal t ns N) (ho : TOk ns) (hn : (t :: ns.map Nd.b).Nodup) (hB : ∀ b ∈ t :: ns.map Nd.b, B ≤ b) (hBw : B ≤ w.heap.size) (hh : 1 ≤ h ∧ h ≤ 4) (he : EntOk e)
    {m : Nat} (hm : m ≤ ns.length) (hq : ∀ f, f < 4 → IsLast ns m f (q f)) (hput : putE (ns.map Nd.e) e = (ns.take m ++ ⟨nb, e, h⟩ :: ns.drop m).map Nd.e) :
    Tower B (wr.setCell ⟨t, 7, none⟩ (.int .i64 ((ns.length : Int) + 1))) t (putE (ns.map Nd.e) e) (t :: (ns.take m).map Nd.b ++ nb :: (ns.drop m).map Nd.b) ∧ Fr B (· ∈ t :: ns.map Nd.b) w (wr.setCell ⟨t, 7, none⟩ (.int .i64 ((ns.length : Int) + 1))) := by
  have hnd := hp.nodup hold hn
  have hlt : ∀ b ∈ t :: ns.map Nd.b, b < w.heap.size := by
    intro b hb
    rcases List.mem_cons.1 hb with rfl | hb
    · exact hold.head.lt
    · obtain ⟨nd, hnd, rfl⟩ := List.mem_map.1 hb; exact (hold.node nd hnd).lt
  have hnb := hp.new
  have hmem : ∀ x, x ∈ ns.take m ++ ⟨nb, e, h⟩ :: ns.drop m ↔ x ∈ Nd.mk nb e h :: ns := by
    intro x
    have h0 : x ∈ ns ↔ x ∈ ns.take m ∨ x ∈ ns.drop m := by rw [← List.mem_append, List.take_append_drop]
    rw [List.mem_append, List.mem_cons, List.mem_cons, h0]
    constructor
    · rintro (h | h | h) <;> simp [h]
    · rintro (h | h | h) <;> simp [h]
  have hbne : nb ≠ t ∧ nb ∉ ns.map Nd.b := ⟨fun e => by have := hlt t (by simp); omega, fun hm => by have := hlt nb (List.mem_cons_of_mem _ hm); omega⟩
  refine ⟨⟨ns.take m ++ ⟨nb, e, h⟩ :: ns.drop m, putN N nb (fun f => blkOf t ns (q f)) h, ?_, hv.put ho hm hh hn hbne hq, ⟨?_, ?_, ?_⟩, hput, ?_, ?_⟩, ?_⟩
  · have hlen : (ns.take m ++ ⟨nb, e, h⟩ :: ns.drop m).length = ns.length + 1 := by simp; omega
    rw [hlen]
    refine ⟨?_, fun nd hnd' => ?_⟩
    · have h1 := hp.rep.head.set_ 7 (.int .i64 ((ns.length : Int) + 1))
      simpa using h1
    · have h1 := (hmem nd).1 hnd'
      refine (hp.rep.node nd h1).far ?_ _
      intro e'
      have h2 := (List.nodup_cons.1 hnd).1
      exact h2 (List.mem_map.2 ⟨nd, h1, e'⟩)
  · have h1 : (ns.map Nd.b).Nodup := ho.nodup
    rw [List.map_append, List.map_cons]
    rw [← List.take_append_drop m ns, List.map_append, List.nodup_append] at h1
    rw [List.nodup_append, List.nodup_cons]
    have h2 : ∀ x, x ∈ ns.take m ∨ x ∈ ns.drop m → x.b ≠ nb := by
      intro x hx e'
      refine hbne.2 (e' ▸ List.mem_map.2 ⟨x, ?_, rfl⟩)
      rcases hx with hx | hx
      · exact List.mem_of_mem_take hx
      · exact List.mem_of_mem_drop hx
    refine ⟨h1.1, ⟨fun hx => ?_, h1.2.1⟩, fun x hx y hy => ?_⟩
    · obtain ⟨x, hx, e'⟩ := List.mem_map.1 hx; exact h2 x (.inr hx) e'
    · rcases List.mem_cons.1 hy with rfl | hy
      · intro e'; obtain ⟨x', hx', e2⟩ := List.mem_map.1 hx; exact h2 x' (.inl hx') (e2.trans e')
      · exact h1.2.2 x hx y hy
  · intro nd hnd'
    rcases List.mem_cons.1 ((hmem nd).1 hnd') with rfl | h1
    · exact ⟨hh.1, hh.2, he⟩
    · exact ho.high nd h1
  · rw [← hput]; exact rises_put ho.rises e
  · simp
  · intro b hb
    simp only [List.cons_append, List.mem_cons, List.mem_append] at hb
    have h2 : ∀ b, b ∈ (ns.take m).map Nd.b ∨ b ∈ (ns.drop m).map Nd.b → B ≤ b := by
      intro b hb
      refine hB b (List.mem_cons_of_mem _ ?_)
      rcases hb with hb | hb
      · obtain ⟨x, hx, rfl⟩ := List.mem_map.1 hb; exact List.mem_map.2 ⟨x, List.mem_of_mem_take hx, rfl⟩
      · obtain ⟨x, hx, rfl⟩ := List.mem_map.1 hb; exact List.mem_map.2 ⟨x, List.mem_of_mem_drop hx, rfl⟩
    rcases hb with rfl | hb | rfl | hb
    · exact hB _ (by simp)
    · exact h2 b (.inl hb)
    · omega
    · exact h2 b (.inr hb)
  · exact hp.fr.setCell (p := ⟨t, 7, none⟩) (hB t (by simp)) (.inl (by simp)) (fun _ => ⟨_, _, _, hold.head, by decide⟩) _
end
end Go.Proofs.YtaepdbkfaoiimabGreatDoor
/- The contracts of package tower: way, New, Get, Many, All, Put. Conditions: a million entries at most. -/
set_option linter.unusedVariables false
set_option linter.unusedSimpArgs false
namespace Go.Proofs.YtaepdbkfaoiimabGreatDoor
open Go.RowKit

/-- The cells of a position: its pointer on floor f. -/
theorem TRep.ptr {w : World} {t : Nat} {ns : List Nd} {N : Nat → Nat → Option Addr} {cnt : Int} (h : TRep w t ns N cnt) {i f : Nat} (hi : i ≤ ns.length) (hf : f < 4) : w.cell? ⟨blkOf t ns i, 3 + f, none⟩ = some (.pointer (N (blkOf t ns i) f)) := by
  cases i with
  | zero =>
    rw [show blkOf t ns 0 = t from rfl, h.head.cell]
    match f, hf with
    | 0, _ => rfl
    | 1, _ => rfl
    | 2, _ => rfl
    | 3, _ => rfl
  | succ i =>
    obtain ⟨nd, hnd, _⟩ := getElem?_of_lt (show i < ns.length by omega)
    rw [blkOf_succ hnd, (h.node nd (List.mem_of_getElem? hnd)).cell]
    match f, hf with
    | 0, _ => rfl
    | 1, _ => rfl
    | 2, _ => rfl
    | 3, _ => rfl

/-- A floor is done: the way's array has its position. -/
theorem way_step {t m f i : Nat} {ns : List Nd} {q : Nat → Nat} {w wo : World} {cs : Array Value} {T : TypeId} (hcs : Blk wo (w.heap.size + 1) T cs) (hsz : cs.size = 4)
    (hcg : ∀ g, f + 1 ≤ g → g < 4 → cs[g]? = some (.pointer (some ⟨blkOf t ns (q g), 0, none⟩))) (hf4 : f < 4) (hq : ∀ g, f + 1 ≤ g → g < 4 → IsLast ns m g (q g)) (hl : IsLast ns m f i)
    (hk0 : Blk wo w.heap.size T #[.pointer none, .pointer none, .pointer none, .pointer none]) (hbl : Below w.heap.size w wo) (hfh : f < hOf ns i) :
    ∃ (f' i' : Nat) (q' : Nat → Nat), Value.int .i64 ((f : Int) - 1) = .int .i64 ((f' : Int) - 1) ∧ f' ≤ 4 ∧ Value.pointer (some ⟨blkOf t ns i, 0, none⟩) = .pointer (some ⟨blkOf t ns i', 0, none⟩) ∧ Hid (i' ≤ m ∧ f' ≤ hOf ns i') ∧ Hid (∀ g, f' ≤ g → g < 4 → IsLast ns m g (q' g)) ∧
      Hid (Blk (wo.setCell ⟨w.heap.size + 1, f, none⟩ (.pointer (some ⟨blkOf t ns i, 0, none⟩))) w.heap.size T #[.pointer none, .pointer none, .pointer none, .pointer none]) ∧
      Hid (∃ cs : Array Value, Blk (wo.setCell ⟨w.heap.size + 1, f, none⟩ (.pointer (some ⟨blkOf t ns i, 0, none⟩))) (w.heap.size + 1) T cs ∧ cs.size = 4 ∧ ∀ g, f' ≤ g → g < 4 → cs[g]? = some (.pointer (some ⟨blkOf t ns (q' g), 0, none⟩))) ∧
      Below w.heap.size w (wo.setCell ⟨w.heap.size + 1, f, none⟩ (.pointer (some ⟨blkOf t ns i, 0, none⟩))) := by
  refine ⟨f, i, fun g => if g = f then i else q g, rfl, by omega, rfl, ⟨hl.1, by omega⟩, fun g h1 h2 => ?_, hk0.far (by simp) _, ⟨_, hcs.set_ f _, by simp [hsz], fun g h1 h2 => ?_⟩, hbl.setCell (by simp) _⟩
  · by_cases hg : g = f
    · subst hg; simpa using hl
    · simp only [if_neg hg]; exact hq g (by omega) h2
  · by_cases hg : g = f
    · subst hg; simp [hsz, hf4]
    · rw [Array.getElem?_setIfInBounds_ne (by omega)]
      simp only [if_neg hg]; exact hcg g (by omega) h2

set_option maxHeartbeats 2000000 in
theorem way_any (t : Nat) (ns : List Nd) (N : Nat → Nat → Option Addr) (cnt : Int) (key : ByteArray) (w : World) (hr : TRep w t ns N cnt) (hv : TVal t ns N) (ho : TOk ns) (hn : ns.length ≤ 1000000) :
    Calls Tryz.prog 126 #[.pointer (some ⟨t, 0, none⟩), .string key] w fun e w' =>
      (∃ i0 i1 i2 i3, e = .returned (.agg #[.pointer (some ⟨blkOf t ns i0, 0, none⟩), .pointer (some ⟨blkOf t ns i1, 0, none⟩), .pointer (some ⟨blkOf t ns i2, 0, none⟩), .pointer (some ⟨blkOf t ns i3, 0, none⟩)]) ∧
        IsLast ns (below ns key) 0 i0 ∧ IsLast ns (below ns key) 1 i1 ∧ IsLast ns (below ns key) 2 i2 ∧ IsLast ns (below ns key) 3 i3) ∧ Below w.heap.size w w' := by
  have HR := Lib.hid hr
  have HV := Lib.hid hv
  have HO := Lib.hid ho
  clear hr hv ho
  obtain ⟨m, hm⟩ : ∃ m, below ns key = m := ⟨_, rfl⟩
  have hmn := below_le ns key
  have HM := Lib.hid hm
  rw [hm] at hmn
  rw [hm]
  clear hm
  go_enter Tryz.func126, Tryz.ntmps126
  go_wp2_with fail
  have hb0 : Below w.heap.size w ((w.alloc (.cells #[.pointer none, .pointer none, .pointer none, .pointer none] 127)).alloc (.cells #[.pointer none, .pointer none, .pointer none, .pointer none] 127)) := ((Below.refl _ _).alloc (Nat.le_refl _) _).alloc (by simp) _
  have k0 : Blk ((w.alloc (.cells #[.pointer none, .pointer none, .pointer none, .pointer none] 127)).alloc (.cells #[.pointer none, .pointer none, .pointer none, .pointer none] 127)) w.heap.size 127 #[.pointer none, .pointer none, .pointer none, .pointer none] := (Blk.new _ _ _).alloc _
  have k1 : Blk ((w.alloc (.cells #[.pointer none, .pointer none, .pointer none, .pointer none] 127)).alloc (.cells #[.pointer none, .pointer none, .pointer none, .pointer none] 127)) (w.heap.size + 1) 127 #[.pointer none, .pointer none, .pointer none, .pointer none] := by
    have := Blk.new (w.alloc (.cells #[.pointer none, .pointer none, .pointer none, .pointer none] 127)) 127 #[.pointer none, .pointer none, .pointer none, .pointer none]
    simpa using this
  have K0 := Lib.hid k0
  have K1 := Lib.hid k1
  have HB0 := Lib.hid hb0
  clear k0 k1 hb0
  go_loopw [6, 7] (fun x s wr => ∃ (f i : Nat) (q : Nat → Nat), s = .int .i64 ((f : Int) - 1) ∧ f ≤ 4 ∧ x = .pointer (some ⟨blkOf t ns i, 0, none⟩) ∧ Hid (i ≤ m ∧ f ≤ hOf ns i) ∧ Hid (∀ g, f ≤ g → g < 4 → IsLast ns m g (q g)) ∧
      Hid (Blk wr w.heap.size 127 #[.pointer none, .pointer none, .pointer none, .pointer none]) ∧ Hid (∃ cs : Array Value, Blk wr (w.heap.size + 1) 127 cs ∧ cs.size = 4 ∧ ∀ g, f ≤ g → g < 4 → cs[g]? = some (.pointer (some ⟨blkOf t ns (q g), 0, none⟩))) ∧
      Below w.heap.size w wr) (fun _ s _ => (intOf s + 1).toNat)
  case atStart => exact ⟨4, 0, fun _ => 0, rfl, Nat.le_refl _, rfl, ⟨Nat.zero_le _, by simp [hOf]⟩, fun g h1 h2 => by omega, K0.out, ⟨_, K1.out, rfl, fun g h1 h2 => by omega⟩, HB0.out⟩
  case round =>
    obtain ⟨f, i, q, rfl, hf, rfl, hi, hq, hk0, hk1, hbl⟩ := hrel
    clear K0 K1 HB0
    cases f with
    | zero =>
      obtain ⟨cs, hcs, hsz, hcg⟩ := hk1.out
      obtain ⟨p0, p1, p2, p3, rfl⟩ : ∃ p0 p1 p2 p3, cs = #[p0, p1, p2, p3] := by
        obtain ⟨l⟩ := cs
        match l, hsz with
        | [p0, p1, p2, p3], _ => exact ⟨p0, p1, p2, p3, rfl⟩
      have e0 := hcg 0 (by omega) (by omega)
      have e1 := hcg 1 (by omega) (by omega)
      have e2 := hcg 2 (by omega) (by omega)
      have e3 := hcg 3 (by omega) (by omega)
      simp at e0 e1 e2 e3
      subst e0; subst e1; subst e2; subst e3
      have c0 := hcs.cell 0
      have c1 := hcs.cell 1
      have c2 := hcs.cell 2
      have c3 := hcs.cell 3
      simp at c0 c1 c2 c3
      have b0 := hk0.out.cell 0
      have b1 := hk0.out.cell 1
      have b2 := hk0.out.cell 2
      have b3 := hk0.out.cell 3
      simp at b0 b1 b2 b3
      have z0 := hk0.out.frozen 0
      have z1 := hk0.out.frozen 1
      have z2 := hk0.out.frozen 2
      have z3 := hk0.out.frozen 3
      clear hcs hcg hsz
      have hq0 := hq.out 0 (by omega) (by omega)
      have hq1 := hq.out 1 (by omega) (by omega)
      have hq2 := hq.out 2 (by omega) (by omega)
      have hq3 := hq.out 3 (by omega) (by omega)
      have HQ := Lib.hid (And.intro hq0 (And.intro hq1 (And.intro hq2 hq3)))
      clear hq0 hq1 hq2 hq3
      go_wp2_with fail
      refine bodyPost_ret (v := .agg #[.pointer (some ⟨blkOf t ns (q 0), 0, none⟩), .pointer (some ⟨blkOf t ns (q 1), 0, none⟩), .pointer (some ⟨blkOf t ns (q 2), 0, none⟩), .pointer (some ⟨blkOf t ns (q 3), 0, none⟩)]) ?_ rfl ?_
      · simp [results, Tryz.results126, go_sem, b0, b1, b2, b3]
      · refine ⟨⟨q 0, q 1, q 2, q 3, rfl, HQ.out.1, HQ.out.2.1, HQ.out.2.2.1, HQ.out.2.2.2⟩, ?_⟩
        exact (((hbl.setCell (Nat.le_refl _) _).setCell (Nat.le_refl _) _).setCell (Nat.le_refl _) _).setCell (Nat.le_refl _) _
    | succ f =>
      have e1 : (((f + 1 : Nat) : Int) - 1) = (f : Int) := by omega
      rw [e1]
      clear e1
      have g1 : (0 : Int) ≤ (f : Int) := by omega
      have g2 : (f : Int) < 4 := by omega
      have hf4 : f < 4 := by omega
      go_wp2_with fail
      obtain ⟨wo, rfl⟩ : ∃ wo : World, wo = wr := ⟨_, rfl⟩
      have HRW := Lib.hid (HR.out.below hbl)
      obtain ⟨cs, hcs, hsz, hcg⟩ := hk1.out
      have s1 : wo.cell? ⟨w.heap.size + 1, f, none⟩ = some (cs.getD f undef) := by rw [hcs.cell]; simp [hsz, hf4]
      have s2 : wo.frozen? ⟨w.heap.size + 1, f, none⟩ = false := hcs.frozen f
      have HCS := Lib.hid hcs
      have HSZ := Lib.hid hsz
      have HCG := Lib.hid hcg
      clear hcs hsz hcg hk1
      have hi1 := hi.out.1
      have hi2 : f < hOf ns i := by have := hi.out.2; omega
      go_loopg [6] (ns.length - i) (fun g x wr => wo = wr ∧ ∃ i', i' ≤ m ∧ x = .pointer (some ⟨blkOf t ns i', 0, none⟩) ∧ g = ns.length - i' ∧ f < hOf ns i')
      case atStart => exact ⟨rfl, i, hi1, rfl, rfl, hi2⟩
      case round =>
        obtain ⟨rfl, i', hi', rfl, hgk, hfh⟩ := hrel
        have HG := Lib.hid hgk
        clear hgk hi1 hi2
        have hp := HRW.out.ptr (i := i') (f := f) (by omega) hf4
        have hat := HV.out.at_ (i := i') (f := f) (by omega) hfh hf4
        rw [hat] at hp
        clear hat
        cases hnx : nxt f (ns.drop i') with
        | none =>
          rw [hnx] at hp
          have HNX := Lib.hid hnx
          clear hnx
          have hlast : Hid (IsLast ns m f i') := ⟨hi', hfh, fun jj h1 h2 => by
            obtain ⟨nd, hnd, _⟩ := getElem?_of_lt (show jj - 1 < ns.length by omega)
            have h3 := nxt_none HNX.out nd (by
              rw [List.mem_iff_getElem?]
              exact ⟨jj - 1 - i', by rw [List.getElem?_drop, show i' + (jj - 1 - i') = jj - 1 by omega]; exact hnd⟩)
            have h4 := hOf_succ hnd
            rw [show jj - 1 + 1 = jj by omega] at h4
            rw [h4]; exact h3⟩
          go_wp2_with fail
          go_roundw
          case rel => exact way_step HCS.out HSZ.out HCG.out hf4 hq.out hlast.out hk0.out hbl hfh
          case measure => simp [intOf] <;> omega
        | some a =>
          obtain ⟨j, nd, hj, hnf, rfl, hless⟩ := nxt_some hnx
          rw [hnx] at hp
          rw [List.getElem?_drop] at hj
          have hnode := (HRW.out.node nd (List.mem_of_getElem? hj)).cell 0
          simp at hnode
          have hltm := below_lt HO.out.rises key (i' + j) nd hj
          rw [HM.out] at hltm
          have HJ := Lib.hid hj
          have HLESS := Lib.hid hless
          clear hnx hj hless
          by_cases hjm : i' + j < m
          · have tlt : Op.bytesLess nd.e.k.toList key.toList = true := hltm.2 hjm
            clear hltm
            have hb1 := blkOf_succ (t := t) HJ.out
            have hh1 := hOf_succ HJ.out
            have HB1 : Hid (blkOf t ns (i' + j + 1) = nd.b) := hb1
            have HH1 : Hid (f < hOf ns (i' + j + 1)) := by rw [Hid, hh1]; exact hnf
            clear hb1 hh1
            go_wp2_with fail
            go_roundg (ns.length - (i' + j + 1))
            case measure => rw [HG.out]; omega
            case rel => exact ⟨rfl, i' + j + 1, by omega, by rw [HB1.out], rfl, HH1.out⟩
          · have tlt : Op.bytesLess nd.e.k.toList key.toList = false := by
              cases h : Op.bytesLess nd.e.k.toList key.toList
              · rfl
              · exact absurd (hltm.1 h) hjm
            clear hltm
            have hlast : Hid (IsLast ns m f i') := ⟨hi', hfh, fun jj h1 h2 => by
              obtain ⟨nd', hnd, _⟩ := getElem?_of_lt (show jj - 1 < ns.length by omega)
              have h3 := HLESS.out (jj - 1 - i') nd' (by omega) (by rw [List.getElem?_drop, show i' + (jj - 1 - i') = jj - 1 by omega]; exact hnd)
              have h4 := hOf_succ hnd
              rw [show jj - 1 + 1 = jj by omega] at h4
              rw [h4]; exact h3⟩
            go_wp2_with fail
            go_roundw
            case rel => exact way_step HCS.out HSZ.out HCG.out hf4 hq.out hlast.out hk0.out hbl hfh
            case measure => simp [intOf] <;> omega

theorem TOk.nil : TOk [] := ⟨by simp, by simp, by simp [Rises]⟩
theorem tnew_any (B : Nat) (w : World) (hB : B ≤ w.heap.size) :
    Calls Tryz.prog 48 #[] w fun e w' => (e = .returned (.pointer (some ⟨w.heap.size, 0, none⟩)) ∧ Tower B w' w.heap.size [] [w.heap.size]) ∧ Below w.heap.size w w' := by
  go_enter Tryz.func48, Tryz.ntmps48
  go_wp2_with fail
  go_ret
  refine ⟨⟨rfl, [], fun _ _ => none, ⟨Blk.new _ _ _, by simp⟩, ⟨fun f _ => rfl, by simp⟩, TOk.nil, rfl, rfl, by simpa using hB⟩, (Below.refl _ _).alloc (Nat.le_refl _) _⟩

/-- What the last position on the ground floor is. -/
theorem last_ground {ns : List Nd} {m i : Nat} (ho : TOk ns) (hm : m ≤ ns.length) (h : IsLast ns m 0 i) : i = m := by
  obtain ⟨h1, h2, h3⟩ := h
  rcases Nat.lt_or_ge i m with hlt | hge
  · have h4 := h3 m hlt (Nat.le_refl _)
    obtain ⟨nd, hnd, _⟩ := getElem?_of_lt (show m - 1 < ns.length by omega)
    have h5 := hOf_succ hnd
    rw [show m - 1 + 1 = m by omega] at h5
    have := (ho.high nd (List.mem_of_getElem? hnd)).1
    omega
  · omega
theorem nxt_zero {ns : List Nd} (ho : ∀ nd ∈ ns, 1 ≤ nd.h) : nxt 0 ns = (ns[0]?).map fun nd => ⟨nd.b, 0, none⟩ := by
  cases ns with
  | nil => rfl
  | cons nd ns => rw [nxt, if_pos (by have := ho nd (by simp); omega)]; rfl
/-- The entry of a key: the one behind those that are below it, if that is of that key. -/
theorem get_at {ns : List Nd} (hr : Rises (ns.map Nd.e)) (key : ByteArray) : getE (ns.map Nd.e) key = (ns[below ns key]?).bind fun nd => if nd.e.k = key then some nd.e else none := by
  have hb := below_lt hr key
  cases hx : ns[below ns key]? with
  | none =>
    rw [Option.bind_none]
    unfold getE
    rw [List.find?_eq_none]
    intro e he
    obtain ⟨nd, hnd, rfl⟩ := List.mem_map.1 he
    obtain ⟨i, hi⟩ := List.getElem?_of_mem hnd
    have hlt : i < below ns key := by
      have h1 := List.getElem?_eq_none_iff.1 hx
      have h2 : i < ns.length := by
        rcases Nat.lt_or_ge i ns.length with h | h
        · exact h
        · rw [List.getElem?_eq_none h] at hi; cases hi
      omega
    have := (hb i nd hi).2 hlt
    simpa using ltB_ne this
  | some nd =>
    rw [Option.bind_some]
    by_cases hk : nd.e.k = key
    · rw [if_pos hk, ← hk]
      exact getE_of_mem hr (List.mem_map.2 ⟨nd, List.mem_of_getElem? hx, rfl⟩)
    · rw [if_neg hk]
      unfold getE
      rw [List.find?_eq_none]
      intro e he
      obtain ⟨nd', hnd, rfl⟩ := List.mem_map.1 he
      obtain ⟨i, hi⟩ := List.getElem?_of_mem hnd
      simp only [decide_eq_true_eq]
      intro e
      have hnl : ¬ i < below ns key := fun h => ltB_ne ((hb i nd' hi).2 h) e
      have hm : ¬ ltB nd.e.k key = true := fun h => by have := (hb _ nd hx).1 h; omega
      rcases Nat.lt_or_ge (below ns key) i with hlt | hge
      · have hp := List.pairwise_iff_getElem.1 hr (below ns key) i (by have := (List.getElem?_eq_some_iff.1 hx).1; simpa using this) (by have := (List.getElem?_eq_some_iff.1 hi).1; simpa using this) hlt
        simp only [List.getElem_map] at hp
        rw [(List.getElem?_eq_some_iff.1 hx).2, (List.getElem?_eq_some_iff.1 hi).2, e] at hp
        exact hm hp
      · have : i = below ns key := by omega
        subst this
        rw [hx] at hi
        obtain rfl := Option.some.inj hi
        exact hk e

set_option maxHeartbeats 2000000 in
theorem tget_any (B : Nat) (t : Nat) (l : List Ent) (F : List Nat) (key : ByteArray) (w : World) (h : Tower B w t l F) (hn : l.length ≤ 1000000) :
    Calls Tryz.prog 109 #[.pointer (some ⟨t, 0, none⟩), .string key] w fun e w' => e = .returned (.tuple #[((getE l key).getD Ent.zero).val, .bool (getE l key).isSome]) ∧ Below w.heap.size w w' := by
  obtain ⟨ns, N, h1, h2, h3, rfl, rfl, h6⟩ := h
  rw [List.length_map] at hn
  have hg := get_at h3.rises key
  have hbl := below_le ns key
  obtain ⟨m, hm⟩ : ∃ m, below ns key = m := ⟨_, rfl⟩
  have HW := Lib.hid (way_any t ns N _ key (w.alloc (.cells #[.string ⟨#[]⟩, .string ⟨#[]⟩, .bool false] 56)) (h1.below ((Below.refl _ _).alloc (Nat.le_refl _) _)) h2 h3 hn)
  rw [hm] at hg hbl HW
  have HG := Lib.hid hg
  have H1 := Lib.hid h1
  have H2 := Lib.hid h2
  have H3 := Lib.hid h3
  clear hg h1 h2 h3 h6 hm
  go_enter Tryz.func109, Tryz.ntmps109
  go_wp2_with fail
  refine HW.out.mono ?_
  rintro e w1 ⟨⟨i0, i1, i2, i3, rfl, q0, q1, q2, q3⟩, hb1⟩
  have hi0 := last_ground H3.out hbl q0
  subst hi0
  have hb0 : Below w.heap.size w w1 := ((Below.refl w.heap.size w).alloc (Nat.le_refl _) _).trans (hb1.mono (by simp))
  have hz : Blk w1 w.heap.size 56 #[.string ⟨#[]⟩, .string ⟨#[]⟩, .bool false] := (Blk.new w _ _).below hb1 (by simp)
  clear q0 q1 q2 q3 hb1
  have hb2 := hb0.alloc hb0.size (.cells #[.pointer (some ⟨blkOf t ns i0, 0, none⟩), .pointer (some ⟨blkOf t ns i1, 0, none⟩), .pointer (some ⟨blkOf t ns i2, 0, none⟩), .pointer (some ⟨blkOf t ns i3, 0, none⟩)] 127)
  have hz2 := hz.alloc (.cells #[.pointer (some ⟨blkOf t ns i0, 0, none⟩), .pointer (some ⟨blkOf t ns i1, 0, none⟩), .pointer (some ⟨blkOf t ns i2, 0, none⟩), .pointer (some ⟨blkOf t ns i3, 0, none⟩)] 127)
  have z0 := hz2.cell 0
  have z1 := hz2.cell 1
  have z2 := hz2.cell 2
  simp at z0 z1 z2
  have y0 := hz2.frozen 0
  have y1 := hz2.frozen 1
  have y2 := hz2.frozen 2
  have hp := (H1.out.below hb2).ptr (i := i0) (f := 0) hbl (by omega)
  rw [H2.out.at_ hbl (by
    have := (show 0 < hOf ns i0 by
      cases i0 with
      | zero => simp [hOf]
      | succ i =>
        obtain ⟨nd, hnd, _⟩ := getElem?_of_lt (show i < ns.length by omega)
        rw [hOf_succ hnd]
        have := (H3.out.high nd (List.mem_of_getElem? hnd)).1
        omega)
    exact this) (by omega), nxt_zero (fun nd hnd => (H3.out.high nd (List.mem_of_mem_drop hnd)).1), List.getElem?_drop] at hp
  simp only [Nat.add_zero] at hp
  clear hz hz2
  cases hx : ns[i0]? with
  | none =>
    rw [hx] at hp
    have HG2 : Hid (getE (List.map Nd.e ns) key = none) := by rw [Hid, HG.out, hx]; rfl
    simp at hp
    clear hx HG HW
    go_wp2_with fail
    refine bodyPost_ret (v := .tuple #[Ent.zero.val, .bool false]) (by simp [results, Tryz.results109, go_sem, Ent.val, Ent.zero, z0, z1, z2]; rfl) rfl ⟨by rw [HG2.out]; rfl, ?_⟩
    exact ((hb2.setCell (Nat.le_refl _) _).setCell (Nat.le_refl _) _).setCell (Nat.le_refl _) _
  | some nd =>
    rw [hx] at hp
    have hnode := (H1.out.below hb2).node nd (List.mem_of_getElem? hx)
    have n0 := hnode.cell 0
    have n1 := hnode.cell 1
    have n2 := hnode.cell 2
    simp at n0 n1 n2 hp
    clear hnode
    by_cases hk : nd.e.k = key
    · have HG2 : Hid (getE (List.map Nd.e ns) key = some nd.e) := by rw [Hid, HG.out, hx]; simp [hk]
      have t1 : (nd.e.k.toList == key.toList) = true := by rw [hk]; simp
      clear hx HG HW hk
      go_wp2_with fail
      refine bodyPost_ret (v := .tuple #[nd.e.val, .bool true]) (by simp [results, Tryz.results109, go_sem, Ent.val, z0, z1, z2]) rfl ⟨by rw [HG2.out]; rfl, ?_⟩
      exact ((hb2.setCell (Nat.le_refl _) _).setCell (Nat.le_refl _) _).setCell (Nat.le_refl _) _
    · have HG2 : Hid (getE (List.map Nd.e ns) key = none) := by rw [Hid, HG.out, hx]; simp [hk]
      have t1 : (nd.e.k.toList == key.toList) = false := by rw [ba_beq]; simp [hk]
      clear hx HG HW hk
      go_wp2_with fail
      refine bodyPost_ret (v := .tuple #[Ent.zero.val, .bool false]) (by simp [results, Tryz.results109, go_sem, Ent.val, Ent.zero, z0, z1, z2]; rfl) rfl ⟨by rw [HG2.out]; rfl, ?_⟩
      exact ((hb2.setCell (Nat.le_refl _) _).setCell (Nat.le_refl _) _).setCell (Nat.le_refl _) _

set_option maxHeartbeats 2000000 in
theorem tall_any (B : Nat) (t : Nat) (l : List Ent) (F : List Nat) (w : World) (h : Tower B w t l F) (hn : l.length ≤ 1000000) :
    Calls Tryz.prog 135 #[.pointer (some ⟨t, 0, none⟩)] w fun e w' => ∃ v, e = .returned v ∧ Ents B w' v l ∧ Below w.heap.size w w' := by
  obtain ⟨ns, N, h1, h2, h3, rfl, rfl, h6⟩ := h
  rw [List.length_map] at hn
  have hp := h1.head.cell 3
  simp at hp
  rw [h2.head 0 (by omega), nxt_zero (fun nd hnd => (h3.high nd hnd).1)] at hp
  have H1 := Lib.hid h1
  have H2 := Lib.hid h2
  have H3 := Lib.hid h3
  clear h1 h2 h3 h6
  go_enter Tryz.func135, Tryz.ntmps135
  go_wp2_with fail
  go_loopg [3, 4] ns.length (fun g u x wr => ∃ k, k ≤ ns.length ∧ g = ns.length - k ∧ x = .pointer ((ns[k]?).map fun nd => ⟨nd.b, 0, none⟩) ∧ wr.ownsRow w.heap.size 56 3 u ((ns.take k).map Nd.e).length (((ns.take k).map Nd.e).flatMap Ent.cells) ∧ Below w.heap.size w wr)
  case atStart => exact ⟨0, Nat.zero_le _, rfl, rfl, World.ownsRow_nil _ _ _ _, Below.refl _ _⟩
  case round =>
    obtain ⟨k, hk, hgk, rfl, hown, hbl⟩ := hrel
    have HGK := Lib.hid hgk
    have HOWN := Lib.hid hown
    clear hgk hown hp
    cases hx : ns[k]? with
    | none =>
      have hkn : ns.length ≤ k := List.getElem?_eq_none_iff.1 hx
      simp only [Option.map_none]
      clear hx
      go_wp2_with fail
      go_ret
      refine ⟨_, rfl, ?_, hbl⟩
      have ho := HOWN.out
      rw [List.take_of_length_le hkn] at ho
      exact ⟨Rd.of_own ho, fun e he => by
        obtain ⟨nd, hnd, rfl⟩ := List.mem_map.1 he
        exact (H3.out.high nd hnd).2.2⟩
    | some nd =>
      have hlt : k < ns.length := (List.getElem?_eq_some_iff.1 hx).1
      simp only [Option.map_some]
      have hnd := List.mem_of_getElem? hx
      have hnode := H1.out.node nd hnd
      have hnb := hnode.lt
      have hnw := hnode.below hbl hnb
      have n0 := hnw.cell 0
      have n1 := hnw.cell 1
      have n2 := hnw.cell 2
      simp at n0 n1 n2
      have HP : Hid (N nd.b 0 = (ns[k + 1]?).map fun nd => ⟨nd.b, 0, none⟩) := by
        rw [Hid, H2.out.node k nd hx 0 (by have := (H3.out.high nd hnd).1; omega), nxt_zero (fun nd hnd => (H3.out.high nd (List.mem_of_mem_drop hnd)).1), List.getElem?_drop, Nat.add_zero]
      have HT : Hid ((ns.take (k + 1)).map Nd.e = (ns.take k).map Nd.e ++ [nd.e]) := by
        rw [Hid, List.take_succ_eq_append_getElem hlt, List.map_append, (List.getElem?_eq_some_iff.1 hx).2]; rfl
      have hlen : ((ns.take k).map Nd.e).length ≤ 1000000 := by rw [List.length_map, List.length_take]; omega
      have HNW := Lib.hid hnode
      have hbs := hbl.size
      clear hx hnode hnw hnd
      obtain ⟨i0, hi, hz0, hz1, hz2⟩ := info_parts info_entry
      have hownA := Lib.hid (own_alloc HOWN.out (.cells #[.string nd.e.k, .string nd.e.v, .bool nd.e.g] 56))
      generalize hL : (ns.take k).map Nd.e = L at *
      go_wp2_with (at_builtin; go_loud (refine wpList_append_rd _ rfl (.tmp 18) (.tmp 23) 31 rfl w.heap.size 56 i0 _ 3 40 Tryz.underlying31 hi hz0 hz1 hz2 rfl (by decide) u3 _ _ rfl hownA.out B 56 _ 1 _ rfl (rd_lit3 _ _ _ rfl _ _ _) (ent_one3 _ _ _) (by unfold maxLen; omega) (by omega) (by simp; omega) ?_); intro v1 w1 hown1 hg1 hat1; (have hb1 := below_own (hbl.alloc hbs _) (Nat.le_refl _) hownA.out hg1); (have hp := (HNW.out.below hb1 hnb).cell 3); (rw [HP.out] at hp); (simp at hp))
      have hown2 : w1.ownsRow w.heap.size 56 3 v1 ((ns.take (k + 1)).map Nd.e).length (((ns.take (k + 1)).map Nd.e).flatMap Ent.cells) := by
        rw [HT.out]; simpa [Ent.cells] using hown1
      clear hi hz0 hz1 hz2 hg1 hat1 hown1 hp
      go_roundg (ns.length - (k + 1))
      case measure => rw [HGK.out]; omega
      case rel => exact ⟨k + 1, by omega, rfl, rfl, hown2, hb1⟩

theorem Tower.nodup_ {w : World} {t : Nat} {ns : List Nd} {N : Nat → Nat → Option Addr} {cnt : Int} (h : TRep w t ns N cnt) (ho : TOk ns) : (t :: ns.map Nd.b).Nodup :=
  List.nodup_cons.2 ⟨fun hm => by obtain ⟨nd, hnd, e⟩ := List.mem_map.1 hm; exact h.ne nd hnd e, ho.nodup⟩

set_option maxHeartbeats 4000000 in
/-- Put, where the key is there. -/
theorem tput_same (B : Nat) (t : Nat) (ns : List Nd) (N : Nat → Nat → Option Addr) (e : Ent) (high : Int) (w : World) (h1 : TRep w t ns N ns.length) (h2 : TVal t ns N) (h3 : TOk ns) (hB : ∀ b ∈ t :: ns.map Nd.b, B ≤ b) (hn : ns.length ≤ 1000000) (he : EntOk e)
    (nd : Nd) (hx : ns[below ns e.k]? = some nd) (hk : nd.e.k = e.k) :
    Calls Tryz.prog 89 #[.pointer (some ⟨t, 0, none⟩), .agg #[.string e.k, .string e.v, .bool e.g], .int .i64 high] w fun d w' =>
      d = .returned (.tuple #[]) ∧ Tower B w' t (putE (ns.map Nd.e) e) (t :: ns.map Nd.b) ∧ Fr B (· ∈ t :: ns.map Nd.b) w w' := by
  have hbl := below_le ns e.k
  have hput := put_at h3.rises e
  have hrp := rises_put h3.rises e
  have hnd := Tower.nodup_ h1 h3
  obtain ⟨m, hm⟩ : ∃ m, below ns e.k = m := ⟨_, rfl⟩
  have HW := Lib.hid (way_any t ns N _ e.k (w.alloc (.cells #[.string e.k, .string e.v, .bool e.g] 56)) (h1.below ((Below.refl _ _).alloc (Nat.le_refl _) _)) h2 h3 hn)
  rw [hm] at hbl HW hput hx
  have hdrop := List.drop_eq_getElem_cons (List.getElem?_eq_some_iff.1 hx).1
  rw [(List.getElem?_eq_some_iff.1 hx).2] at hdrop
  rw [hdrop] at hput
  simp only [hk, if_true] at hput
  have HPUT : Hid (putE (ns.map Nd.e) e = (ns.take m ++ ⟨nd.b, e, nd.h⟩ :: ns.drop (m + 1)).map Nd.e) := by rw [Hid, hput, List.map_append, List.map_cons]
  have HRP := Lib.hid hrp
  have HND := Lib.hid hnd
  have HX := Lib.hid hx
  have H1 := Lib.hid h1
  have H2 := Lib.hid h2
  have H3 := Lib.hid h3
  have HB := Lib.hid hB
  have t1 : (nd.e.k.toList == e.k.toList) = true := by rw [hk]; simp
  clear hput hrp hnd hx h1 h2 h3 hB hm hdrop hk
  go_enter Tryz.func89, Tryz.ntmps89
  go_wp2_with fail
  refine HW.out.mono ?_
  rintro d w1 ⟨⟨i0, i1, i2, i3, rfl, q0, q1, q2, q3⟩, hb1⟩
  have hi0 := last_ground H3.out hbl q0
  subst hi0
  have hb0 : Below w.heap.size w w1 := ((Below.refl w.heap.size w).alloc (Nat.le_refl _) _).trans (hb1.mono (by simp))
  have hz : Blk w1 w.heap.size 56 #[.string e.k, .string e.v, .bool e.g] := (Blk.new w _ _).below hb1 (by simp)
  clear q0 q1 q2 q3 hb1
  have hb2 := hb0.alloc hb0.size (.cells #[.pointer (some ⟨blkOf t ns i0, 0, none⟩), .pointer (some ⟨blkOf t ns i1, 0, none⟩), .pointer (some ⟨blkOf t ns i2, 0, none⟩), .pointer (some ⟨blkOf t ns i3, 0, none⟩)] 127)
  have hz2 := hz.alloc (.cells #[.pointer (some ⟨blkOf t ns i0, 0, none⟩), .pointer (some ⟨blkOf t ns i1, 0, none⟩), .pointer (some ⟨blkOf t ns i2, 0, none⟩), .pointer (some ⟨blkOf t ns i3, 0, none⟩)] 127)
  have z0 := hz2.cell 0
  have z1 := hz2.cell 1
  have z2 := hz2.cell 2
  simp at z0 z1 z2
  have hp := (H1.out.below hb2).ptr (i := i0) (f := 0) hbl (by omega)
  have hpos : 0 < hOf ns i0 := by
    cases i0 with
    | zero => simp [hOf]
    | succ i =>
      obtain ⟨nd, hnd, _⟩ := getElem?_of_lt (show i < ns.length by omega)
      rw [hOf_succ hnd]
      have := (H3.out.high nd (List.mem_of_getElem? hnd)).1
      omega
  rw [H2.out.at_ hbl hpos (by omega), nxt_zero (fun nd hnd => (H3.out.high nd (List.mem_of_mem_drop hnd)).1), List.getElem?_drop] at hp
  simp only [Nat.add_zero] at hp
  rw [HX.out] at hp
  simp at hp
  have hnode := (H1.out.below hb2).node nd (List.mem_of_getElem? HX.out)
  have n0 := hnode.cell 0
  have n1 := hnode.cell 1
  have n2 := hnode.cell 2
  simp at n0 n1 n2
  have y0 := hnode.frozen 0
  have y1 := hnode.frozen 1
  have y2 := hnode.frozen 2
  clear hz hz2 hnode hpos HW
  go_wp2_with fail
  go_quiet (fail)
  go_wp2_with fail
  refine bodyPost_ret (results_none rfl _ _ _) rfl ?_
  have hr2 : TRep ((w1.alloc (.cells #[.pointer (some ⟨blkOf t ns i0, 0, none⟩), .pointer (some ⟨blkOf t ns i1, 0, none⟩), .pointer (some ⟨blkOf t ns i2, 0, none⟩), .pointer (some ⟨blkOf t ns i3, 0, none⟩)] 127)).drewN nq) t ns N ns.length := ⟨(H1.out.below hb2).head, (H1.out.below hb2).node⟩
  have hb3 := below_drewN' hb2 nq
  have hs := sh_put HX.out e
  have hmap : (ns.take i0 ++ ⟨nd.b, e, nd.h⟩ :: ns.drop (i0 + 1)).map Nd.b = ns.map Nd.b := by
    have h1 : ∀ l : List Nd, l.map Nd.b = (sh l).map Prod.fst := fun l => by simp [sh]
    rw [h1, h1, hs]
  have hlen : (ns.take i0 ++ ⟨nd.b, e, nd.h⟩ :: ns.drop (i0 + 1)).length = ns.length := by
    have := congrArg List.length hs; simpa [sh] using this
  have hmem := List.mem_of_getElem? HX.out
  have hmemF : nd.b ∈ t :: ns.map Nd.b := List.mem_cons_of_mem _ (List.mem_map.2 ⟨nd, hmem, rfl⟩)
  have hBn := HB.out nd.b hmemF
  refine ⟨rfl, ⟨_, N, by rw [hlen]; exact hr2.put_ HND.out HX.out e, H2.out.same hs, ⟨by rw [hmap]; exact H3.out.nodup, fun x hx => ?_, by rw [← HPUT.out]; exact HRP.out⟩, HPUT.out, by rw [hmap], HB.out⟩, ?_⟩
  · rcases List.mem_append.1 hx with hx | hx
    · exact H3.out.high x (List.mem_of_mem_take hx)
    · rcases List.mem_cons.1 hx with rfl | hx
      · exact ⟨(H3.out.high nd hmem).1, (H3.out.high nd hmem).2.1, he⟩
      · exact H3.out.high x (List.mem_of_mem_drop hx)
  · have hfr : Fr B (· ∈ t :: ns.map Nd.b) w ((w1.alloc (.cells #[.pointer (some ⟨blkOf t ns i0, 0, none⟩), .pointer (some ⟨blkOf t ns i1, 0, none⟩), .pointer (some ⟨blkOf t ns i2, 0, none⟩), .pointer (some ⟨blkOf t ns i3, 0, none⟩)] 127)).drewN nq) := Fr.of_below hb3
    have hT : ∀ o, (Addr.mk nd.b o none).block < w.heap.size → ∃ cs T fz, w.heap[(Addr.mk nd.b o none).block]? = some (.cells cs T fz) ∧ mutT T = true := fun o _ => ⟨_, _, _, H1.out.node nd hmem, by decide⟩
    exact ((hfr.setCell hBn (.inl hmemF) (hT 0) _).setCell hBn (.inl hmemF) (hT 1) _).setCell hBn (.inl hmemF) (hT 2) _

set_option maxHeartbeats 4000000 in
/-- Put, where the key is new. -/
theorem tput_new (B : Nat) (t : Nat) (ns : List Nd) (N : Nat → Nat → Option Addr) (e : Ent) (high : Int) (w : World) (h1 : TRep w t ns N ns.length) (h2 : TVal t ns N) (h3 : TOk ns) (hB : ∀ b ∈ t :: ns.map Nd.b, B ≤ b) (hBw : B ≤ w.heap.size) (hn : ns.length ≤ 1000000) (he : EntOk e)
    (hx : ∀ nd, ns[below ns e.k]? = some nd → nd.e.k ≠ e.k) (h : Nat) (hh : min (max high 1) 4 = (h : Int)) :
    Calls Tryz.prog 89 #[.pointer (some ⟨t, 0, none⟩), .agg #[.string e.k, .string e.v, .bool e.g], .int .i64 high] w fun d w' =>
      ∃ nb, d = .returned (.tuple #[]) ∧ w.heap.size ≤ nb ∧ Tower B w' t (putE (ns.map Nd.e) e) (t :: (ns.take (below ns e.k)).map Nd.b ++ nb :: (ns.drop (below ns e.k)).map Nd.b) ∧ Fr B (· ∈ t :: ns.map Nd.b) w w' := by
  have hh1 : 1 ≤ h ∧ h ≤ 4 := by omega
  have hbl := below_le ns e.k
  have hput := put_at h3.rises e
  have hrp := rises_put h3.rises e
  have hnd := Tower.nodup_ h1 h3
  obtain ⟨m, hm⟩ : ∃ m, below ns e.k = m := ⟨_, rfl⟩
  have HW := Lib.hid (way_any t ns N _ e.k (w.alloc (.cells #[.string e.k, .string e.v, .bool e.g] 56)) (h1.below ((Below.refl _ _).alloc (Nat.le_refl _) _)) h2 h3 hn)
  rw [hm] at hbl HW hput hx
  rw [hm]
  have HPUT : ∀ nb, Hid (putE (ns.map Nd.e) e = (ns.take m ++ ⟨nb, e, h⟩ :: ns.drop m).map Nd.e) := fun nb => by
    rw [Hid, hput, List.map_append, List.map_cons]
    congr 2
    cases hd : ns.drop m with
    | nil => rfl
    | cons x r =>
      have h1 : ns[m]? = some x := by
        have := List.getElem?_drop (xs := ns) (i := m) (j := 0)
        rw [hd] at this; simpa using this.symm
      simp only [if_neg (hx x h1)]
  have HPT : Hid (∀ nb, Hid (putE (ns.map Nd.e) e = (ns.take m ++ ⟨nb, e, h⟩ :: ns.drop m).map Nd.e)) := HPUT
  have HRP := Lib.hid hrp
  have HND := Lib.hid hnd
  have HX := Lib.hid hx
  have H1 := Lib.hid h1
  have H2 := Lib.hid h2
  have H3 := Lib.hid h3
  have HB := Lib.hid hB
  have HH := Lib.hid hh
  clear hput hrp hnd hx h1 h2 h3 hB hm HPUT hh
  go_enter Tryz.func89, Tryz.ntmps89
  go_wp2_with fail
  refine HW.out.mono ?_
  rintro d w1 ⟨⟨i0, i1, i2, i3, rfl, q0, q1, q2, q3⟩, hb1⟩
  have hi0 := last_ground H3.out hbl q0
  subst hi0
  have HQ : Hid (IsLast ns i0 0 i0 ∧ IsLast ns i0 1 i1 ∧ IsLast ns i0 2 i2 ∧ IsLast ns i0 3 i3) := ⟨q0, q1, q2, q3⟩
  have hb0 : Below w.heap.size w w1 := ((Below.refl w.heap.size w).alloc (Nat.le_refl _) _).trans (hb1.mono (by simp))
  have hz : Blk w1 w.heap.size 56 #[.string e.k, .string e.v, .bool e.g] := (Blk.new w _ _).below hb1 (by simp)
  clear q0 q1 q2 q3 hb1
  have hb2 := hb0.alloc hb0.size (.cells #[.pointer (some ⟨blkOf t ns i0, 0, none⟩), .pointer (some ⟨blkOf t ns i1, 0, none⟩), .pointer (some ⟨blkOf t ns i2, 0, none⟩), .pointer (some ⟨blkOf t ns i3, 0, none⟩)] 127)
  have hz2 := hz.alloc (.cells #[.pointer (some ⟨blkOf t ns i0, 0, none⟩), .pointer (some ⟨blkOf t ns i1, 0, none⟩), .pointer (some ⟨blkOf t ns i2, 0, none⟩), .pointer (some ⟨blkOf t ns i3, 0, none⟩)] 127)
  have z0 := hz2.cell 0
  have z1 := hz2.cell 1
  have z2 := hz2.cell 2
  simp at z0 z1 z2
  have hp := (H1.out.below hb2).ptr (i := i0) (f := 0) hbl (by omega)
  have hpos : 0 < hOf ns i0 := HQ.out.1.2.1
  rw [H2.out.at_ hbl hpos (by omega), nxt_zero (fun nd hnd => (H3.out.high nd (List.mem_of_mem_drop hnd)).1), List.getElem?_drop] at hp
  simp only [Nat.add_zero] at hp
  clear hz hz2 hpos HW
  have HB2 := Lib.hid hb2
  have hbase : ∀ (nq : Nat) , Hid (TPut B w (((w1.alloc (.cells #[.pointer (some ⟨blkOf t ns i0, 0, none⟩), .pointer (some ⟨blkOf t ns i1, 0, none⟩), .pointer (some ⟨blkOf t ns i2, 0, none⟩), .pointer (some ⟨blkOf t ns i3, 0, none⟩)] 127)).drewN nq).alloc (.cells #[.string e.k, .string e.v, .bool e.g, .pointer none, .pointer none, .pointer none, .pointer none] 129)) t ns N w1.heap.size (w1.heap.size + 1) 127 (at4 i0 i1 i2 i3) e h 0) := by
    intro nq
    have hb3 := below_drewN' HB2.out nq
    have hb4 := hb3.alloc hb3.size (.cells #[.string e.k, .string e.v, .bool e.g, .pointer none, .pointer none, .pointer none, .pointer none] 129)
    have hr4 := H1.out.below hb4
    have hnew := Blk.new ((w1.alloc (.cells #[.pointer (some ⟨blkOf t ns i0, 0, none⟩), .pointer (some ⟨blkOf t ns i1, 0, none⟩), .pointer (some ⟨blkOf t ns i2, 0, none⟩), .pointer (some ⟨blkOf t ns i3, 0, none⟩)] 127)).drewN nq) 129 #[.string e.k, .string e.v, .bool e.g, .pointer none, .pointer none, .pointer none, .pointer none]
    have harr : Blk ((w1.alloc (.cells #[.pointer (some ⟨blkOf t ns i0, 0, none⟩), .pointer (some ⟨blkOf t ns i1, 0, none⟩), .pointer (some ⟨blkOf t ns i2, 0, none⟩), .pointer (some ⟨blkOf t ns i3, 0, none⟩)] 127)).drewN nq) w1.heap.size 127 #[.pointer (some ⟨blkOf t ns i0, 0, none⟩), .pointer (some ⟨blkOf t ns i1, 0, none⟩), .pointer (some ⟨blkOf t ns i2, 0, none⟩), .pointer (some ⟨blkOf t ns i3, 0, none⟩)] := Blk.new w1 _ _
    have hlt : ∀ b ∈ t :: ns.map Nd.b, b < w.heap.size := by
      intro b hb
      rcases List.mem_cons.1 hb with rfl | hb
      · exact H1.out.head.lt
      · obtain ⟨nd, hnd, rfl⟩ := List.mem_map.1 hb; exact (H1.out.node nd hnd).lt
    have hs0 := HB2.out.size
    simp at hs0
    have hn1 : ∀ b ∈ t :: ns.map Nd.b, putN N (w1.heap.size + 1) (fun f => blkOf t ns (at4 i0 i1 i2 i3 f)) 0 b = N b := by
      intro b hb; funext g; unfold putN
      have := hlt b hb
      have := hb0.size
      rw [if_neg (by omega), if_neg (by omega)]
    have hn2 : putN N (w1.heap.size + 1) (fun f => blkOf t ns (at4 i0 i1 i2 i3 f)) 0 (w1.heap.size + 1) = fun _ => none := by
      funext g; unfold putN
      rw [if_neg (by omega), if_pos rfl]
    refine ⟨⟨?_, fun nd hnd => ?_⟩, harr.alloc _, Fr.of_below hb4, by have := hb0.size; omega⟩
    · rw [hn1 t (by simp)]; exact hr4.head
    · rcases List.mem_cons.1 hnd with rfl | hnd
      · simp only [hn2]; simpa using hnew
      · rw [hn1 nd.b (List.mem_cons_of_mem _ (List.mem_map.2 ⟨nd, hnd, rfl⟩))]; exact hr4.node nd hnd
  have HBASE := Lib.hid hbase
  clear hbase
  have hc3 : (high < 1 ∧ h = 1) ∨ high = (h : Int) ∨ (4 < high ∧ h = 4) := by have := HH.out; omega
  have hhi : (1 : Int) ≤ (h : Int) := by omega
  have hlo : (h : Int) ≤ 4 := by omega
  have HQ4 : Hid (∀ f, f < 4 → IsLast ns i0 f (at4 i0 i1 i2 i3 f)) := by
    intro f hf
    obtain ⟨q0, q1, q2, q3⟩ := HQ.out
    match f, hf with
    | 0, _ => exact q0
    | 1, _ => exact q1
    | 2, _ => exact q2
    | 3, _ => exact q3
  cases hy : ns[i0]? with
  | none =>
    rw [hy] at hp
    simp at hp
    clear hy
    rcases hc3 with ⟨hc, hc1⟩ | rfl | ⟨hc, hc1⟩
    all_goals
      go_wp2_with fail
      go_quiet (fail)
      go_wp2_with fail
      have hst := Lib.hid (HBASE.out nq).out
      clear z0 z1 z2 hp
      (try clear n0)
      go_loopw [9, 42] (fun x s wr => ∃ f : Nat, s = .int .i64 f ∧ f ≤ h ∧ Hid (TPut B w wr t ns N w1.heap.size (w1.heap.size + 1) 127 (at4 i0 i1 i2 i3) e h f)) (fun _ s _ => ((h : Int) - intOf s).toNat)
      case atStart => exact ⟨0, rfl, Nat.zero_le _, hst⟩
      case round =>
        obtain ⟨f, rfl, hf, hT⟩ := hrel
        by_cases hfh : f < h
        · have hq := HQ4.out f (by omega)
          have hql := hq.1
          obtain ⟨c1, c2, c3, ⟨v4, c4⟩, c5, c6, c7⟩ := hT.out.facts H1.out (by omega) (by omega)
          have g1 : (0 : Int) ≤ (f : Int) := by omega
          have g2 : (f : Int) < 4 := by omega
          have g3 : f < 4 := by omega
          clear hst
          go_wp2_with fail
          go_region
          go_wp2_with fail
          go_roundw
          case rel => exact ⟨f + 1, by simp, by omega, (hT.out.step H1.out HND.out (by omega) g3 HB.out hBw ⟨by omega, hb0.size⟩).drew⟩
          case measure => simp [intOf] <;> omega
        · obtain rfl : f = h := by omega
          obtain ⟨c1, c2⟩ := hT.out.cnt
          clear hst
          go_wp2_with fail
          go_end0
          obtain ⟨r1, r2⟩ := hT.out.done H1.out H2.out H3.out HND.out HB.out hBw hh1 he hbl HQ4.out ((HPT.out _).out)
          exact ⟨_, rfl, hT.out.new, r1, r2⟩
  | some nd =>
    rw [hy] at hp
    simp at hp
    have hnode := (H1.out.below hb2).node nd (List.mem_of_getElem? hy)
    have n0 := hnode.cell 0
    simp at n0
    have t1 : (nd.e.k.toList == e.k.toList) = false := by rw [ba_beq]; simp [HX.out nd hy]
    clear hnode hy
    rcases hc3 with ⟨hc, hc1⟩ | rfl | ⟨hc, hc1⟩
    all_goals
      go_wp2_with fail
      go_quiet (fail)
      go_wp2_with fail
      have hst := Lib.hid (HBASE.out nq).out
      clear z0 z1 z2 hp
      (try clear n0)
      go_loopw [9, 42] (fun x s wr => ∃ f : Nat, s = .int .i64 f ∧ f ≤ h ∧ Hid (TPut B w wr t ns N w1.heap.size (w1.heap.size + 1) 127 (at4 i0 i1 i2 i3) e h f)) (fun _ s _ => ((h : Int) - intOf s).toNat)
      case atStart => exact ⟨0, rfl, Nat.zero_le _, hst⟩
      case round =>
        obtain ⟨f, rfl, hf, hT⟩ := hrel
        by_cases hfh : f < h
        · have hq := HQ4.out f (by omega)
          have hql := hq.1
          obtain ⟨c1, c2, c3, ⟨v4, c4⟩, c5, c6, c7⟩ := hT.out.facts H1.out (by omega) (by omega)
          have g1 : (0 : Int) ≤ (f : Int) := by omega
          have g2 : (f : Int) < 4 := by omega
          have g3 : f < 4 := by omega
          clear hst
          go_wp2_with fail
          go_region
          go_wp2_with fail
          go_roundw
          case rel => exact ⟨f + 1, by simp, by omega, (hT.out.step H1.out HND.out (by omega) g3 HB.out hBw ⟨by omega, hb0.size⟩).drew⟩
          case measure => simp [intOf] <;> omega
        · obtain rfl : f = h := by omega
          obtain ⟨c1, c2⟩ := hT.out.cnt
          clear hst
          go_wp2_with fail
          go_end0
          obtain ⟨r1, r2⟩ := hT.out.done H1.out H2.out H3.out HND.out HB.out hBw hh1 he hbl HQ4.out ((HPT.out _).out)
          exact ⟨_, rfl, hT.out.new, r1, r2⟩

/-- Put, whatever the key. -/
theorem tput_any (B : Nat) (t : Nat) (l : List Ent) (F : List Nat) (e : Ent) (high : Int) (w : World) (h : Tower B w t l F) (hBw : B ≤ w.heap.size) (hn : l.length ≤ 1000000) (he : EntOk e) :
    Calls Tryz.prog 89 #[.pointer (some ⟨t, 0, none⟩), .agg #[.string e.k, .string e.v, .bool e.g], .int .i64 high] w fun d w' =>
      ∃ F', d = .returned (.tuple #[]) ∧ Tower B w' t (putE l e) F' ∧ Fr B (· ∈ F) w w' ∧ ∀ b ∈ F', b ∈ F ∨ w.heap.size ≤ b := by
  obtain ⟨ns, N, h1, h2, h3, rfl, rfl, h6⟩ := h
  rw [List.length_map] at hn
  have new : (∀ nd, ns[below ns e.k]? = some nd → nd.e.k ≠ e.k) → Calls Tryz.prog 89 #[.pointer (some ⟨t, 0, none⟩), .agg #[.string e.k, .string e.v, .bool e.g], .int .i64 high] w fun d w' =>
      ∃ F', d = .returned (.tuple #[]) ∧ Tower B w' t (putE (ns.map Nd.e) e) F' ∧ Fr B (· ∈ t :: ns.map Nd.b) w w' ∧ ∀ b ∈ F', b ∈ t :: ns.map Nd.b ∨ w.heap.size ≤ b := by
    intro hx
    obtain ⟨h, hh⟩ : ∃ h : Nat, min (max high 1) 4 = (h : Int) := ⟨(min (max high 1) 4).toNat, by omega⟩
    refine (tput_new B t ns N e high w h1 h2 h3 h6 hBw hn he hx h hh).mono ?_
    rintro d w' ⟨nb, rfl, hnb, hT, hF⟩
    refine ⟨_, rfl, hT, hF, fun b hb => ?_⟩
    simp only [List.cons_append, List.mem_cons, List.mem_append, List.mem_map] at hb
    rcases hb with rfl | ⟨x, hx, rfl⟩ | rfl | ⟨x, hx, rfl⟩
    · exact .inl (by simp)
    · exact .inl (List.mem_cons_of_mem _ (List.mem_map.2 ⟨x, List.mem_of_mem_take hx, rfl⟩))
    · exact .inr hnb
    · exact .inl (List.mem_cons_of_mem _ (List.mem_map.2 ⟨x, List.mem_of_mem_drop hx, rfl⟩))
  cases hx : ns[below ns e.k]? with
  | none => exact new fun nd h => by rw [hx] at h; cases h
  | some nd =>
    by_cases hk : nd.e.k = e.k
    · refine (tput_same B t ns N e high w h1 h2 h3 h6 hn he nd hx hk).mono ?_
      rintro d w' ⟨rfl, hT, hF⟩
      exact ⟨_, rfl, hT, hF, fun b hb => .inl hb⟩
    · exact new fun nd' h => by rw [hx] at h; injection h with h; rw [← h]; exact hk
/-- Get, its result written out. -/
theorem tget_two (B : Nat) (t : Nat) (l : List Ent) (F : List Nat) (key : ByteArray) (w : World) (h : Tower B w t l F) (hn : l.length ≤ 1000000) :
    Calls Tryz.prog 109 #[.pointer (some ⟨t, 0, none⟩), .string key] w fun e w' => (∃ x : Ent, x = (getE l key).getD Ent.zero ∧ e = .returned (.tuple #[.agg #[.string x.k, .string x.v, .bool x.g], .bool (getE l key).isSome])) ∧ Below w.heap.size w w' := by
  refine (tget_any B t l F key w h hn).mono ?_
  rintro e w' ⟨rfl, hb⟩
  exact ⟨⟨_, rfl, rfl⟩, hb⟩
end Go.Proofs.YtaepdbkfaoiimabGreatDoor
