/- Towers as they lie in memory, and the plain laws of putting a node in. Conditions: none but those that each law names. -/
import Derived.Test.YtaepdbkfaoiimabOrd
set_option linter.unusedVariables false
set_option linter.unusedSimpArgs false
namespace Go.Proofs.Ytaepdbkfaoiimab
open Go.RowKit

/-- A node: its block, its entry, how high it is. -/
structure Nd where
  b : Nat
  e : Ent
  h : Nat
/-- The first node that is higher than f. -/
def nxt (f : Nat) : List Nd → Option Addr
  | [] => none
  | nd :: l => if f < nd.h then some ⟨nd.b, 0, none⟩ else nxt f l

/-- The cells: N b f is the pointer of block b on floor f. -/
structure TRep (w : World) (t : Nat) (ns : List Nd) (N : Nat → Nat → Option Addr) (cnt : Int) : Prop where
  head : Blk w t 103 #[.string ByteArray.empty, .string ByteArray.empty, .bool false, .pointer (N t 0), .pointer (N t 1), .pointer (N t 2), .pointer (N t 3), .int .i64 cnt]
  node : ∀ nd ∈ ns, Blk w nd.b 101 #[.string nd.e.k, .string nd.e.v, .bool nd.e.g, .pointer (N nd.b 0), .pointer (N nd.b 1), .pointer (N nd.b 2), .pointer (N nd.b 3)]
/-- The pointers are those of the floors. -/
structure TVal (t : Nat) (ns : List Nd) (N : Nat → Nat → Option Addr) : Prop where
  head : ∀ f, f < 4 → N t f = nxt f ns
  node : ∀ i nd, ns[i]? = some nd → ∀ f, f < nd.h → N nd.b f = nxt f (ns.drop (i + 1))
structure TOk (ns : List Nd) : Prop where
  nodup : (ns.map Nd.b).Nodup
  high : ∀ nd ∈ ns, 1 ≤ nd.h ∧ nd.h ≤ 4 ∧ EntOk nd.e
  rises : Rises (ns.map Nd.e)

/-- A tower at block t that has the entries l, over the blocks F. -/
def Tower (B : Nat) (w : World) (t : Nat) (l : List Ent) (F : List Nat) : Prop :=
  ∃ ns N, TRep w t ns N ns.length ∧ TVal t ns N ∧ TOk ns ∧ l = ns.map Nd.e ∧ F = t :: ns.map Nd.b ∧ ∀ b ∈ F, B ≤ b

section
variable {B : Nat} {M : Nat → Prop} {w w' : World} {t : Nat} {ns : List Nd} {N : Nat → Nat → Option Addr} {cnt : Int} {l : List Ent} {F : List Nat}
theorem TRep.keep (h : TRep w t ns N cnt) (hk : ∀ b, b < w.heap.size → (b = t ∨ b ∈ ns.map Nd.b) → w'.heap[b]? = w.heap[b]?) : TRep w' t ns N cnt :=
  ⟨(hk t h.head.lt (.inl rfl)).trans h.head, fun nd hnd => (hk nd.b (h.node nd hnd).lt (.inr (List.mem_map.2 ⟨nd, hnd, rfl⟩))).trans (h.node nd hnd)⟩
theorem TRep.below (h : TRep w t ns N cnt) (hb : Below w.heap.size w w') : TRep w' t ns N cnt := h.keep fun b hb' _ => hb.block b hb'
theorem Tower.below (h : Tower B w t l F) (hb : Below w.heap.size w w') : Tower B w' t l F := by
  obtain ⟨ns, N, h1, h2⟩ := h
  exact ⟨ns, N, h1.below hb, h2⟩
theorem Tower.fr (h : Tower B w t l F) (hf : Fr B M w w') (hM : ∀ b ∈ F, ¬ M b) : Tower B w' t l F := by
  obtain ⟨ns, N, h1, h2, h3, h4, rfl, h6⟩ := h
  refine ⟨ns, N, h1.keep fun b hb hm => hf.block b hb (.inr (.inl (hM b ?_))), h2, h3, h4, rfl, h6⟩
  rcases hm with rfl | hm
  · simp
  · simp [hm]
theorem Tower.lt (h : Tower B w t l F) : ∀ b ∈ F, b < w.heap.size := by
  obtain ⟨ns, N, h1, h2, h3, h4, rfl, h6⟩ := h
  intro b hb
  rcases List.mem_cons.1 hb with rfl | hb
  · exact h1.head.lt
  · obtain ⟨nd, hnd, rfl⟩ := List.mem_map.1 hb
    exact (h1.node nd hnd).lt
theorem Tower.mut (h : Tower B w t l F) : ∀ b ∈ F, ∃ cs T fz, w.heap[b]? = some (.cells cs T fz) ∧ mutT T = true := by
  obtain ⟨ns, N, h1, h2, h3, h4, rfl, h6⟩ := h
  intro b hb
  rcases List.mem_cons.1 hb with rfl | hb
  · exact ⟨_, _, _, h1.head, by decide⟩
  · obtain ⟨nd, hnd, rfl⟩ := List.mem_map.1 hb
    exact ⟨_, _, _, h1.node nd hnd, by decide⟩
theorem Tower.rises (h : Tower B w t l F) : Rises l := by
  obtain ⟨ns, N, h1, h2, h3, rfl, _⟩ := h; exact h3.rises
theorem Tower.ok (h : Tower B w t l F) : ∀ e ∈ l, EntOk e := by
  obtain ⟨ns, N, h1, h2, h3, rfl, _⟩ := h
  intro e he
  obtain ⟨nd, hnd, rfl⟩ := List.mem_map.1 he
  exact (h3.high nd hnd).2.2
theorem Tower.drewN (h : Tower B w t l F) (n : Nat) : Tower B (w.drewN n) t l F := by
  obtain ⟨ns, N, h1, h2⟩ := h
  exact ⟨ns, N, ⟨h1.head, h1.node⟩, h2⟩
theorem TRep.ne (h : TRep w t ns N cnt) : ∀ nd ∈ ns, nd.b ≠ t := by
  intro nd hnd e
  have h1 := h.node nd hnd
  have h2 := h.head
  unfold Blk at h1 h2
  rw [e, h2] at h1
  injection h1 with h1
  injection h1 with _ h1
  exact absurd h1 (by decide)
end

/-! ### the way to a key -/
/-- The pointer to position i: 0: the head; else the node ahead of it in number. -/
def blkOf (t : Nat) (ns : List Nd) (i : Nat) : Nat := if i = 0 then t else ((ns[i - 1]?).map Nd.b).getD 0
def hOf (ns : List Nd) (i : Nat) : Nat := if i = 0 then 4 else ((ns[i - 1]?).map Nd.h).getD 0
/-- Position i is the last one on floor f among the first m. -/
def IsLast (ns : List Nd) (m f i : Nat) : Prop := i ≤ m ∧ f < hOf ns i ∧ ∀ j, i < j → j ≤ m → hOf ns j ≤ f
theorem hOf_succ {ns : List Nd} {i : Nat} {nd : Nd} (h : ns[i]? = some nd) : hOf ns (i + 1) = nd.h := by simp [hOf, h]
theorem blkOf_succ {t : Nat} {ns : List Nd} {i : Nat} {nd : Nd} (h : ns[i]? = some nd) : blkOf t ns (i + 1) = nd.b := by simp [blkOf, h]
/-- What the pointer on floor f of position i is. -/
theorem TVal.at_ {t : Nat} {ns : List Nd} {N : Nat → Nat → Option Addr} (h : TVal t ns N) {i f : Nat} (hi : i ≤ ns.length) (hf : f < hOf ns i) (h4 : f < 4) : N (blkOf t ns i) f = nxt f (ns.drop i) := by
  cases i with
  | zero => simpa [blkOf] using h.head f h4
  | succ i =>
    obtain ⟨nd, hnd, _⟩ := getElem?_of_lt (show i < ns.length by omega)
    rw [hOf_succ hnd] at hf
    rw [blkOf_succ hnd, h.node i nd hnd f hf]
theorem nxt_none {f : Nat} : ∀ {l : List Nd}, nxt f l = none → ∀ nd ∈ l, nd.h ≤ f
  | [], _, nd, h => by cases h
  | x :: l, h, nd, hm => by
    unfold nxt at h
    split at h
    · cases h
    · rcases List.mem_cons.1 hm with rfl | hm
      · omega
      · exact nxt_none h nd hm
theorem nxt_some {f : Nat} {a : Addr} : ∀ {l : List Nd}, nxt f l = some a → ∃ (j : Nat) (nd : Nd), l[j]? = some nd ∧ f < nd.h ∧ a = ⟨nd.b, 0, none⟩ ∧ ∀ (j' : Nat) (nd' : Nd), j' < j → l[j']? = some nd' → nd'.h ≤ f
  | [], h => by cases h
  | x :: l, h => by
    unfold nxt at h
    split at h
    · rename_i hx
      exact ⟨0, x, rfl, hx, (Option.some.inj h).symm, fun j' nd' hj _ => by omega⟩
    · rename_i hx
      obtain ⟨j, nd, h1, h2, h3, h4⟩ := nxt_some h
      refine ⟨j + 1, nd, h1, h2, h3, fun j' nd' hj hnd => ?_⟩
      cases j' with
      | zero => simp at hnd; subst hnd; omega
      | succ j' => exact h4 j' nd' (by omega) hnd
theorem nxt_at {f : Nat} {l : List Nd} {j : Nat} {nd : Nd} (h1 : l[j]? = some nd) (h2 : f < nd.h) (h3 : ∀ (j' : Nat) (nd' : Nd), j' < j → l[j']? = some nd' → nd'.h ≤ f) : nxt f l = some ⟨nd.b, 0, none⟩ := by
  induction l generalizing j with
  | nil => simp at h1
  | cons x l ih =>
    unfold nxt
    cases j with
    | zero => simp at h1; subst h1; rw [if_pos h2]
    | succ j =>
      have hx := h3 0 x (by omega) rfl
      rw [if_neg (by omega)]
      exact ih (by simpa using h1) (fun j' nd' hj hnd => h3 (j' + 1) nd' (by omega) (by simpa using hnd))
theorem nxt_none_of {f : Nat} {l : List Nd} (h : ∀ nd ∈ l, nd.h ≤ f) : nxt f l = none := by
  induction l with
  | nil => rfl
  | cons x l ih =>
    unfold nxt
    rw [if_neg (by have := h x (by simp); omega)]
    exact ih fun nd hnd => h nd (by simp [hnd])

/-- How many entries are below a key. -/
def below (ns : List Nd) (k : ByteArray) : Nat := (ns.takeWhile fun nd => ltB nd.e.k k).length
theorem below_le (ns : List Nd) (k : ByteArray) : below ns k ≤ ns.length := by
  unfold below; exact (List.takeWhile_sublist _).length_le
theorem below_lt {ns : List Nd} (hr : Rises (ns.map Nd.e)) (k : ByteArray) : ∀ (i : Nat) (nd : Nd), ns[i]? = some nd → (ltB nd.e.k k = true ↔ i < below ns k) := by
  induction ns with
  | nil => intro i nd h; simp at h
  | cons x ns ih =>
    intro i nd h
    rw [List.map_cons, rises_cons] at hr
    unfold below
    cases hx : ltB x.e.k k
    · rw [List.takeWhile_cons, hx]
      simp only [Bool.false_eq_true, if_false, List.length_nil, Nat.not_lt_zero, iff_false]
      intro hlt
      cases i with
      | zero => simp at h; subst h; rw [hx] at hlt; cases hlt
      | succ i =>
        simp at h
        have := hr.1 nd.e (List.mem_map.2 ⟨nd, List.mem_of_getElem? h, rfl⟩)
        rw [ltB_trans this hlt] at hx
        cases hx
    · rw [List.takeWhile_cons, hx]
      simp only [if_true, List.length_cons]
      cases i with
      | zero => simp at h; subst h; simp [hx]
      | succ i =>
        simp at h
        rw [ih hr.2 i nd h]
        unfold below
        omega

/-! ### a node is put in -/
theorem nxt_append (f : Nat) (a b : List Nd) : nxt f (a ++ b) = (nxt f a).or (nxt f b) := by
  induction a with
  | nil => rfl
  | cons x a ih =>
    rw [List.cons_append, nxt, nxt]
    split
    · rfl
    · exact ih
theorem nxt_drop {f m i : Nat} {ns : List Nd} (hi : i ≤ m) (hm : m ≤ ns.length) : nxt f (ns.drop i) = (nxt f ((ns.take m).drop i)).or (nxt f (ns.drop m)) := by
  rw [← nxt_append]
  congr 1
  have h : ns = ns.take m ++ ns.drop m := (List.take_append_drop m ns).symm
  have h2 : (ns.take m ++ ns.drop m).drop i = (ns.take m).drop i ++ ns.drop m := by
    rw [List.drop_append, show i - (ns.take m).length = 0 by rw [List.length_take]; omega, List.drop_zero]
  rw [← h2, ← h]
theorem nxt_last_none {f m i : Nat} {ns : List Nd} (hm : m ≤ ns.length) (h : IsLast ns m f i) : nxt f ((ns.take m).drop i) = none := by
  refine nxt_none_of fun nd hnd => ?_
  obtain ⟨j, hj⟩ := List.getElem?_of_mem hnd
  rw [List.getElem?_drop, List.getElem?_take] at hj
  split at hj
  · rename_i hlt
    have h1 := h.2.2 (i + j + 1) (by omega) (by omega)
    rw [hOf_succ hj] at h1
    exact h1
  · cases hj
theorem nxt_before_some {f m i q : Nat} {ns : List Nd} (hm : m ≤ ns.length) (h : IsLast ns m f q) (hi : i < q) : ∃ a, nxt f ((ns.take m).drop i) = some a := by
  cases hx : nxt f ((ns.take m).drop i) with
  | some a => exact ⟨a, rfl⟩
  | none =>
    have hq := h.1
    obtain ⟨nd, hnd, _⟩ := getElem?_of_lt (show q - 1 < ns.length by omega)
    have h1 := hOf_succ hnd
    rw [show q - 1 + 1 = q by omega] at h1
    have h2 := nxt_none hx nd (by
      rw [List.mem_iff_getElem?]
      exact ⟨q - 1 - i, by rw [List.getElem?_drop, show i + (q - 1 - i) = q - 1 by omega, List.getElem?_take, if_pos (by omega)]; exact hnd⟩)
    have h3 := h.2.1
    omega
theorem last_le {f m i q : Nat} {ns : List Nd} (h : IsLast ns m f q) (hi : i ≤ m) (hf : f < hOf ns i) : i ≤ q := by
  rcases Nat.lt_or_ge q i with hlt | hge
  · have := h.2.2 i hlt hi; omega
  · exact hge
/-- Two positions of one block are one. -/
theorem blkOf_inj {t : Nat} {ns : List Nd} (hn : (t :: ns.map Nd.b).Nodup) {i j : Nat} (hi : i ≤ ns.length) (hj : j ≤ ns.length) (h : blkOf t ns i = blkOf t ns j) : i = j := by
  have e : ∀ k, k ≤ ns.length → (t :: ns.map Nd.b)[k]? = some (blkOf t ns k) := by
    intro k hk
    cases k with
    | zero => rfl
    | succ k =>
      obtain ⟨nd, hnd, _⟩ := getElem?_of_lt (show k < ns.length by omega)
      rw [blkOf_succ hnd, List.getElem?_cons_succ, List.getElem?_map, hnd]; rfl
  have h1 := e i hi
  have h2 := e j hj
  rw [h] at h1
  exact (List.getElem?_inj (show i < (t :: ns.map Nd.b).length by simp; omega) hn).1 (h1.trans h2.symm)
theorem blkOf_mem {t : Nat} {ns : List Nd} {i : Nat} (hi : i ≤ ns.length) : blkOf t ns i = t ∨ blkOf t ns i ∈ ns.map Nd.b := by
  cases i with
  | zero => exact .inl rfl
  | succ i =>
    obtain ⟨nd, hnd, _⟩ := getElem?_of_lt (show i < ns.length by omega)
    rw [blkOf_succ hnd]
    exact .inr (List.mem_map.2 ⟨nd, List.mem_of_getElem? hnd, rfl⟩)

/-- The pointers behind f floors of a node nb that is put in behind the blocks W. -/
def putN (N : Nat → Nat → Option Addr) (nb : Nat) (W : Nat → Nat) (f : Nat) : Nat → Nat → Option Addr :=
  fun b g => if g < f then (if b = nb then N (W g) g else if b = W g then some ⟨nb, 0, none⟩ else N b g) else if b = nb then none else N b g
def upd (N : Nat → Nat → Option Addr) (b f : Nat) (v : Option Addr) : Nat → Nat → Option Addr := fun b' g => if b' = b ∧ g = f then v else N b' g
theorem putN_succ (N : Nat → Nat → Option Addr) (nb : Nat) (W : Nat → Nat) (f : Nat) (hW : W f ≠ nb) : putN N nb W (f + 1) = upd (upd (putN N nb W f) nb f (N (W f) f)) (W f) f (some ⟨nb, 0, none⟩) := by
  funext b g
  unfold putN upd
  by_cases hg : g = f
  · subst hg
    by_cases hb : b = nb
    · subst hb; simp [Ne.symm hW]
    · by_cases hb2 : b = W g
      · subst hb2; simp [hW]
      · simp [hb, hb2]
  · have h1 : (g < f + 1) ↔ (g < f) := by omega
    simp [hg, h1]
theorem TRep.set_ {w : World} {t : Nat} {ns : List Nd} {N : Nat → Nat → Option Addr} {cnt : Int} (h : TRep w t ns N cnt) (hn : (t :: ns.map Nd.b).Nodup) {b f : Nat} (hb : b = t ∨ b ∈ ns.map Nd.b) (hf : f < 4) (v : Option Addr) :
    TRep (w.setCell ⟨b, 3 + f, none⟩ (.pointer v)) t ns (upd N b f v) cnt := by
  have hnd := List.nodup_cons.1 hn
  have hhead : ∀ c, (upd N b f v) c = if c = b then (fun g => if g = f then v else N b g) else N c := by
    intro c; funext g; unfold upd; by_cases hc : c = b
    · subst hc; simp
    · simp [hc]
  refine ⟨?_, fun nd hmem => ?_⟩
  · rw [hhead]
    by_cases hbt : b = t
    · subst hbt
      rw [if_pos rfl]
      have h1 := h.head.set_ (3 + f) (.pointer v)
      match f, hf with
      | 0, _ => exact h1
      | 1, _ => exact h1
      | 2, _ => exact h1
      | 3, _ => exact h1
    · rw [if_neg (Ne.symm hbt)]
      exact h.head.far (Ne.symm hbt) _
  · rw [hhead]
    by_cases hbn : b = nd.b
    · subst hbn
      rw [if_pos rfl]
      have h1 := (h.node nd hmem).set_ (3 + f) (.pointer v)
      match f, hf with
      | 0, _ => exact h1
      | 1, _ => exact h1
      | 2, _ => exact h1
      | 3, _ => exact h1
    · rw [if_neg (Ne.symm hbn)]
      exact (h.node nd hmem).far (Ne.symm hbn) _

theorem TVal.put {t : Nat} {ns : List Nd} {N : Nat → Nat → Option Addr} {m nb h : Nat} {e : Ent} {q : Nat → Nat} (hv : TVal t ns N) (ho : TOk ns) (hm : m ≤ ns.length) (hh : 1 ≤ h ∧ h ≤ 4) (hn : (t :: ns.map Nd.b).Nodup)
    (hnb : nb ≠ t ∧ nb ∉ ns.map Nd.b) (hq : ∀ f, f < 4 → IsLast ns m f (q f)) :
    TVal t (ns.take m ++ ⟨nb, e, h⟩ :: ns.drop m) (putN N nb (fun f => blkOf t ns (q f)) h) := by
  -- a position at or ahead of m
  have low : ∀ i f, i ≤ m → f < 4 → f < hOf ns i → putN N nb (fun f => blkOf t ns (q f)) h (blkOf t ns i) f = nxt f ((ns.take m).drop i ++ ⟨nb, e, h⟩ :: ns.drop m) := by
    intro i f hi hf4 hfi
    have hne : blkOf t ns i ≠ nb := by
      rcases blkOf_mem (t := t) (ns := ns) (i := i) (by omega) with h1 | h1
      · rw [h1]; exact fun e => hnb.1 e.symm
      · intro e; rw [e] at h1; exact hnb.2 h1
    have hat := hv.at_ (i := i) (f := f) (by omega) hfi hf4
    rw [nxt_append, nxt]
    unfold putN
    rw [if_neg hne, if_neg hne]
    by_cases hfh : f < h
    · rw [if_pos hfh, if_pos hfh]
      by_cases hiq : i = q f
      · subst hiq
        rw [if_pos rfl, nxt_last_none hm (hq f hf4)]; rfl
      · rw [if_neg (fun e => hiq (blkOf_inj hn (by omega) (by have := (hq f hf4).1; omega) e)), hat, nxt_drop hi hm]
        have hlt : i < q f := by have := last_le (hq f hf4) hi hfi; omega
        obtain ⟨a, ha⟩ := nxt_before_some hm (hq f hf4) hlt
        rw [ha]; rfl
    · rw [if_neg hfh, if_neg hfh, hat, nxt_drop hi hm]
  have htl : (ns.take m).length = m := by rw [List.length_take]; omega
  refine ⟨fun f hf => ?_, fun i nd hi f hf => ?_⟩
  · have := low 0 f (Nat.zero_le _) hf (by simpa [hOf] using hf)
    simpa [blkOf] using this
  · rcases Nat.lt_or_ge i m with hlt | hge
    · rw [List.getElem?_append_left (by omega), List.getElem?_take, if_pos hlt] at hi
      have h4 := (ho.high nd (List.mem_of_getElem? hi)).2.1
      have := low (i + 1) f (by omega) (by omega) (by rw [hOf_succ hi]; exact hf)
      rw [blkOf_succ hi] at this
      rw [this, List.drop_append, show i + 1 - (ns.take m).length = 0 by omega, List.drop_zero]
    · rw [List.getElem?_append_right (by omega), htl] at hi
      rcases Nat.eq_or_lt_of_le hge with heq | hgt
      · subst heq
        rw [Nat.sub_self, List.getElem?_cons_zero] at hi
        obtain rfl := Option.some.inj hi
        simp only at hf
        have hqm := hq f (by omega)
        unfold putN
        rw [if_pos hf, if_pos rfl, hv.at_ (by have := hqm.1; omega) hqm.2.1 (by omega), nxt_drop hqm.1 hm, nxt_last_none hm hqm]
        have hd : (ns.take m).drop (m + 1) = [] := List.drop_eq_nil_of_le (by omega)
        rw [List.drop_append, hd, htl, show m + 1 - m = 1 by omega]
        rfl
      · rw [show i - m = (i - m - 1) + 1 by omega, List.getElem?_cons_succ, List.getElem?_drop, show m + (i - m - 1) = i - 1 by omega] at hi
        have hne : nd.b ≠ nb := fun e => hnb.2 (List.mem_map.2 ⟨nd, List.mem_of_getElem? hi, e⟩)
        have hil : i - 1 < ns.length := (List.getElem?_eq_some_iff.1 hi).1
        have h4 := (ho.high nd (List.mem_of_getElem? hi)).2.1
        have hbl := blkOf_succ (t := t) hi
        rw [show i - 1 + 1 = i by omega] at hbl
        have hnW : nd.b ≠ blkOf t ns (q f) := by
          rw [← hbl]
          intro e
          have h1 := (hq f (by omega)).1
          have := blkOf_inj hn (by omega) (by omega) e
          omega
        have hval := hv.node (i - 1) nd hi f hf
        rw [show i - 1 + 1 = i by omega] at hval
        have hput : putN N nb (fun f => blkOf t ns (q f)) h nd.b f = N nd.b f := by
          unfold putN
          rw [if_neg hne, if_neg hne, if_neg hnW]
          split <;> rfl
        have hd : (ns.take m).drop (i + 1) = [] := List.drop_eq_nil_of_le (by omega)
        rw [hput, hval, List.drop_append, hd, htl, List.nil_append, show i + 1 - m = (i - m) + 1 by omega, List.drop_succ_cons, List.drop_drop, show m + (i - m) = i by omega]

/-! ### what putting makes of the entries -/
theorem merge2_at (e : Ent) : ∀ (l : List Ent), merge2 [e] l = l.takeWhile (fun x => ltB x.k e.k) ++ e :: (match l.dropWhile (fun x => ltB x.k e.k) with | [] => [] | x :: r => if x.k = e.k then r else x :: r)
  | [] => by simp [merge2]
  | x :: l => by
    rw [merge2]
    cases h1 : ltB e.k x.k
    · cases h2 : ltB x.k e.k
      · have hk := ltB_tri h1 h2
        rw [List.takeWhile_cons, h2, List.dropWhile_cons, h2]
        simp [hk, merge2]
      · rw [List.takeWhile_cons, h2, List.dropWhile_cons, h2]
        simp only [Bool.false_eq_true, if_false, if_true, List.cons_append]
        rw [merge2_at e l]
    · have h2 := ltB_asymm h1
      rw [List.takeWhile_cons, h2, List.dropWhile_cons, h2]
      have hk := (ltB_ne h1).symm
      simp [hk, merge2]
theorem takeWhile_map' (p : Ent → Bool) : ∀ ns : List Nd, (ns.map Nd.e).takeWhile p = (ns.takeWhile fun nd => p nd.e).map Nd.e
  | [] => rfl
  | x :: ns => by
    rw [List.map_cons, List.takeWhile_cons, List.takeWhile_cons]
    split
    · rw [takeWhile_map' p ns]; rfl
    · rfl
theorem dropWhile_map' (p : Ent → Bool) : ∀ ns : List Nd, (ns.map Nd.e).dropWhile p = (ns.dropWhile fun nd => p nd.e).map Nd.e
  | [] => rfl
  | x :: ns => by
    rw [List.map_cons, List.dropWhile_cons, List.dropWhile_cons]
    split
    · rw [dropWhile_map' p ns]
    · rfl
theorem take_while (p : Nd → Bool) : ∀ ns : List Nd, ns.takeWhile p = ns.take (ns.takeWhile p).length ∧ ns.dropWhile p = ns.drop (ns.takeWhile p).length
  | [] => ⟨rfl, rfl⟩
  | x :: ns => by
    rw [List.takeWhile_cons, List.dropWhile_cons]
    split
    · obtain ⟨h1, h2⟩ := take_while p ns
      exact ⟨by rw [List.length_cons, List.take_succ_cons, ← h1], by rw [List.length_cons, List.drop_succ_cons, ← h2]⟩
    · exact ⟨rfl, rfl⟩
theorem put_at {ns : List Nd} (hr : Rises (ns.map Nd.e)) (e : Ent) : putE (ns.map Nd.e) e = (ns.take (below ns e.k)).map Nd.e ++ e :: (match ns.drop (below ns e.k) with | [] => [] | x :: r => if x.e.k = e.k then r.map Nd.e else (x :: r).map Nd.e) := by
  obtain ⟨h1, h2⟩ := take_while (fun nd => ltB nd.e.k e.k) ns
  rw [putE_eq e _ hr, merge2_at, takeWhile_map', dropWhile_map', h1, h2]
  unfold below
  congr 2
  cases ns.drop (ns.takeWhile fun nd => ltB nd.e.k e.k).length with
  | nil => rfl
  | cons x r => simp only [List.map_cons]

/-! ### an entry takes another one's place -/
def sh (l : List Nd) : List (Nat × Nat) := l.map fun nd => (nd.b, nd.h)
theorem nxt_sh (f : Nat) : ∀ {a b : List Nd}, sh a = sh b → nxt f a = nxt f b
  | [], [], _ => rfl
  | [], y :: b, h => by simp [sh] at h
  | x :: a, [], h => by simp [sh] at h
  | x :: a, y :: b, h => by
    simp only [sh, List.map_cons, List.cons.injEq, Prod.mk.injEq] at h
    obtain ⟨⟨h1, h2⟩, h3⟩ := h
    rw [nxt, nxt, h1, h2, nxt_sh f h3]
theorem TVal.same {t : Nat} {ns ns' : List Nd} {N : Nat → Nat → Option Addr} (h : TVal t ns N) (hs : sh ns' = sh ns) : TVal t ns' N := by
  refine ⟨fun f hf => (h.head f hf).trans (nxt_sh f hs.symm), fun i nd hi f hf => ?_⟩
  have h1 : (sh ns')[i]? = some (nd.b, nd.h) := by rw [sh, List.getElem?_map, hi]; rfl
  rw [hs, sh, List.getElem?_map] at h1
  cases hx : ns[i]? with
  | none => rw [hx] at h1; cases h1
  | some nd' =>
    rw [hx] at h1
    simp at h1
    rw [← h1.1, h.node i nd' hx f (by omega)]
    refine nxt_sh f ?_
    have e : ∀ l : List Nd, sh (l.drop (i + 1)) = (sh l).drop (i + 1) := fun l => by rw [sh, sh, List.map_drop]
    rw [e, e, hs]
theorem split_at {ns : List Nd} {m : Nat} {nd : Nd} (h : ns[m]? = some nd) : ns = ns.take m ++ nd :: ns.drop (m + 1) := by
  have hlt : m < ns.length := (List.getElem?_eq_some_iff.1 h).1
  have h1 := List.drop_eq_getElem_cons hlt
  rw [(List.getElem?_eq_some_iff.1 h).2] at h1
  rw [← h1, List.take_append_drop]
theorem sh_put {ns : List Nd} {m : Nat} {nd : Nd} (h : ns[m]? = some nd) (e : Ent) : sh (ns.take m ++ ⟨nd.b, e, nd.h⟩ :: ns.drop (m + 1)) = sh ns := by
  have h1 : sh ns = sh (ns.take m ++ nd :: ns.drop (m + 1)) := by rw [← split_at h]
  rw [h1]; simp [sh]
theorem TRep.put_ {w : World} {t : Nat} {ns : List Nd} {N : Nat → Nat → Option Addr} {cnt : Int} (h : TRep w t ns N cnt) (hn : (t :: ns.map Nd.b).Nodup) {m : Nat} {nd : Nd} (hm : ns[m]? = some nd) (e : Ent) :
    TRep (((w.setCell ⟨nd.b, 0, none⟩ (.string e.k)).setCell ⟨nd.b, 1, none⟩ (.string e.v)).setCell ⟨nd.b, 2, none⟩ (.bool e.g)) t (ns.take m ++ ⟨nd.b, e, nd.h⟩ :: ns.drop (m + 1)) N cnt := by
  have hsp := split_at hm
  have hmem := List.mem_of_getElem? hm
  have hbt : nd.b ≠ t := by
    intro e'
    have := (List.nodup_cons.1 hn).1
    exact this (e' ▸ List.mem_map.2 ⟨nd, hmem, rfl⟩)
  have hfar : ∀ {g T cs}, g ≠ nd.b → Blk w g T cs → Blk (((w.setCell ⟨nd.b, 0, none⟩ (.string e.k)).setCell ⟨nd.b, 1, none⟩ (.string e.v)).setCell ⟨nd.b, 2, none⟩ (.bool e.g)) g T cs :=
    fun hg hb => ((hb.far hg _).far hg _).far hg _
  have hn2 := (List.nodup_cons.1 hn).2
  rw [hsp, List.map_append, List.map_cons, List.nodup_append] at hn2
  refine ⟨hfar (Ne.symm hbt) h.head, fun x hx => ?_⟩
  rcases List.mem_append.1 hx with hx | hx
  · have hne : x.b ≠ nd.b := hn2.2.2 x.b (List.mem_map.2 ⟨x, hx, rfl⟩) nd.b (by simp)
    exact hfar hne (h.node x (List.mem_of_mem_take hx))
  · rcases List.mem_cons.1 hx with rfl | hx
    · have h1 := (((h.node nd hmem).set_ 0 (.string e.k)).set_ 1 (.string e.v)).set_ 2 (.bool e.g)
      exact h1
    · have hne : x.b ≠ nd.b := by
        intro e'
        have := (List.nodup_cons.1 hn2.2.1).1
        exact this (e' ▸ List.mem_map.2 ⟨x, hx, rfl⟩)
      exact hfar hne (h.node x (List.mem_of_mem_drop hx))

theorem TRep.cell_ {w : World} {t : Nat} {ns : List Nd} {N : Nat → Nat → Option Addr} {cnt : Int} (h : TRep w t ns N cnt) {b f : Nat} (hb : b = t ∨ b ∈ ns.map Nd.b) (hf : f < 4) :
    w.cell? ⟨b, 3 + f, none⟩ = some (.pointer (N b f)) ∧ w.frozen? ⟨b, 3 + f, none⟩ = false := by
  rcases hb with rfl | hb
  · refine ⟨?_, h.head.frozen _⟩
    rw [h.head.cell]
    match f, hf with
    | 0, _ => rfl
    | 1, _ => rfl
    | 2, _ => rfl
    | 3, _ => rfl
  · obtain ⟨nd, hnd, rfl⟩ := List.mem_map.1 hb
    refine ⟨?_, (h.node nd hnd).frozen _⟩
    rw [(h.node nd hnd).cell]
    match f, hf with
    | 0, _ => rfl
    | 1, _ => rfl
    | 2, _ => rfl
    | 3, _ => rfl

/-- Four positions as a function of the floor. -/
def at4 (i0 i1 i2 i3 : Nat) : Nat → Nat
  | 0 => i0
  | 1 => i1
  | 2 => i2
  | _ => i3
/-- What holds when f floors of the new node are done. -/
structure TPut (B : Nat) (w wr : World) (t : Nat) (ns : List Nd) (N : Nat → Nat → Option Addr) (a nb : Nat) (T : TypeId) (q : Nat → Nat) (e : Ent) (h f : Nat) : Prop where
  rep : TRep wr t (⟨nb, e, h⟩ :: ns) (putN N nb (fun f => blkOf t ns (q f)) f) ns.length
  arr : Blk wr a T #[.pointer (some ⟨blkOf t ns (q 0), 0, none⟩), .pointer (some ⟨blkOf t ns (q 1), 0, none⟩), .pointer (some ⟨blkOf t ns (q 2), 0, none⟩), .pointer (some ⟨blkOf t ns (q 3), 0, none⟩)]
  fr : Fr B (· ∈ t :: ns.map Nd.b) w wr
  new : w.heap.size ≤ nb
section
variable {B : Nat} {w wr : World} {t : Nat} {ns : List Nd} {N : Nat → Nat → Option Addr} {a nb : Nat} {T : TypeId} {q : Nat → Nat} {e : Ent} {h f : Nat}
theorem TPut.nodup (hp : TPut B w wr t ns N a nb T q e h f) (hold : TRep w t ns N ns.length) (hn : (t :: ns.map Nd.b).Nodup) : (t :: (Nd.mk nb e h :: ns).map Nd.b).Nodup := by
  have h1 : ∀ b ∈ t :: ns.map Nd.b, b < w.heap.size := by
    intro b hb
    rcases List.mem_cons.1 hb with rfl | hb
    · exact hold.head.lt
    · obtain ⟨nd, hnd, rfl⟩ := List.mem_map.1 hb; exact (hold.node nd hnd).lt
  have h2 := hp.new
  have hnd := List.nodup_cons.1 hn
  rw [List.map_cons, List.nodup_cons, List.nodup_cons]
  refine ⟨?_, ?_, hnd.2⟩
  · intro hm
    rcases List.mem_cons.1 hm with e1 | hm
    · have := h1 t (by simp); simp at e1; omega
    · exact hnd.1 hm
  · intro hm
    have := h1 nb (List.mem_cons_of_mem _ hm); omega
theorem TPut.facts (hp : TPut B w wr t ns N a nb T q e h f) (hold : TRep w t ns N ns.length) (hq : q f ≤ ns.length) (hf : f < 4) :
    wr.cell? ⟨a, f, none⟩ = some (.pointer (some ⟨blkOf t ns (q f), 0, none⟩)) ∧ wr.cell? ⟨blkOf t ns (q f), 3 + f, none⟩ = some (.pointer (N (blkOf t ns (q f)) f)) ∧ wr.frozen? ⟨blkOf t ns (q f), 3 + f, none⟩ = false ∧
      (∃ v, wr.cell? ⟨nb, 3 + f, none⟩ = some v) ∧ wr.frozen? ⟨nb, 3 + f, none⟩ = false ∧ blkOf t ns (q f) ≠ nb ∧ blkOf t ns (q f) < w.heap.size := by
  have hlt : blkOf t ns (q f) < w.heap.size := by
    rcases blkOf_mem (t := t) hq with h1 | h1
    · rw [h1]; exact hold.head.lt
    · obtain ⟨nd, hnd, h2⟩ := List.mem_map.1 h1; rw [← h2]; exact (hold.node nd hnd).lt
  have hne : blkOf t ns (q f) ≠ nb := by have := hp.new; omega
  have hm : blkOf t ns (q f) = t ∨ blkOf t ns (q f) ∈ (Nd.mk nb e h :: ns).map Nd.b := by
    rcases blkOf_mem (t := t) hq with h1 | h1
    · exact .inl h1
    · exact .inr (List.mem_cons_of_mem _ h1)
  have h1 := hp.rep.cell_ hm hf
  have h2 := hp.rep.cell_ (b := nb) (.inr (by simp)) hf
  have h3 : putN N nb (fun f => blkOf t ns (q f)) f (blkOf t ns (q f)) f = N (blkOf t ns (q f)) f := by
    unfold putN; rw [if_neg (by omega), if_neg hne]
  rw [h3] at h1
  refine ⟨?_, h1.1, h1.2, ⟨_, h2.1⟩, h2.2, hne, hlt⟩
  rw [hp.arr.cell]
  match f, hf with
  | 0, _ => rfl
  | 1, _ => rfl
  | 2, _ => rfl
  | 3, _ => rfl
theorem TPut.step (hp : TPut B w wr t ns N a nb T q e h f) (hold : TRep w t ns N ns.length) (hn : (t :: ns.map Nd.b).Nodup) (hq : q f ≤ ns.length) (hf : f < 4) (hB : ∀ b ∈ t :: ns.map Nd.b, B ≤ b) (hBw : B ≤ w.heap.size) (ha : a ≠ nb ∧ w.heap.size ≤ a) :
    TPut B w ((wr.setCell ⟨nb, 3 + f, none⟩ (.pointer (N (blkOf t ns (q f)) f))).setCell ⟨blkOf t ns (q f), 3 + f, none⟩ (.pointer (some ⟨nb, 0, none⟩))) t ns N a nb T q e h (f + 1) := by
  obtain ⟨_, _, _, _, _, hne, hlt⟩ := hp.facts hold hq hf
  have hnd := hp.nodup hold hn
  have hmem : blkOf t ns (q f) ∈ t :: ns.map Nd.b := by
    rcases blkOf_mem (t := t) hq with h1 | h1
    · rw [h1]; simp
    · exact List.mem_cons_of_mem _ h1
  have hm : blkOf t ns (q f) = t ∨ blkOf t ns (q f) ∈ (Nd.mk nb e h :: ns).map Nd.b := by
    rcases blkOf_mem (t := t) hq with h1 | h1
    · exact .inl h1
    · exact .inr (List.mem_cons_of_mem _ h1)
  refine ⟨?_, (hp.arr.far (by exact ha.1) _).far (by simp; omega) _, ?_, hp.new⟩
  · rw [putN_succ N nb (fun f => blkOf t ns (q f)) f hne]
    exact (hp.rep.set_ hnd (.inr (by simp)) hf _).set_ hnd hm hf _
  · refine (hp.fr.setCell (p := ⟨nb, 3 + f, none⟩) (Nat.le_trans hBw hp.new) (.inr hp.new) (fun h => by have := hp.new; simp at h; omega) _).setCell (p := ⟨blkOf t ns (q f), 3 + f, none⟩) (hB _ hmem) (.inl hmem) (fun _ => ?_) _
    rcases blkOf_mem (t := t) hq with h1 | h1
    · simp only [h1]; exact ⟨_, _, _, hold.head, by decide⟩
    · obtain ⟨nd, hnd, h2⟩ := List.mem_map.1 h1
      simp only [← h2]; exact ⟨_, _, _, hold.node nd hnd, by decide⟩
theorem TPut.drew (hp : TPut B w wr t ns N a nb T q e h f) : TPut B w wr.drew t ns N a nb T q e h f :=
  ⟨⟨hp.rep.head, hp.rep.node⟩, hp.arr, ⟨hp.fr.os, hp.fr.tape, hp.fr.output, hp.fr.size, hp.fr.block⟩, hp.new⟩
theorem TPut.cnt (hp : TPut B w wr t ns N a nb T q e h f) : wr.cell? ⟨t, 7, none⟩ = some (.int .i64 ns.length) ∧ wr.frozen? ⟨t, 7, none⟩ = false := by
  refine ⟨?_, hp.rep.head.frozen _⟩
  rw [hp.rep.head.cell]; rfl
theorem TPut.done (hp : TPut B w wr t ns N a nb T q e h h) (hold : TRep w t ns N ns.length) (hv : TVal t ns N) (ho : TOk ns) (hn : (t :: ns.map Nd.b).Nodup) (hB : ∀ b ∈ t :: ns.map Nd.b, B ≤ b) (hBw : B ≤ w.heap.size) (hh : 1 ≤ h ∧ h ≤ 4) (he : EntOk e)
    {m : Nat} (hm : m ≤ ns.length) (hq : ∀ f, f < 4 → IsLast ns m f (q f)) (hput : putE (ns.map Nd.e) e = (ns.take m ++ ⟨nb, e, h⟩ :: ns.drop m).map Nd.e) :
    Tower B (wr.setCell ⟨t, 7, none⟩ (.int .i64 ((ns.length : Int) + 1))) t (putE (ns.map Nd.e) e) (t :: (ns.take m).map Nd.b ++ nb :: (ns.drop m).map Nd.b) ∧ Fr B (· ∈ t :: ns.map Nd.b) w (wr.setCell ⟨t, 7, none⟩ (.int .i64 ((ns.length : Int) + 1))) := by
  have hnd := hp.nodup hold hn
  have hlt : ∀ b ∈ t :: ns.map Nd.b, b < w.heap.size := by
    intro b hb
    rcases List.mem_cons.1 hb with rfl | hb
    · exact hold.head.lt
    · obtain ⟨nd, hnd, rfl⟩ := List.mem_map.1 hb; exact (hold.node nd hnd).lt
  have hnb := hp.new
  have hmem : ∀ x, x ∈ ns.take m ++ ⟨nb, e, h⟩ :: ns.drop m ↔ x ∈ Nd.mk nb e h :: ns := by
    intro x
    have h0 : x ∈ ns ↔ x ∈ ns.take m ∨ x ∈ ns.drop m := by rw [← List.mem_append, List.take_append_drop]
    rw [List.mem_append, List.mem_cons, List.mem_cons, h0]
    constructor
    · rintro (h | h | h) <;> simp [h]
    · rintro (h | h | h) <;> simp [h]
  have hbne : nb ≠ t ∧ nb ∉ ns.map Nd.b := ⟨fun e => by have := hlt t (by simp); omega, fun hm => by have := hlt nb (List.mem_cons_of_mem _ hm); omega⟩
  refine ⟨⟨ns.take m ++ ⟨nb, e, h⟩ :: ns.drop m, putN N nb (fun f => blkOf t ns (q f)) h, ?_, hv.put ho hm hh hn hbne hq, ⟨?_, ?_, ?_⟩, hput, ?_, ?_⟩, ?_⟩
  · have hlen : (ns.take m ++ ⟨nb, e, h⟩ :: ns.drop m).length = ns.length + 1 := by simp; omega
    rw [hlen]
    refine ⟨?_, fun nd hnd' => ?_⟩
    · have h1 := hp.rep.head.set_ 7 (.int .i64 ((ns.length : Int) + 1))
      simpa using h1
    · have h1 := (hmem nd).1 hnd'
      refine (hp.rep.node nd h1).far ?_ _
      intro e'
      have h2 := (List.nodup_cons.1 hnd).1
      exact h2 (List.mem_map.2 ⟨nd, h1, e'⟩)
  · have h1 : (ns.map Nd.b).Nodup := ho.nodup
    rw [List.map_append, List.map_cons]
    rw [← List.take_append_drop m ns, List.map_append, List.nodup_append] at h1
    rw [List.nodup_append, List.nodup_cons]
    have h2 : ∀ x, x ∈ ns.take m ∨ x ∈ ns.drop m → x.b ≠ nb := by
      intro x hx e'
      refine hbne.2 (e' ▸ List.mem_map.2 ⟨x, ?_, rfl⟩)
      rcases hx with hx | hx
      · exact List.mem_of_mem_take hx
      · exact List.mem_of_mem_drop hx
    refine ⟨h1.1, ⟨fun hx => ?_, h1.2.1⟩, fun x hx y hy => ?_⟩
    · obtain ⟨x, hx, e'⟩ := List.mem_map.1 hx; exact h2 x (.inr hx) e'
    · rcases List.mem_cons.1 hy with rfl | hy
      · intro e'; obtain ⟨x', hx', e2⟩ := List.mem_map.1 hx; exact h2 x' (.inl hx') (e2.trans e')
      · exact h1.2.2 x hx y hy
  · intro nd hnd'
    rcases List.mem_cons.1 ((hmem nd).1 hnd') with rfl | h1
    · exact ⟨hh.1, hh.2, he⟩
    · exact ho.high nd h1
  · rw [← hput]; exact rises_put ho.rises e
  · simp
  · intro b hb
    simp only [List.cons_append, List.mem_cons, List.mem_append] at hb
    have h2 : ∀ b, b ∈ (ns.take m).map Nd.b ∨ b ∈ (ns.drop m).map Nd.b → B ≤ b := by
      intro b hb
      refine hB b (List.mem_cons_of_mem _ ?_)
      rcases hb with hb | hb
      · obtain ⟨x, hx, rfl⟩ := List.mem_map.1 hb; exact List.mem_map.2 ⟨x, List.mem_of_mem_take hx, rfl⟩
      · obtain ⟨x, hx, rfl⟩ := List.mem_map.1 hb; exact List.mem_map.2 ⟨x, List.mem_of_mem_drop hx, rfl⟩
    rcases hb with rfl | hb | rfl | hb
    · exact hB _ (by simp)
    · exact h2 b (.inl hb)
    · omega
    · exact h2 b (.inr hb)
  · exact hp.fr.setCell (p := ⟨t, 7, none⟩) (hB t (by simp)) (.inl (by simp)) (fun _ => ⟨_, _, _, hold.head, by decide⟩) _
end
end Go.Proofs.Ytaepdbkfaoiimab
