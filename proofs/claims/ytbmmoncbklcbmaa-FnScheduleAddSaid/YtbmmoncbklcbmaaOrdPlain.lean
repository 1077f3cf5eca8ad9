/- Plain facts on the order of paths: the lists of free paths by round-trip time and number; each such list is the only one. No program in sight. -/
import Derived.WalkKit
import Derived.Lib.Hide
namespace Go.Proofs.Ytbmmoncbklcbmaa
open Go.RowKit

/-- An option: active, round-trip time, window, packets in flight. -/
structure Opt where
  a : Bool
  t : Int
  w : Int
  f : Int

def onth (L : List Opt) (i : Nat) : Opt := L.getD i ⟨false, 0, 0, 0⟩
theorem onth_eq {L : List Opt} {i : Nat} (h : i < L.length) : onth L i = L[i] := by
  unfold onth
  rw [List.getD_eq_getElem?_getD, List.getElem?_eq_getElem h]
  rfl
theorem onth_set (L : List Opt) (k : Nat) (c : Opt) (i : Nat) : onth (L.set k c) i = if i = k ∧ k < L.length then c else onth L i := by
  unfold onth
  rw [List.getD_eq_getElem?_getD, List.getElem?_set, List.getD_eq_getElem?_getD]
  by_cases h : k = i
  · subst h
    by_cases h2 : k < L.length
    · simp [h2]
    · simp [h2]
  · have : ¬ (i = k ∧ k < L.length) := by omega
    simp [h, this]

def optB (o : Opt) : Bool := decide ((1 ≤ o.t ∧ o.t ≤ 99) ∧ (1 ≤ o.w ∧ o.w ≤ 64) ∧ (0 ≤ o.f ∧ o.f ≤ 64))
def okO (L : List Opt) : Bool := (List.range L.length).all (fun i => optB (onth L i)) && decide (L.length ≤ 4)
theorem okO_iff {L : List Opt} : okO L = true ↔ (∀ i, i < L.length → optB (onth L i) = true) ∧ L.length ≤ 4 := by unfold okO; simp
theorem optB_iff {o : Opt} : optB o = true ↔ (1 ≤ o.t ∧ o.t ≤ 99) ∧ (1 ≤ o.w ∧ o.w ≤ 64) ∧ (0 ≤ o.f ∧ o.f ≤ 64) := by unfold optB; simp
theorem okO_false_at {L : List Opt} {i : Nat} (hi : i < L.length) (h : optB (onth L i) = false) : okO L = false := by
  cases hk : okO L with
  | false => rfl
  | true => rw [(okO_iff.1 hk).1 i hi] at h; cases h
def freeB (o : Opt) : Bool := o.a && decide (o.f < o.w)
/-- i before k. -/
def Lt (L : List Opt) (i k : Nat) : Prop := (onth L i).t < (onth L k).t ∨ ((onth L i).t = (onth L k).t ∧ i < k)
theorem Lt.asymm {L : List Opt} {i k : Nat} (h : Lt L i k) (h' : Lt L k i) : False := by unfold Lt at *; omega
theorem Lt.trans {L : List Opt} {i j k : Nat} (h : Lt L i j) (h' : Lt L j k) : Lt L i k := by unfold Lt at *; omega
theorem Lt.total {L : List Opt} {i k : Nat} (h : i ≠ k) : Lt L i k ∨ Lt L k i := by unfold Lt; omega
theorem Lt.irrefl {L : List Opt} {i : Nat} (h : Lt L i i) : False := h.asymm h

/-- 'out' is the free paths in their order. -/
def IsOrder (L : List Opt) (out : List Nat) : Prop := out.Pairwise (Lt L) ∧ ∀ i, i ∈ out ↔ i < L.length ∧ freeB (onth L i) = true

theorem sorted_unique {R : Nat → Nat → Prop} (ha : ∀ i k, R i k → R k i → False) : ∀ a b : List Nat, a.Pairwise R → b.Pairwise R → (∀ i, i ∈ a ↔ i ∈ b) → a = b
  | [], [], _, _, _ => rfl
  | [], y :: b, _, _, h => by have := (h y).2 List.mem_cons_self; simp at this
  | x :: a, [], _, _, h => by have := (h x).1 List.mem_cons_self; simp at this
  | x :: a, y :: b, h1, h2, h => by
    rw [List.pairwise_cons] at h1 h2
    have hxy : x = y := by
      rcases List.mem_cons.1 ((h x).1 List.mem_cons_self) with e | e
      · exact e
      · rcases List.mem_cons.1 ((h y).2 List.mem_cons_self) with e' | e'
        · exact e'.symm
        · exact absurd (h1.1 y e') (fun r => ha _ _ r (h2.1 x e))
    subst hxy
    have hne : ∀ l : List Nat, (∀ k, k ∈ l → R x k) → x ∉ l := fun l hl hx => ha _ _ (hl x hx) (hl x hx)
    rw [sorted_unique ha a b h1.2 h2.2 fun i => by
      constructor
      · intro hi
        rcases List.mem_cons.1 ((h i).1 (List.mem_cons_of_mem _ hi)) with e | e
        · subst e; exact absurd hi (hne _ h1.1)
        · exact e
      · intro hi
        rcases List.mem_cons.1 ((h i).2 (List.mem_cons_of_mem _ hi)) with e | e
        · subst e; exact absurd hi (hne _ h2.1)
        · exact e]
theorem order_unique {L : List Opt} {a b : List Nat} (h1 : IsOrder L a) (h2 : IsOrder L b) : a = b :=
  sorted_unique (fun _ _ h h' => h.asymm h') a b h1.1 h2.1 fun i => (h1.2 i).trans (h2.2 i).symm

/-- One insertion: the first k stay, i, then the rest. -/
theorem order_insert {L : List Opt} {out : List Nat} {i k : Nat} (hp : out.Pairwise (Lt L)) (hlt : ∀ x, x ∈ out → x < i) (hk : k ≤ out.length)
    (h1 : k = 0 ∨ (onth L (out.getD (k - 1) 0)).t ≤ (onth L i).t) (h2 : ∀ j, k ≤ j → j < out.length → (onth L i).t < (onth L (out.getD j 0)).t) :
    (out.take k ++ i :: out.drop k).Pairwise (Lt L) := by
  have hp' : (out.take k ++ out.drop k).Pairwise (Lt L) := by rw [List.take_append_drop]; exact hp
  rw [List.pairwise_append] at hp' ⊢
  have hbefore : ∀ x, x ∈ out.take k → Lt L x i := by
    intro x hx
    obtain ⟨j, hj, rfl⟩ := List.mem_iff_getElem.1 hx
    simp only [List.length_take] at hj
    have hjk : j < k := by omega
    have hjl : j < out.length := by omega
    rw [List.getElem_take]
    have hx' : out[j] < i := hlt _ (List.getElem_mem hjl)
    have h1' := h1.resolve_left (by omega)
    rw [List.getD_eq_getElem?_getD, List.getElem?_eq_getElem (show k - 1 < out.length by omega)] at h1'
    simp only [Option.getD_some] at h1'
    rcases (show j = k - 1 ∨ j < k - 1 from by omega) with e | e
    · subst e
      unfold Lt; omega
    · have := List.pairwise_iff_getElem.1 hp j (k - 1) hjl (by omega) e
      unfold Lt at *; omega
  have hafter : ∀ x, x ∈ out.drop k → Lt L i x := by
    intro x hx
    obtain ⟨j, hj, rfl⟩ := List.mem_iff_getElem.1 hx
    simp only [List.length_drop] at hj
    rw [List.getElem_drop]
    have := h2 (k + j) (by omega) (by omega)
    rw [List.getD_eq_getElem?_getD, List.getElem?_eq_getElem (show k + j < out.length by omega)] at this
    exact .inl this
  refine ⟨hp'.1, List.pairwise_cons.2 ⟨hafter, hp'.2.1⟩, fun x hx y hy => ?_⟩
  rcases List.mem_cons.1 hy with e | e
  · rw [e]; exact hbefore x hx
  · exact hp'.2.2 x hx y e

/-- Fewer paths are free: the others stay in their order. -/
theorem order_filter {L M : List Opt} {out : List Nat} {g : Nat → Bool} (h : IsOrder L out) (hl : M.length = L.length) (ht : ∀ i, (onth M i).t = (onth L i).t)
    (hf : ∀ i, i < L.length → freeB (onth M i) = (freeB (onth L i) && g i)) : IsOrder M (out.filter g) := by
  refine ⟨?_, fun i => ?_⟩
  · have : ∀ i k, Lt L i k → Lt M i k := fun i k hh => by unfold Lt at *; rw [ht, ht]; exact hh
    exact (h.1.imp (this _ _)).filter _
  · rw [List.mem_filter, h.2 i, hl]
    constructor
    · rintro ⟨⟨h1, h2⟩, h3⟩
      exact ⟨h1, by rw [hf i h1, h2, h3]; rfl⟩
    · rintro ⟨h1, h2⟩
      rw [hf i h1] at h2
      simp at h2
      exact ⟨⟨h1, h2.1⟩, h2.2⟩

/-- What the paths of a list get of n packets: each as much as it has space for, one after the other. -/
def alloc (sp : Nat → Int) : List Nat → Int → Nat → Int
  | [], _, _ => 0
  | i :: t, n, j => if j = i then min n (sp i) else alloc sp t (n - min n (sp i)) j
theorem alloc_zero (sp : Nat → Int) (hsp : ∀ i, 0 < sp i ∨ True) : ∀ (l : List Nat) (j : Nat), (∀ i, i ∈ l → 0 ≤ sp i) → alloc sp l 0 j = 0
  | [], _, _ => rfl
  | i :: t, j, h => by
    have h0 := h i List.mem_cons_self
    have e : min (0 : Int) (sp i) = 0 := by omega
    unfold alloc
    rw [e]
    split
    · rfl
    · exact alloc_zero sp hsp t j fun k hk => h k (List.mem_cons_of_mem _ hk)
theorem alloc_out {sp : Nat → Int} : ∀ {l : List Nat} {n : Int} {j : Nat}, j ∉ l → alloc sp l n j = 0
  | [], _, _, _ => rfl
  | i :: t, n, j, h => by
    unfold alloc
    rw [if_neg (fun e => h (by rw [e]; exact List.mem_cons_self))]
    exact alloc_out fun hj => h (List.mem_cons_of_mem _ hj)
theorem alloc_bd {sp : Nat → Int} : ∀ {l : List Nat} {n : Int} {j : Nat}, 0 ≤ n → (∀ i, i ∈ l → 0 ≤ sp i) → 0 ≤ alloc sp l n j ∧ (j ∈ l → alloc sp l n j ≤ sp j)
  | [], _, _, _, _ => ⟨by unfold alloc; omega, fun h => by simp at h⟩
  | i :: t, n, j, hn, h => by
    have h0 := h i List.mem_cons_self
    unfold alloc
    split
    · rename_i e
      subst e
      exact ⟨by omega, fun _ => by omega⟩
    · rename_i e
      have ih := alloc_bd (sp := sp) (l := t) (n := n - min n (sp i)) (j := j) (by omega) fun k hk => h k (List.mem_cons_of_mem _ hk)
      refine ⟨ih.1, fun hj => ih.2 ?_⟩
      rcases List.mem_cons.1 hj with e' | e'
      · exact absurd e' e
      · exact e'
/-- One packet more: the first path that has space left gets it. -/
theorem alloc_succ {sp : Nat → Int} : ∀ {l : List Nat} {n : Int}, l.Nodup → 0 ≤ n → (∀ i, i ∈ l → 0 < sp i) →
    match l.filter (fun i => decide (alloc sp l n i < sp i)) with
    | [] => ∀ j, alloc sp l (n + 1) j = alloc sp l n j
    | i :: _ => ∀ j, alloc sp l (n + 1) j = alloc sp l n j + if j = i then 1 else 0
  | [], _, _, _, _ => by intro j; rfl
  | i :: t, n, hd, hn, h => by
    rw [List.nodup_cons] at hd
    have h0 := h i List.mem_cons_self
    have ht : ∀ k, k ∈ t → 0 < sp k := fun k hk => h k (List.mem_cons_of_mem _ hk)
    have e1 : alloc sp (i :: t) n i = min n (sp i) := by unfold alloc; rw [if_pos rfl]
    have e2 : ∀ m j, j ≠ i → alloc sp (i :: t) m j = alloc sp t (m - min m (sp i)) j := fun m j hj => by show (if j = i then _ else _) = _; rw [if_neg hj]
    by_cases hlt : n < sp i
    · have hm : min n (sp i) = n := by omega
      rw [List.filter_cons, if_pos (by rw [e1]; simp; omega)]
      intro j
      by_cases hj : j = i
      · subst hj
        rw [if_pos rfl, e1]
        show (if j = j then _ else _) = _
        rw [if_pos rfl]
        omega
      · rw [if_neg hj, e2 _ _ hj, e2 _ _ hj]
        have a1 : n + 1 - min (n + 1) (sp i) = 0 := by omega
        have a2 : n - min n (sp i) = 0 := by omega
        rw [a1, a2]
        omega
    · have hm : min n (sp i) = sp i := by omega
      have hm' : min (n + 1) (sp i) = sp i := by omega
      have ih := alloc_succ (sp := sp) (l := t) (n := n - sp i) hd.2 (by omega) ht
      have ef : (i :: t).filter (fun k => decide (alloc sp (i :: t) n k < sp k)) = t.filter (fun k => decide (alloc sp t (n - sp i) k < sp k)) := by
        rw [List.filter_cons, if_neg (by rw [e1, hm]; simp)]
        refine List.filter_congr fun k hk => ?_
        have hki : k ≠ i := fun e => hd.1 (by rw [← e]; exact hk)
        rw [e2 _ _ hki, hm]
      rw [ef]
      revert ih
      have hi : ∀ m : Int, sp i ≤ m → alloc sp (i :: t) m i = sp i := fun m hmm => by show (if i = i then _ else _) = _; rw [if_pos rfl]; omega
      have es : ∀ j, j ≠ i → alloc sp (i :: t) (n + 1) j = alloc sp t (n - sp i + 1) j := fun j hj => by
        rw [e2 _ _ hj, hm']
        congr 1
        omega
      split
      · intro ih j
        by_cases hj : j = i
        · subst hj
          rw [hi _ (by omega), hi _ (by omega)]
        · rw [es j hj, e2 _ _ hj, hm]
          exact ih j
      · rename_i y ys heq
        intro ih j
        have hy : y ∈ t := (List.mem_filter.1 (by rw [heq]; exact List.mem_cons_self)).1
        by_cases hj : j = i
        · subst hj
          rw [hi _ (by omega), hi _ (by omega), if_neg (fun e => hd.1 (by rw [e]; exact hy))]
          omega
        · rw [es j hj, e2 _ _ hj, hm]
          exact ih j

end Go.Proofs.Ytbmmoncbklcbmaa
