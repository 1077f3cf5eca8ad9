/- Plain facts for the laws on connection identifiers: the cases of each operation, and what holds of its result. No program in sight. -/
import Derived.Test.YtobeeakjfkokfabIdsPlain
namespace Go.Proofs.Ytobeeakjfkokfab
open Go.RowKit

variable {L : List Cid} {i j k : Nat} {p q v : Int} {c : Cid}

theorem nth_set (L : List Cid) (k : Nat) (c : Cid) (i : Nat) : nth (L.set k c) i = if i = k ∧ k < L.length then c else nth L i := by
  unfold nth
  rw [List.getD_eq_getElem?_getD, List.getElem?_set, List.getD_eq_getElem?_getD]
  by_cases h : k = i
  · subst h
    by_cases h2 : k < L.length
    · simp [h2]
    · simp [h2]
  · have : ¬ (i = k ∧ k < L.length) := by omega
    simp [h, this]
theorem nth_set_same (hk : k < L.length) : nth (L.set k c) k = c := by rw [nth_set, if_pos ⟨rfl, hk⟩]
theorem nth_set_ne (h : i ≠ k) : nth (L.set k c) i = nth L i := by rw [nth_set, if_neg (fun e => h e.1)]
theorem nth_snoc_lt (h : i < L.length) : nth (L ++ [c]) i = nth L i := by
  unfold nth
  rw [List.getD_eq_getElem?_getD, List.getD_eq_getElem?_getD, List.getElem?_append_left h]
theorem nth_snoc_eq : nth (L ++ [c]) L.length = c := by
  unfold nth
  rw [List.getD_eq_getElem?_getD, List.getElem?_append_right (Nat.le_refl _)]
  simp

theorem onB_iff : onB c p = true ↔ c.r = false ∧ c.p = p := by unfold onB; simp
theorem rangeB_iff : rangeB c = true ↔ (0 ≤ c.v ∧ c.v ≤ 9999) ∧ (-1 ≤ c.p ∧ c.p ≤ 3) := by unfold rangeB; simp
theorem clashB_false {a b : Cid} : clashB a b = false ↔ b.v ≠ a.v ∧ ¬ (a.r = false ∧ b.r = false ∧ 0 ≤ a.p ∧ b.p = a.p) := by
  unfold clashB
  cases a.r <;> cases b.r <;> simp

theorem ok_range (h : okI L = true) (hi : i < L.length) : (0 ≤ (nth L i).v ∧ (nth L i).v ≤ 9999) ∧ (-1 ≤ (nth L i).p ∧ (nth L i).p ≤ 3) :=
  rangeB_iff.1 (okAt_iff.1 ((okI_iff.1 h).1 i hi)).1
theorem ok_len (h : okI L = true) : L.length ≤ 8 := (okI_iff.1 h).2.1
theorem ok_act (h : okI L = true) : act L ≤ 4 := (okI_iff.1 h).2.2
theorem ok_clash (h : okI L = true) (hi : i < L.length) (hk : k < i) : clashB (nth L i) (nth L k) = false := (okAt_iff.1 ((okI_iff.1 h).1 i hi)).2 k hk
theorem ok_vals (h : okI L = true) (hi : i < L.length) (hj : j < L.length) (hv : (nth L i).v = (nth L j).v) : i = j := by
  rcases (show i = j ∨ i < j ∨ j < i from by omega) with e | e | e
  · exact e
  · exact absurd hv (clashB_false.1 (ok_clash h hj e)).1
  · exact absurd hv.symm (clashB_false.1 (ok_clash h hi e)).1
theorem ok_on (h : okI L = true) (hi : i < L.length) (hj : j < L.length) (h1 : onB (nth L i) p = true) (h2 : onB (nth L j) p = true) (hp : 0 ≤ p) : i = j := by
  rw [onB_iff] at h1 h2
  rcases (show i = j ∨ i < j ∨ j < i from by omega) with e | e | e
  · exact e
  · exact absurd ⟨h2.1, h1.1, by omega, by omega⟩ (clashB_false.1 (ok_clash h hj e)).2
  · exact absurd ⟨h1.1, h2.1, by omega, by omega⟩ (clashB_false.1 (ok_clash h hi e)).2

theorem ok_mk (h1 : ∀ i, i < L.length → (0 ≤ (nth L i).v ∧ (nth L i).v ≤ 9999) ∧ (-1 ≤ (nth L i).p ∧ (nth L i).p ≤ 3))
    (h2 : ∀ i k, i < L.length → k < i → clashB (nth L i) (nth L k) = false) (h3 : L.length ≤ 8) (h4 : act L ≤ 4) : okI L = true :=
  okI_iff.2 ⟨fun i hi => okAt_iff.2 ⟨rangeB_iff.2 (h1 i hi), fun k hk => h2 i k hi hk⟩, h3, h4⟩

theorem ok_set (h : okI L = true) (hr : (0 ≤ c.v ∧ c.v ≤ 9999) ∧ (-1 ≤ c.p ∧ c.p ≤ 3)) (ha : act (L.set k c) ≤ 4)
    (hc : ∀ j, j < L.length → j ≠ k → clashB c (nth L j) = false ∧ clashB (nth L j) c = false) : okI (L.set k c) = true := by
  refine ok_mk (fun i hi => ?_) (fun i j hi hj => ?_) (by rw [List.length_set]; exact ok_len h) ha
  · rw [List.length_set] at hi
    rw [nth_set]
    split
    · exact hr
    · exact ok_range h hi
  · rw [List.length_set] at hi
    rw [nth_set, nth_set]
    split
    · rename_i e
      rw [if_neg (by omega)]
      exact (hc j (by omega) (by omega)).1
    · split
      · exact (hc i hi (by omega)).2
      · exact ok_clash h hi hj

theorem act_set (hk : k < L.length) : act (L.set k c) + (if (nth L k).r = true then 0 else 1) = act L + (if c.r = true then 0 else 1) := by
  unfold act
  induction L generalizing k with
  | nil => simp at hk
  | cons a t ih =>
    cases k with
    | zero =>
      have : nth (a :: t) 0 = a := rfl
      simp only [this, List.set_cons_zero, List.countP_cons]
      cases a.r <;> cases c.r <;> simp
    | succ m =>
      have e : nth (a :: t) (m + 1) = nth t m := rfl
      have := ih (k := m) (by simpa using hk)
      simp only [e, List.set_cons_succ, List.countP_cons]
      omega
theorem act_snoc : act (L ++ [c]) = act L + (if c.r = true then 0 else 1) := by
  unfold act
  rw [List.countP_append]
  cases hc : c.r <;> simp [hc]

theorem len_setR : (setR L k).length = L.length := by unfold setR; exact List.length_set
theorem len_setP : (setP L k p).length = L.length := by unfold setP; exact List.length_set
theorem setR_same (hk : k < L.length) : nth (setR L k) k = { nth L k with r := true } := by unfold setR; exact nth_set_same hk
theorem setR_ne (h : i ≠ k) : nth (setR L k) i = nth L i := by unfold setR; exact nth_set_ne h
theorem setP_same (hk : k < L.length) : nth (setP L k p) k = { nth L k with p := p } := by unfold setP; exact nth_set_same hk
theorem setP_ne (h : i ≠ k) : nth (setP L k p) i = nth L i := by unfold setP; exact nth_set_ne h

theorem ok_setR (h : okI L = true) (hk : k < L.length) : okI (setR L k) = true := by
  have hr := ok_range h hk
  refine ok_set h hr ?_ (fun j hj hne => ⟨?_, ?_⟩)
  · have := act_set (L := L) (k := k) (c := { nth L k with r := true }) hk
    have ha := ok_act h
    rw [if_pos (show ({ nth L k with r := true } : Cid).r = true from rfl)] at this
    split at this <;> omega
  · rw [clashB_false]
    exact ⟨fun e => hne (ok_vals h hj hk e), fun e => by cases e.1⟩
  · rw [clashB_false]
    exact ⟨fun e => hne (ok_vals h hj hk e.symm), fun e => by cases e.2.1⟩
theorem ok_setP (h : okI L = true) (hk : k < L.length) (hp : 0 ≤ p ∧ p ≤ 3) (hn : ∀ j, j < L.length → j ≠ k → onB (nth L j) p = false) : okI (setP L k p) = true := by
  have hr := ok_range h hk
  refine ok_set h ⟨hr.1, by show -1 ≤ p ∧ p ≤ 3; omega⟩ ?_ (fun j hj hne => ⟨?_, ?_⟩)
  · have := act_set (L := L) (k := k) (c := { nth L k with p := p }) hk
    have ha := ok_act h
    have e : ({ nth L k with p := p } : Cid).r = (nth L k).r := rfl
    rw [e] at this
    omega
  · have := hn j hj hne
    rw [clashB_false]
    refine ⟨fun e => hne (ok_vals h hj hk e), fun e => ?_⟩
    rw [onB_iff.2 ⟨e.2.1, e.2.2.2⟩] at this
    cases this
  · have := hn j hj hne
    rw [clashB_false]
    refine ⟨fun e => hne (ok_vals h hj hk e.symm), fun e => ?_⟩
    rw [onB_iff.2 ⟨e.1, e.2.2.2.symm⟩] at this
    cases this
theorem ok_snoc (h : okI L = true) (hl : L.length < 8) (ha : act L < 4) (hv : 0 ≤ v ∧ v ≤ 9999) (hn : ∀ j, j < L.length → (nth L j).v ≠ v) : okI (L ++ [⟨v, -1, false⟩]) = true := by
  refine ok_mk (fun i hi => ?_) (fun i j hi hj => ?_) (by simp; omega) (by rw [act_snoc]; simp; omega)
  · simp at hi
    rcases (show i < L.length ∨ i = L.length from by omega) with e | rfl
    · rw [nth_snoc_lt e]
      exact ok_range h e
    · rw [nth_snoc_eq]
      exact ⟨hv, by show (-1 : Int) ≤ -1 ∧ (-1 : Int) ≤ 3; omega⟩
  · simp at hi
    rcases (show i < L.length ∨ i = L.length from by omega) with e | rfl
    · rw [nth_snoc_lt e, nth_snoc_lt (by omega)]
      exact ok_clash h e hj
    · rw [nth_snoc_eq, nth_snoc_lt hj, clashB_false]
      exact ⟨hn j hj, fun e => by have := e.2.2.1; simp at this⟩

theorem onIdx_cases (L : List Cid) (p : Int) : (onIdx L p = -1 ∧ ∀ k, k < L.length → onB (nth L k) p = false) ∨ (∃ i : Nat, i < L.length ∧ onIdx L p = i ∧ onB (nth L i) p = true ∧ ∀ k, k < i → onB (nth L k) p = false) := idx_cases _ L
theorem onIdx_none (h : ∀ k, k < L.length → onB (nth L k) p = false) : onIdx L p = -1 := idx_none h
theorem onIdx_eq (h : okI L = true) (hi : i < L.length) (ho : onB (nth L i) p = true) (hp : 0 ≤ p) : onIdx L p = i :=
  idx_found hi ho fun k hk => by
    cases hb : onB (nth L k) p with
    | false => rfl
    | true => exact absurd (ok_on h (by omega) hi hb ho hp) (by omega)
theorem onV_eq (h : okI L = true) (hi : i < L.length) (ho : onB (nth L i) p = true) (hp : 0 ≤ p ∧ p ≤ 3) : onV L p = (nth L i).v := by
  have e := onIdx_eq h hi ho hp.1
  unfold onV
  rw [if_pos ⟨h, hp, by omega⟩, e, Int.toNat_natCast]
theorem onV_none (h : ∀ k, k < L.length → onB (nth L k) p = false) : onV L p = -1 := by
  unfold onV
  rw [if_neg (by rw [onIdx_none h]; omega)]
theorem onV_bad (h : ¬ (okI L = true ∧ (0 ≤ p ∧ p ≤ 3))) : onV L p = -1 := by
  unfold onV
  rw [if_neg (fun e => h ⟨e.1, e.2.1⟩)]
theorem onV_cases (L : List Cid) (p : Int) : onV L p = -1 ∨ ∃ i : Nat, i < L.length ∧ okI L = true ∧ (0 ≤ p ∧ p ≤ 3) ∧ onB (nth L i) p = true ∧ onV L p = (nth L i).v := by
  by_cases h : okI L = true ∧ (0 ≤ p ∧ p ≤ 3)
  · rcases onIdx_cases L p with ⟨_, hn⟩ | ⟨i, hi, _, ho, _⟩
    · exact .inl (onV_none hn)
    · exact .inr ⟨i, hi, h.1, h.2, ho, onV_eq h.1 hi ho h.2⟩
  · exact .inl (onV_bad h)
/-- Different paths use different identifiers. -/
theorem on_other (hv : 0 ≤ onV L p) (hq : q ≠ p) : onV L q ≠ onV L p := by
  intro e
  rcases onV_cases L p with h | ⟨i, hi, hok, hp, ho, hv1⟩
  · omega
  · rcases onV_cases L q with h | ⟨j, hj, _, _, ho2, hv2⟩
    · omega
    · have := ok_vals hok hj hi (by omega)
      subst this
      rw [onB_iff] at ho ho2
      omega

theorem any_v : (L.any fun c => decide (c.v = v)) = true ↔ ∃ j, j < L.length ∧ (nth L j).v = v := by
  rw [List.any_eq_true]
  constructor
  · rintro ⟨x, hx, e⟩
    obtain ⟨i, hi, rfl⟩ := List.mem_iff_getElem.1 hx
    exact ⟨i, hi, by rw [nth_eq hi]; simpa using e⟩
  · rintro ⟨j, hj, e⟩
    exact ⟨nth L j, nth_mem hj, by simpa using e⟩

theorem issue_bad (h : ¬ (okI L = true ∧ (0 ≤ v ∧ v ≤ 9999))) : issue L v = ([], 0, false) := if_neg h
theorem issue_no (h : okI L = true) (hv : 0 ≤ v ∧ v ≤ 9999) (hn : (L.any fun c => decide (c.v = v)) = true ∨ 8 ≤ L.length ∨ 4 ≤ act L) : issue L v = (L, -1, false) := by
  unfold issue
  rw [if_pos ⟨h, hv⟩, if_pos hn]
theorem issue_yes (h : okI L = true) (hv : 0 ≤ v ∧ v ≤ 9999) (hn : ¬ ((L.any fun c => decide (c.v = v)) = true ∨ 8 ≤ L.length ∨ 4 ≤ act L)) : issue L v = (L ++ [⟨v, -1, false⟩], (L.length : Int), true) := by
  unfold issue
  rw [if_pos ⟨h, hv⟩, if_neg hn]
theorem issue_cases (L : List Cid) (v : Int) :
    (issue L v = ([], 0, false)) ∨ (issue L v = (L, -1, false) ∧ okI L = true) ∨
    (issue L v = (L ++ [⟨v, -1, false⟩], (L.length : Int), true) ∧ okI L = true ∧ L.length < 8 ∧ okI (L ++ [⟨v, -1, false⟩]) = true ∧ issue (L ++ [⟨v, -1, false⟩]) v = (L ++ [⟨v, -1, false⟩], -1, false)) := by
  by_cases h : okI L = true ∧ (0 ≤ v ∧ v ≤ 9999)
  · by_cases hn : (L.any fun c => decide (c.v = v)) = true ∨ 8 ≤ L.length ∨ 4 ≤ act L
    · exact .inr (.inl ⟨issue_no h.1 h.2 hn, h.1⟩)
    · have hn' : ∀ j, j < L.length → (nth L j).v ≠ v := fun j hj e => hn (.inl (any_v.2 ⟨j, hj, e⟩))
      have hk := ok_snoc h.1 (by omega) (by omega) h.2 hn'
      exact .inr (.inr ⟨issue_yes h.1 h.2 hn, h.1, by omega, hk, issue_no hk h.2 (.inl (any_v.2 ⟨L.length, by simp, by rw [nth_snoc_eq]⟩))⟩)
  · exact .inl (issue_bad h)

theorem assign_bad (h : ¬ (okI L = true ∧ (0 ≤ p ∧ p ≤ 3))) : assign L p = ([], 0, false) := if_neg h
theorem assign_no (h : okI L = true) (hp : 0 ≤ p ∧ p ≤ 3) (hn : 0 ≤ onIdx L p ∨ onIdx L (-1) < 0) : assign L p = (L, -1, false) := by
  unfold assign
  rw [if_pos ⟨h, hp⟩, if_pos hn]
theorem assign_yes (h : okI L = true) (hp : 0 ≤ p ∧ p ≤ 3) (hn : onIdx L p < 0) (hk : onIdx L (-1) = k) : assign L p = (setP L k p, (nth L k).v, true) := by
  unfold assign
  rw [if_pos ⟨h, hp⟩, if_neg (by omega), hk, Int.toNat_natCast]
theorem assign_cases (L : List Cid) (p : Int) :
    (assign L p = ([], 0, false)) ∨ (assign L p = (L, -1, false) ∧ okI L = true) ∨
    (∃ k : Nat, k < L.length ∧ assign L p = (setP L k p, (nth L k).v, true) ∧ okI L = true ∧ (0 ≤ p ∧ p ≤ 3) ∧ (nth L k).r = false ∧ (nth L k).p = -1 ∧ onV L p = -1 ∧ okI (setP L k p) = true ∧ onV (setP L k p) p = (nth L k).v) := by
  by_cases h : okI L = true ∧ (0 ≤ p ∧ p ≤ 3)
  · obtain ⟨h, hp⟩ := h
    rcases onIdx_cases L p with ⟨e1, hn⟩ | ⟨i, hi, e1, _, _⟩
    · rcases onIdx_cases L (-1) with ⟨e2, _⟩ | ⟨k, hk, e2, ho, _⟩
      · exact .inr (.inl ⟨assign_no h hp (.inr (by omega)), h⟩)
      · have ho' := onB_iff.1 ho
        have hok := ok_setP h hk hp (fun j hj _ => hn j hj)
        refine .inr (.inr ⟨k, hk, assign_yes h hp (by omega) e2, h, hp, ho'.1, ho'.2, onV_none hn, hok, ?_⟩)
        have hk' : k < (setP L k p).length := by rw [len_setP]; exact hk
        rw [onV_eq hok hk' (by rw [setP_same hk, onB_iff]; exact ⟨ho'.1, rfl⟩) hp, setP_same hk]
    · exact .inr (.inl ⟨assign_no h hp (.inl (by omega)), h⟩)
  · exact .inl (assign_bad h)

theorem retire_bad (h : ¬ okI L = true) : retire L p = ([], false) := if_neg h
theorem retire_no (h : okI L = true) (hn : ¬ (0 ≤ p ∧ p ≤ (L.length : Int) - 1) ∨ (nth L p.toNat).r = true) : retire L p = (L, false) := by
  unfold retire
  rw [if_pos h, if_pos hn]
theorem retire_yes (h : okI L = true) (hk : k < L.length) (hn : (nth L k).r = false) : retire L k = (setR L k, true) := by
  unfold retire
  rw [if_pos h, if_neg (by rw [Int.toNat_natCast, hn]; simp; omega), Int.toNat_natCast]
theorem retire_cases (L : List Cid) (s : Int) :
    (retire L s = ([], false)) ∨ (retire L s = (L, false) ∧ okI L = true) ∨
    (∃ k : Nat, k < L.length ∧ s = k ∧ retire L k = (setR L k, true) ∧ okI L = true ∧ (nth L k).r = false ∧ okI (setR L k) = true ∧ retire (setR L k) k = (setR L k, false) ∧ ∀ q, onV (setR L k) q ≠ (nth L k).v) := by
  by_cases h : okI L = true
  · by_cases hs : 0 ≤ s ∧ s ≤ (L.length : Int) - 1
    · obtain ⟨k, rfl⟩ := Int.eq_ofNat_of_zero_le hs.1
      have hk : k < L.length := by omega
      cases hr : (nth L k).r with
      | true => exact .inr (.inl ⟨retire_no h (.inr (by rw [Int.toNat_natCast]; exact hr)), h⟩)
      | false =>
        have hok := ok_setR h hk
        refine .inr (.inr ⟨k, hk, rfl, retire_yes h hk hr, h, hr, hok, retire_no hok (.inr (by rw [Int.toNat_natCast, setR_same hk])), fun q e => ?_⟩)
        have hv := (ok_range h hk).1
        rcases onV_cases (setR L k) q with hq | ⟨i, hi, _, _, ho, hv2⟩
        · omega
        · rw [len_setR] at hi
          rw [onB_iff] at ho
          by_cases hik : i = k
          · subst hik
            rw [setR_same hk] at ho
            cases ho.1
          · rw [setR_ne hik] at hv2
            exact hik (ok_vals h hi hk (by omega))
    · exact .inr (.inl ⟨retire_no h (.inl hs), h⟩)
  · exact .inl (retire_bad h)

theorem migrate_bad (h : ¬ (okI L = true ∧ (0 ≤ p ∧ p ≤ 3))) : migrate L p = ([], 0, false) := if_neg h
theorem migrate_no (h : okI L = true) (hp : 0 ≤ p ∧ p ≤ 3) (hn : onIdx L p < 0 ∨ onIdx L (-1) < 0) : migrate L p = (L, -1, false) := by
  unfold migrate
  rw [if_pos ⟨h, hp⟩, if_pos hn]
theorem migrate_yes (h : okI L = true) (hp : 0 ≤ p ∧ p ≤ 3) (hn : onIdx L p = i) (hk : onIdx L (-1) = k) : migrate L p = (setP (setR L i) k p, (nth L k).v, true) := by
  unfold migrate
  rw [if_pos ⟨h, hp⟩, if_neg (by omega), hk, hn, Int.toNat_natCast, Int.toNat_natCast]
/-- What migration does: i was in use on the path, k was unused. -/
theorem migrate_cases (L : List Cid) (p : Int) :
    (migrate L p = ([], 0, false)) ∨ (migrate L p = (L, -1, false) ∧ okI L = true) ∨
    (∃ i k : Nat, i < L.length ∧ k < L.length ∧ i ≠ k ∧ migrate L p = (setP (setR L i) k p, (nth L k).v, true) ∧ okI L = true ∧ (0 ≤ p ∧ p ≤ 3) ∧ (nth L i).r = false ∧ (nth L i).p = p ∧ (nth L k).r = false ∧ (nth L k).p = -1 ∧
      onV L p = (nth L i).v ∧ okI (setP (setR L i) k p) = true ∧ onV (setP (setR L i) k p) p = (nth L k).v ∧ (∀ j, j < L.length → j ≠ i → onB (nth L j) p = false) ∧
      retire L i = (setR L i, true) ∧ assign (setR L i) p = (setP (setR L i) k p, (nth L k).v, true)) := by
  by_cases h : okI L = true ∧ (0 ≤ p ∧ p ≤ 3)
  · obtain ⟨h, hp⟩ := h
    rcases onIdx_cases L p with ⟨e1, _⟩ | ⟨i, hi, e1, ho1, _⟩
    · exact .inr (.inl ⟨migrate_no h hp (.inl (by omega)), h⟩)
    · rcases onIdx_cases L (-1) with ⟨e2, _⟩ | ⟨k, hk, e2, ho2, hb2⟩
      · exact .inr (.inl ⟨migrate_no h hp (.inr (by omega)), h⟩)
      · have a1 := onB_iff.1 ho1
        have a2 := onB_iff.1 ho2
        have hik : i ≠ k := by
          rintro rfl
          omega
        have hu : ∀ j, j < L.length → j ≠ i → onB (nth L j) p = false := fun j hj hne => by
          cases hb : onB (nth L j) p with
          | false => rfl
          | true => exact absurd (ok_on h hj hi hb ho1 hp.1) hne
        have hok1 := ok_setR h hi
        have hk1 : k < (setR L i).length := by rw [len_setR]; exact hk
        have ek : nth (setR L i) k = nth L k := setR_ne (fun e => hik e.symm)
        have hn1 : ∀ j, j < (setR L i).length → onB (nth (setR L i) j) p = false := fun j hj => by
          rw [len_setR] at hj
          by_cases hji : j = i
          · subst hji
            rw [setR_same hi]
            rfl
          · rw [setR_ne hji]
            exact hu j hj hji
        have hok2 := ok_setP hok1 hk1 hp (fun j hj _ => hn1 j hj)
        have hk2 : k < (setP (setR L i) k p).length := by rw [len_setP]; exact hk1
        have hon : onV (setP (setR L i) k p) p = (nth L k).v := by
          rw [onV_eq hok2 hk2 (by rw [setP_same hk1, ek, onB_iff]; exact ⟨a2.1, rfl⟩) hp, setP_same hk1, ek]
        have hfree : onIdx (setR L i) (-1) = k := idx_found hk1 (by rw [ek]; exact ho2) fun j hj => by
          by_cases hji : j = i
          · subst hji
            rw [setR_same hi]
            rfl
          · rw [setR_ne hji]
            exact hb2 j hj
        refine .inr (.inr ⟨i, k, hi, hk, hik, migrate_yes h hp e1 e2, h, hp, a1.1, a1.2, a2.1, a2.2, onV_eq h hi ho1 hp, hok2, hon, hu, retire_yes h hi a1.1, ?_⟩)
        rw [assign_yes hok1 hp (by rw [onIdx_none hn1]; omega) hfree, ek]
  · exact .inl (migrate_bad h)

theorem len_issue (L : List Cid) (v : Int) : (issue L v).1.length ≤ L.length + 1 := by
  rcases issue_cases L v with e | ⟨e, _⟩ | ⟨e, _⟩ <;> rw [e] <;> simp
theorem len_assign (L : List Cid) (p : Int) : (assign L p).1.length ≤ L.length := by
  rcases assign_cases L p with e | ⟨e, _⟩ | ⟨k, _, e, _⟩ <;> rw [e]
  · simp
  · exact Nat.le_refl _
  · exact Nat.le_of_eq len_setP
theorem len_migrate (L : List Cid) (p : Int) : (migrate L p).1.length ≤ L.length := by
  rcases migrate_cases L p with e | ⟨e, _⟩ | ⟨i, k, _, _, _, e, _⟩ <;> rw [e]
  · simp
  · exact Nat.le_refl _
  · exact Nat.le_of_eq (len_setP.trans len_setR)
theorem len_retire (L : List Cid) (s : Int) : (retire L s).1.length ≤ L.length := by
  rcases retire_cases L s with e | ⟨e, _⟩ | ⟨k, _, rfl, e, _⟩ <;> rw [e]
  · simp
  · exact Nat.le_refl _
  · exact Nat.le_of_eq len_setR

/-- What operations keep of a list. -/
def Keeps (L M : List Cid) : Prop := L.length ≤ M.length ∧ ∀ i, i < L.length → (nth M i).v = (nth L i).v ∧ (0 ≤ (nth L i).p → (nth M i).p = (nth L i).p) ∧ ((nth L i).r = true → (nth M i).r = true)
theorem keeps_refl (L : List Cid) : Keeps L L := ⟨Nat.le_refl _, fun _ _ => ⟨rfl, fun _ => rfl, fun h => h⟩⟩
theorem keeps_snoc (L : List Cid) (c : Cid) : Keeps L (L ++ [c]) := ⟨by simp, fun i hi => by rw [nth_snoc_lt hi]; exact ⟨rfl, fun _ => rfl, fun h => h⟩⟩
theorem keeps_setR (hk : k < L.length) : Keeps L (setR L k) := by
  refine ⟨by rw [len_setR]; exact Nat.le_refl _, fun i _ => ?_⟩
  by_cases h : i = k
  · subst h
    rw [setR_same hk]
    exact ⟨rfl, fun _ => rfl, fun _ => rfl⟩
  · rw [setR_ne h]
    exact ⟨rfl, fun _ => rfl, fun h => h⟩
theorem keeps_setP (hk : k < L.length) (hp : (nth L k).p = -1) : Keeps L (setP L k q) := by
  refine ⟨by rw [len_setP]; exact Nat.le_refl _, fun i _ => ?_⟩
  by_cases h : i = k
  · subst h
    rw [setP_same hk]
    exact ⟨rfl, fun e => by omega, fun h => h⟩
  · rw [setP_ne h]
    exact ⟨rfl, fun _ => rfl, fun h => h⟩
theorem keeps_trans {M N : List Cid} (h : Keeps L M) (h' : Keeps M N) : Keeps L N := by
  refine ⟨Nat.le_trans h.1 h'.1, fun i hi => ?_⟩
  obtain ⟨a1, a2, a3⟩ := h.2 i hi
  obtain ⟨b1, b2, b3⟩ := h'.2 i (Nat.lt_of_lt_of_le hi h.1)
  exact ⟨b1.trans a1, fun e => by rw [b2 (by rw [a2 e]; exact e), a2 e], fun e => b3 (a3 e)⟩

end Go.Proofs.Ytobeeakjfkokfab
