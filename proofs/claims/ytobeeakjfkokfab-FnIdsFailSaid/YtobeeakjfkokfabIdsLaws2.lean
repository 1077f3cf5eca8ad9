/- More plain facts for the laws on connection identifiers. No program in sight. -/
import Derived.Test.YtobeeakjfkokfabIdsLaws
namespace Go.Proofs.Ytobeeakjfkokfab
open Go.RowKit

variable {L : List Cid} {i j k : Nat} {p q v : Int} {c : Cid}

theorem keeps_issue (h : okI L = true) (hv : 0 ≤ v ∧ v ≤ 9999) : Keeps L (issue L v).1 := by
  by_cases hn : (L.any fun c => decide (c.v = v)) = true ∨ 8 ≤ L.length ∨ 4 ≤ act L
  · rw [issue_no h hv hn]; exact keeps_refl L
  · rw [issue_yes h hv hn]; exact keeps_snoc L _
theorem keeps_assign (h : okI L = true) (hp : 0 ≤ p ∧ p ≤ 3) : Keeps L (assign L p).1 := by
  by_cases hn : 0 ≤ onIdx L p ∨ onIdx L (-1) < 0
  · rw [assign_no h hp hn]; exact keeps_refl L
  · rcases onIdx_cases L (-1) with ⟨e, _⟩ | ⟨k, hk, e, ho, _⟩
    · omega
    · rw [assign_yes h hp (by omega) e]; exact keeps_setP hk (onB_iff.1 ho).2
theorem keeps_migrate (h : okI L = true) (hp : 0 ≤ p ∧ p ≤ 3) : Keeps L (migrate L p).1 := by
  by_cases hn : onIdx L p < 0 ∨ onIdx L (-1) < 0
  · rw [migrate_no h hp hn]; exact keeps_refl L
  · rcases onIdx_cases L (-1) with ⟨e, _⟩ | ⟨k, hk, e, ho, _⟩
    · omega
    · rcases onIdx_cases L p with ⟨e2, _⟩ | ⟨i, hi, e2, ho2, _⟩
      · omega
      · have a1 := onB_iff.1 ho
        have a2 := onB_iff.1 ho2
        rw [migrate_yes h hp e2 e]
        exact keeps_trans (keeps_setR hi) (keeps_setP (by rw [len_setR]; exact hk) (by rw [setR_ne (by rintro rfl; omega)]; exact a1.2))
theorem keeps_retire (h : okI L = true) {s : Int} : Keeps L (retire L s).1 := by
  rcases retire_cases L s with e | ⟨e, _⟩ | ⟨k, hk, rfl, e, _⟩
  · unfold retire at e
    rw [if_pos h] at e
    split at e
    · unfold retire
      rw [if_pos h, if_pos (by assumption)]
      exact keeps_refl L
    · simp at e
  · rw [e]; exact keeps_refl L
  · rw [e]; exact keeps_setR hk
theorem fail_assign (h : okI L = true) (hp : 0 ≤ p ∧ p ≤ 3) : (assign L p).2.2 = false → (assign L p).1 = L := by
  unfold assign
  rw [if_pos ⟨h, hp⟩]
  split
  · intro _; rfl
  · intro e; cases e
theorem fail_migrate (h : okI L = true) (hp : 0 ≤ p ∧ p ≤ 3) : (migrate L p).2.2 = false → (migrate L p).1 = L := by
  unfold migrate
  rw [if_pos ⟨h, hp⟩]
  split
  · intro _; rfl
  · intro e; cases e
theorem fail_retire (h : okI L = true) {s : Int} : (retire L s).2 = false → (retire L s).1 = L := by
  unfold retire
  rw [if_pos h]
  split
  · intro _; rfl
  · intro e; cases e
theorem issue_end {M : List Cid} {z : Int} {b : Bool} (h : okI L = true) (hv : 0 ≤ v ∧ v ≤ 9999) (e : issue L v = (M, z, b)) :
    ((L.any fun c => decide (c.v = v)) = true ∧ b = false ∧ M = L) ∨ ((L.any fun c => decide (c.v = v)) = false ∧ b = false ∧ M = L ∧ L.length = 8) ∨
    ((L.any fun c => decide (c.v = v)) = false ∧ b = false ∧ M = L ∧ L.length < 8 ∧ act L = 4) ∨ ((L.any fun c => decide (c.v = v)) = false ∧ b = true ∧ L.length < 8 ∧ act L < 4) := by
  have h8 := ok_len h
  have h4 := ok_act h
  cases hx : L.any fun c => decide (c.v = v) with
  | true =>
    rw [issue_no h hv (.inl hx)] at e
    cases e
    exact .inl ⟨rfl, rfl, rfl⟩
  | false =>
    by_cases e8 : L.length = 8
    · rw [issue_no h hv (.inr (.inl (by omega)))] at e
      cases e
      exact .inr (.inl ⟨rfl, rfl, rfl, e8⟩)
    · by_cases e4 : act L = 4
      · rw [issue_no h hv (.inr (.inr (by omega)))] at e
        cases e
        exact .inr (.inr (.inl ⟨rfl, rfl, rfl, by omega, e4⟩))
      · rw [issue_yes h hv (by rw [hx]; simp; omega)] at e
        cases e
        exact .inr (.inr (.inr ⟨rfl, rfl, by omega, by omega⟩))
theorem migrate_gone (h : okI L = true) (hi : i < L.length) (hk : k < L.length) (hik : i ≠ k) (j : Nat) (hj : j < (setP (setR L i) k p).length) (e : (nth (setP (setR L i) k p) j).v = (nth L i).v) : (nth (setP (setR L i) k p) j).r = true := by
  have hk' : k < (setR L i).length := by rw [len_setR]; exact hk
  rw [len_setP, len_setR] at hj
  by_cases hjk : j = k
  · subst hjk
    rw [setP_same hk', setR_ne (Ne.symm hik)] at e
    exact absurd (ok_vals h hk hi e) (Ne.symm hik)
  · rw [setP_ne hjk] at e ⊢
    by_cases hji : j = i
    · subst hji
      rw [setR_same hi]
    · rw [setR_ne hji] at e
      exact absurd (ok_vals h hj hi e) hji

end Go.Proofs.Ytobeeakjfkokfab
