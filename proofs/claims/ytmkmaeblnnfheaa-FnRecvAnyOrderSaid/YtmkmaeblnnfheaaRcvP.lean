/- Parts of a text in any order: each stretch comes once; in the end all of it is there. Plain. -/
import Derived.Test.YtmkmaeblnnfheaaRcvPlain
namespace Go.Proofs.Ytmkmaeblnnfheaa
open Go.RowKit

/-- Which part comes at step i: backwards, or by steps of m from n on. -/
def kf (P m n i : Nat) : Nat := if P % 2 = 0 ∨ P % 3 = 0 then P - 1 - i else (i * m + n) % P
theorem kf_lt {P m n i : Nat} (hP : 0 < P) : kf P m n i < P := by
  unfold kf
  split
  · omega
  · exact Nat.mod_lt _ hP
theorem mod_back {P n q : Nat} (hq : q < P) : ∃ t b, t < P ∧ b ≤ 1 ∧ t + n % P = q + b * P := by
  have hr := Nat.mod_lt n (show 0 < P by omega)
  by_cases h : n % P ≤ q
  · exact ⟨q - n % P, 0, by omega, by omega, by omega⟩
  · exact ⟨q + P - n % P, 1, by omega, by omega, by omega⟩
theorem kf_sur {P m n q : Nat} (hm : 1 ≤ m ∧ m ≤ 3) (hq : q < P) : ∃ i, i < P ∧ kf P m n i = q := by
  unfold kf
  by_cases hc : P % 2 = 0 ∨ P % 3 = 0
  · exact ⟨P - 1 - q, by omega, by rw [if_pos hc]; omega⟩
  · obtain ⟨t, b, ht, _, he⟩ := mod_back (n := n) hq
    have hdm := Nat.div_add_mod n P
    have fin : ∀ i a, i * m = t + a * P → (i * m + n) % P = q := fun i a h => by
      have e : i * m + n = q + P * (a + b + n / P) := by
        rw [h]
        have h1 : P * (a + b + n / P) = a * P + b * P + P * (n / P) := by rw [Nat.mul_add, Nat.mul_add, Nat.mul_comm P a, Nat.mul_comm P b]
        omega
      rw [e, Nat.add_mul_mod_self_left]
      exact Nat.mod_eq_of_lt hq
    have hP2 : P % 2 = 1 := by omega
    have hP3 : P % 3 = 1 ∨ P % 3 = 2 := by omega
    rcases (show m = 1 ∨ m = 2 ∨ m = 3 from by omega) with rfl | rfl | rfl
    · exact ⟨t, ht, by rw [if_neg hc]; exact fin t 0 (by omega)⟩
    · rcases (show t % 2 = 0 ∨ t % 2 = 1 from by omega) with e | e
      · exact ⟨t / 2, by omega, by rw [if_neg hc]; exact fin _ 0 (by omega)⟩
      · exact ⟨(t + P) / 2, by omega, by rw [if_neg hc]; exact fin _ 1 (by omega)⟩
    · rcases (show t % 3 = 0 ∨ (t + P) % 3 = 0 ∨ (t + 2 * P) % 3 = 0 from by omega) with e | e | e
      · exact ⟨t / 3, by omega, by rw [if_neg hc]; exact fin _ 0 (by omega)⟩
      · exact ⟨(t + P) / 3, by omega, by rw [if_neg hc]; exact fin _ 1 (by omega)⟩
      · exact ⟨(t + 2 * P) / 3, by omega, by rw [if_neg hc]; exact fin _ 2 (by omega)⟩

/-- What was received after i steps. -/
structure Cov (D : ByteArray) (S P m n i : Nat) (L : List Rg) (F : Int) : Prop where
  x : Rx D L
  mem : ∀ q : Int, memB L q = true ↔ ∃ j, j < i ∧ ((kf P m n j * S : Nat) : Int) ≤ q ∧ q < (((kf P m n j + 1) * S : Nat) : Int) ∧ q < D.size
  f : F = -1 ∨ F = D.size
  last : (∃ j, j < i ∧ kf P m n j = P - 1) → F = D.size
theorem cov_start {D : ByteArray} {S P m n : Nat} (h : D.size ≤ 30) : Cov D S P m n 0 [] (-1) :=
  ⟨⟨h, canon_nil, fun _ h => (by cases h)⟩, fun q => ⟨fun h => (by cases h), fun ⟨j, hj, _⟩ => absurd hj (Nat.not_lt_zero j)⟩, .inl rfl, fun ⟨j, hj, _⟩ => absurd hj (Nat.not_lt_zero j)⟩
/-- The parts are as many as needed. -/
structure Fits (d S P : Nat) : Prop where
  s0 : 1 ≤ S
  s1 : S ≤ 7
  p0 : 1 ≤ P
  lo : (P - 1) * S ≤ d
  hi : d ≤ P * S
theorem fits_of {d S : Nat} (h1 : 1 ≤ S) (h7 : S ≤ 7) : Fits d S (max ((d + S - 1) / S) 1) := by
  have hdm := Nat.div_add_mod (d + S - 1) S
  have hr := Nat.mod_lt (d + S - 1) (show 0 < S by omega)
  obtain ⟨q, hq⟩ : ∃ q, (d + S - 1) / S = q := ⟨_, rfl⟩
  rw [hq] at hdm ⊢
  rw [Nat.mul_comm] at hdm
  rcases Nat.eq_zero_or_pos q with e | e
  · subst e
    rw [show max 0 1 = 1 from rfl]
    exact ⟨h1, h7, Nat.le_refl _, by simp, by omega⟩
  · rw [show max q 1 = q from by omega]
    have e1 : (q - 1) * S = q * S - S := by rw [Nat.sub_mul, Nat.one_mul]
    exact ⟨h1, h7, e, by omega, by omega⟩
theorem Fits.at_ {d S P k : Nat} (h : Fits d S P) (hk : k < P) : k * S ≤ d ∧ (k = P - 1 → d ≤ (k + 1) * S) := by
  have e : k * S ≤ (P - 1) * S := Nat.mul_le_mul_right S (by omega)
  refine ⟨Nat.le_trans e h.lo, fun e => ?_⟩
  have := h.hi
  have := h.p0
  rw [e, show P - 1 + 1 = P from by omega]
  exact h.hi
theorem Cov.step {D : ByteArray} {S P m n i : Nat} {L : List Rg} {F : Int} (h : Cov D S P m n i L F) (hf : Fits D.size S P) {k : Nat} (hk : kf P m n i = k) {lo e : Int} (hlo : ((k * S : Nat) : Int) = lo) (he : min (((k + 1) * S : Nat) : Int) (D.size : Int) = e) {fin : Bool} (hfin : ((k : Int) == (P : Int) - 1) = fin) :
    Cov D S P m n (i + 1) (if lo < e then add L lo (e - 1) else L) (if fin = true then (D.size : Int) else F) := by
  have hkP : k < P := by rw [← hk]; exact kf_lt hf.p0
  obtain ⟨h1, h2⟩ := hf.at_ hkP
  have hs1 : (k + 1) * S = k * S + S := Nat.succ_mul k S
  have hs0 := hf.s0
  refine ⟨?_, ?_, ?_, ?_⟩
  · split
    · exact h.x.add (by omega) (by omega) (by omega)
    · exact h.x
  · intro q
    have hq : memB (if lo < e then add L lo (e - 1) else L) q = true ↔ (lo ≤ q ∧ q < e) ∨ memB L q = true := by
      split
      · rw [mem_add h.x.c (by omega), Bool.or_eq_true, decide_eq_true_eq]
        constructor
        · rintro (g | g)
          · exact .inl ⟨g.1, by omega⟩
          · exact .inr g
        · rintro (g | g)
          · exact .inl ⟨g.1, by omega⟩
          · exact .inr g
      · constructor
        · exact .inr
        · rintro (g | g)
          · omega
          · exact g
    rw [hq, h.mem]
    constructor
    · rintro (g | ⟨j, hj, g⟩)
      · exact ⟨i, Nat.lt_succ_self i, by rw [hk]; omega⟩
      · exact ⟨j, by omega, g⟩
    · rintro ⟨j, hj, g⟩
      rcases (show j < i ∨ j = i from by omega) with e' | e'
      · exact .inr ⟨j, e', g⟩
      · rw [e', hk] at g
        exact .inl (by omega)
  · split
    · exact .inr rfl
    · exact h.f
  · rintro ⟨j, hj, g⟩
    rcases (show j < i ∨ j = i from by omega) with e' | e'
    · split
      · rfl
      · exact h.last ⟨j, e', g⟩
    · have hb : fin = true := by
        rw [← hfin, beq_iff_eq]
        rw [e', hk] at g
        have := hf.p0
        omega
      rw [if_pos hb]
theorem Cov.full {D : ByteArray} {S P m n : Nat} {L : List Rg} {F : Int} (h : Cov D S P m n P L F) (hf : Fits D.size S P) (hm : 1 ≤ m ∧ m ≤ 3) : F = D.size ∧ ((D.size = 0 ∧ L = []) ∨ (0 < D.size ∧ L = [⟨0, (D.size : Int) - 1⟩])) := by
  refine ⟨?_, ?_⟩
  · obtain ⟨i, hi, e⟩ := kf_sur (n := n) hm (show P - 1 < P by have := hf.p0; omega)
    exact h.last ⟨i, hi, e⟩
  · rcases Nat.eq_zero_or_pos D.size with e | e
    · left
      refine ⟨e, ?_⟩
      cases L with
      | nil => rfl
      | cons r T =>
        have h1 := h.x.b r List.mem_cons_self
        have h2 := h.x.c.1 r List.mem_cons_self
        omega
    · right
      refine ⟨e, full_one h.x e fun q h0 h1 => ?_⟩
      rw [h.mem]
      obtain ⟨v, rfl⟩ := Int.eq_ofNat_of_zero_le h0
      have hS := hf.s0
      have hdm := Nat.div_add_mod v S
      have hr := Nat.mod_lt v (show 0 < S by omega)
      have hlt : v / S < P := by
        rw [Nat.div_lt_iff_lt_mul (by omega)]
        have := hf.hi
        omega
      obtain ⟨i, hi, ei⟩ := kf_sur (n := n) hm hlt
      refine ⟨i, hi, ?_⟩
      rw [ei]
      have e1 : v / S * S = S * (v / S) := Nat.mul_comm _ _
      have e2 : (v / S + 1) * S = v / S * S + S := Nat.succ_mul _ _
      omega

end Go.Proofs.Ytmkmaeblnnfheaa
