/- What the paths get of n packets. No program in sight. -/
import Derived.Test.YtbmmoncbklcbmaaOrdU
namespace Go.Proofs.Ytbmmoncbklcbmaa
open Go.RowKit

def sp (L : List Opt) (i : Nat) : Int := (onth L i).w - (onth L i).f
def share (L : List Opt) (O : List Nat) (n : Int) : List Int := (List.range L.length).map fun j => alloc (sp L) O n j
theorem share_len (L : List Opt) (O : List Nat) (n : Int) : (share L O n).length = L.length := by unfold share; simp
theorem share_at {L : List Opt} {O : List Nat} {n : Int} {j : Nat} (h : j < L.length) : inth (share L O n) j = alloc (sp L) O n j := by
  rw [inth_eq (by rw [share_len]; exact h)]
  unfold share
  simp
theorem share_ext {L : List Opt} {O : List Nat} {n : Int} {xs : List Int} (hl : xs.length = L.length) (h : ∀ j, j < L.length → inth xs j = alloc (sp L) O n j) : xs = share L O n := by
  refine List.ext_getElem (by rw [share_len, hl]) fun j h1 h2 => ?_
  have := h j (by omega)
  rw [inth_eq h1] at this
  rw [this, ← share_at (by omega), inth_eq h2]

/-- What each side hands back. -/
def Splitted (L : List Opt) (n : Int) (xs : List Int) : Prop :=
  (okO L = true ∧ (0 ≤ n ∧ n ≤ 256) ∧ ∃ O, IsOrder L O ∧ xs = share L O n) ∨ (¬ (okO L = true ∧ 0 ≤ n ∧ n ≤ 256) ∧ xs = [])
theorem splitted_unique {L : List Opt} {n : Int} {a b : List Int} (h : Splitted L n a) (h' : Splitted L n b) : a = b := by
  rcases h with ⟨h1, h2, O, h3, rfl⟩ | ⟨h1, rfl⟩
  · rcases h' with ⟨_, _, O', k3, rfl⟩ | ⟨k1, _⟩
    · rw [order_unique h3 k3]
    · exact absurd ⟨h1, h2⟩ k1
  · rcases h' with ⟨k1, k2, _⟩ | ⟨_, k2⟩
    · exact absurd ⟨k1, k2⟩ h1
    · exact k2.symm

theorem order_nodup {L : List Opt} {O : List Nat} (h : IsOrder L O) : O.Nodup := h.1.imp fun hab e => by subst e; exact hab.irrefl
theorem order_sp {L : List Opt} {O : List Nat} (h : IsOrder L O) : ∀ i, i ∈ O → 0 < sp L i := fun i hi => by
  have := ((h.2 i).1 hi).2
  unfold freeB at this
  unfold sp
  simp at this
  omega

/-- Where x goes. -/
theorem place (L : List Opt) (x : Nat) : ∀ (P1 P2 : List Nat), (∀ y, y ∈ P2 → (onth L x).t < (onth L y).t) → ∃ Q1 Q2, Q1 ++ Q2 = P1 ++ P2 ∧ (∀ y, y ∈ Q2 → (onth L x).t < (onth L y).t) ∧ (Q1 = [] ∨ ∃ Q y, Q1 = Q ++ [y] ∧ (onth L y).t ≤ (onth L x).t) := by
  intro P1
  induction hn : P1.length generalizing P1 with
  | zero =>
    intro P2 h
    obtain rfl : P1 = [] := List.eq_nil_of_length_eq_zero hn
    exact ⟨[], P2, rfl, h, .inl rfl⟩
  | succ n ih =>
    intro P2 h
    obtain ⟨Q, y, rfl⟩ := last_of (P1 := P1) (by omega)
    by_cases hy : (onth L y).t ≤ (onth L x).t
    · exact ⟨Q ++ [y], P2, rfl, h, .inr ⟨Q, y, rfl, hy⟩⟩
    · obtain ⟨Q1, Q2, e, h1, h2⟩ := ih Q (by simp at hn; exact hn) (y :: P2) (fun z hz => by
        rcases List.mem_cons.1 hz with e | e
        · rw [e]; omega
        · exact h z e)
      exact ⟨Q1, Q2, by rw [e]; simp, h1, h2⟩
theorem order_exists (L : List Opt) : ∃ O, IsOrder L O := by
  have key : ∀ k, k ≤ L.length → ∃ O : List Nat, O.Pairwise (Lt L) ∧ ∀ z, z ∈ O ↔ z < k ∧ freeB (onth L z) = true := by
    intro k
    induction k with
    | zero => exact fun _ => ⟨[], List.Pairwise.nil, fun z => by simp⟩
    | succ k ih =>
      intro hk
      obtain ⟨O, h1, h2⟩ := ih (by omega)
      cases hf : freeB (onth L k) with
      | false =>
        refine ⟨O, h1, fun z => ?_⟩
        rw [h2 z]
        constructor
        · rintro ⟨a, b⟩; exact ⟨by omega, b⟩
        · rintro ⟨a, b⟩
          rcases (show z < k ∨ z = k from by omega) with e | e
          · exact ⟨e, b⟩
          · rw [e, hf] at b; cases b
      | true =>
        obtain ⟨Q1, Q2, e, p1, p2⟩ := place L k O [] (by simp)
        rw [List.append_nil] at e
        refine ⟨Q1 ++ k :: Q2, insert_end (by rw [e]; exact h1) (by rw [e]; exact fun z hz => ((h2 z).1 hz).1) p1 p2, fun z => ?_⟩
        exact mem_ins e h2 hf z
  obtain ⟨O, h1, h2⟩ := key L.length (Nat.le_refl _)
  exact ⟨O, h1, h2⟩

/-- One path gets its share. -/
theorem share_step {s : Nat → Int} {i : Nat} {R : List Nat} {m : Int} {xs : List Int} {a : Nat → Int} (hd : i ∉ R) (hi : i < xs.length) (h : ∀ j, j < xs.length → inth xs j + alloc s (i :: R) m j = a j) (h0 : ∀ j, j ∈ i :: R → inth xs j = 0) :
    (∀ j, j < (xs.set i (min m (s i))).length → inth (xs.set i (min m (s i))) j + alloc s R (m - min m (s i)) j = a j) ∧ ∀ j, j ∈ R → inth (xs.set i (min m (s i))) j = 0 := by
  refine ⟨fun j hj => ?_, fun j hj => ?_⟩
  · rw [List.length_set] at hj
    rw [inth_set]
    have hh := h j hj
    by_cases e : j = i
    · subst e
      rw [if_pos ⟨rfl, hi⟩, alloc_out hd]
      rw [h0 j List.mem_cons_self] at hh
      have : alloc s (j :: R) m j = min m (s j) := by unfold alloc; rw [if_pos rfl]
      omega
    · rw [if_neg (fun k => e k.1)]
      have : alloc s (i :: R) m j = alloc s R (m - min m (s i)) j := by show (if j = i then _ else _) = _; rw [if_neg e]
      omega
  · rw [inth_set, if_neg (fun k => hd (by rw [← k.1]; exact hj))]
    exact h0 j (List.mem_cons_of_mem _ hj)

/-- With m packets assigned, the flights are so. -/
def After (L M : List Opt) (O : List Nat) (m : Int) : Prop :=
  M.length = L.length ∧ ∀ j, j < L.length → onth M j = { onth L j with f := (onth L j).f + alloc (sp L) O m j }
theorem after_order {L M : List Opt} {O : List Nat} {m : Int} (h : After L M O m) (hO : IsOrder L O) : IsOrder M (O.filter fun j => decide (alloc (sp L) O m j < sp L j)) := by
  refine order_filter hO h.1 (fun i => ?_) (fun i hi => ?_)
  · by_cases hi : i < L.length
    · rw [h.2 i hi]
    · unfold onth
      have hM := h.1
      rw [List.getD_eq_getElem?_getD, List.getD_eq_getElem?_getD, List.getElem?_eq_none (show M.length ≤ i by omega), List.getElem?_eq_none (show L.length ≤ i by omega)]
  · rw [h.2 i hi]
    unfold freeB sp
    dsimp only
    cases ha : (onth L i).a with
    | false => simp
    | true =>
      by_cases hf : (onth L i).f < (onth L i).w
      · simp [hf]
        constructor <;> intro _ <;> omega
      · have hno : i ∉ O := fun hm => by
          have := ((hO.2 i).1 hm).2
          unfold freeB at this
          simp [ha, hf] at this
        have e := alloc_out (sp := sp L) (l := O) (n := m) hno
        have e' : alloc (fun i => (onth L i).w - (onth L i).f) O m i = 0 := e
        simp [hf, e']
        try omega

end Go.Proofs.Ytbmmoncbklcbmaa
