/- The next part, by the reference: all cases. -/
import Derived.Test.YtmkmaeblnnfheabSndF
import Derived.Test.YtmkmaeblnnfheabSndG
import Derived.Test.YtmkmaeblnnfheabSndH
namespace Go.Proofs.Ytmkmaeblnnfheab
open Go.RowKit

theorem next_s (d : ByteArray) (f : Bool) (l n : Int) (LA LB : List Rg) (A : Option Addr) (ca : Nat) (B : Option Addr) (cb : Nat) (k : Int) (w : World) (hA : RngAt w A LA.length LA) (hB : RngAt w B LB.length LB) (eA : A = none → ca = 0) (eB : B = none → cb = 0) (hn : LA.length ≤ 100000) (hn' : LB.length ≤ 100000)
    (hk : 1 ≤ k ∧ k ≤ 1000) (hd : d.size ≤ 1000) (hl : -1000 ≤ l ∧ l ≤ 1000) (hn0 : 0 ≤ n ∧ n ≤ 1000) (hb : ∀ r, r ∈ LB → (0 ≤ r.lo ∧ r.lo ≤ d.size) ∧ r.lo ≤ r.hi ∧ r.hi ≤ 1000) :
    Calls Try.prog 54 #[.agg #[.string d, .bool f, .int .i64 l, .int .i64 n, .slice A LA.length ca, .slice B LB.length cb], .int .i64 k] w (GotNext w (next ⟨d, f, l, n, LA, LB⟩ k)) := by
  cases LB with
  | cons r T =>
    obtain ⟨lo, hi⟩ := r
    obtain ⟨h1, h2⟩ := hb _ List.mem_cons_self
    dsimp only at h1 h2
    by_cases hc1 : hi < (d.size : Int)
    · refine next_lost1 d f l n LA _ A ca B cb k w hA hB eA eB hn hn' hk hd hl hn0 lo hi T rfl h1 h2 (min hi (lo + k - 1)) hc1 rfl _ ?_
      unfold next
      dsimp only
      rw [if_pos (.inl hc1)]
    · by_cases hc2 : k < hi - lo
      · refine next_lost2 d f l n LA _ A ca B cb k w hA hB eA eB hn hn' hk hd hl hn0 lo hi T rfl h1 h2 hc1 hc2 _ ?_
        unfold next
        dsimp only
        rw [if_pos (.inr hc2), show min hi (lo + k - 1) = lo + k - 1 from by omega]
      · refine next_lost3 d f l n LA _ A ca B cb k w hA hB eA eB hn hn' hk hd hl hn0 lo hi T rfl h1 h2 hc1 hc2 _ ?_
        unfold next
        dsimp only
        rw [if_neg (by rintro (e | e) <;> omega)]
  | nil =>
    obtain ⟨m1, hm1⟩ : ∃ m1, (if l < (d.size : Int) then l else (d.size : Int)) = m1 := ⟨_, rfl⟩
    obtain ⟨m2, hm2⟩ : ∃ m2, (if n + k < m1 then n + k else m1) = m2 := ⟨_, rfl⟩
    have e0 : min (d.size : Int) (min l (n + k)) = m2 := by
      have e1 : m1 = min l (d.size : Int) := by rw [← hm1]; split <;> omega
      have e2 : m2 = min (n + k) m1 := by rw [← hm2]; split <;> omega
      omega
    cases f with
    | false =>
      have hx : next ⟨d, false, l, n, LA, []⟩ k = if m2 ≤ n then (⟨d, false, l, n, LA, []⟩, pt0, false) else (⟨d, false, l, m2, LA, []⟩, part ⟨d, false, l, n, LA, []⟩ n (m2 - 1), true) := by
        unfold next
        dsimp only
        rw [e0, show (if false = true ∧ m2 = (d.size : Int) then m2 + 1 else m2) = m2 from if_neg (by rintro ⟨e, _⟩; cases e)]
      by_cases hle : m2 ≤ n
      · exact next_none_f d l n LA _ A ca B cb k w hA hB eA eB hn hn' hk hd hl hn0 rfl m1 m2 hm1 hm2 hle _ (by rw [hx, if_pos hle])
      · exact next_new_f d l n LA _ A ca B cb k w hA hB eA eB hn hn' hk hd hl hn0 rfl m1 m2 hm1 hm2 (by omega) _ (by rw [hx, if_neg hle])
    | true =>
      by_cases hE : m2 = (d.size : Int)
      · have hx : next ⟨d, true, l, n, LA, []⟩ k = if m2 + 1 ≤ n then (⟨d, true, l, n, LA, []⟩, pt0, false) else (⟨d, true, l, m2 + 1, LA, []⟩, part ⟨d, true, l, n, LA, []⟩ n m2, true) := by
          unfold next
          dsimp only
          rw [e0, show (if true = true ∧ m2 = (d.size : Int) then m2 + 1 else m2) = m2 + 1 from if_pos ⟨rfl, hE⟩, show m2 + 1 - 1 = m2 from by omega]
        have hB' : (m2 == (d.size : Int)) = true := by rw [hE]; simp
        by_cases hle : m2 + 1 ≤ n
        · exact next_none_t1 d l n LA _ A ca B cb k w hA hB eA eB hn hn' hk hd hl hn0 rfl m1 m2 hm1 hm2 hB' hle _ (by rw [hx, if_pos hle])
        · exact next_new_t1 d l n LA _ A ca B cb k w hA hB eA eB hn hn' hk hd hl hn0 rfl m1 m2 hm1 hm2 hB' (by omega) _ (by rw [hx, if_neg hle])
      · have hx : next ⟨d, true, l, n, LA, []⟩ k = if m2 ≤ n then (⟨d, true, l, n, LA, []⟩, pt0, false) else (⟨d, true, l, m2, LA, []⟩, part ⟨d, true, l, n, LA, []⟩ n (m2 - 1), true) := by
          unfold next
          dsimp only
          rw [e0, show (if true = true ∧ m2 = (d.size : Int) then m2 + 1 else m2) = m2 from if_neg (by rintro ⟨_, e⟩; exact hE e)]
        have hB' : (m2 == (d.size : Int)) = false := by simpa using hE
        by_cases hle : m2 ≤ n
        · exact next_none_t2 d l n LA _ A ca B cb k w hA hB eA eB hn hn' hk hd hl hn0 rfl m1 m2 hm1 hm2 hB' hle _ (by rw [hx, if_pos hle])
        · exact next_new_t2 d l n LA _ A ca B cb k w hA hB eA eB hn hn' hk hd hl hn0 rfl m1 m2 hm1 hm2 hB' (by omega) _ (by rw [hx, if_neg hle])

end Go.Proofs.Ytmkmaeblnnfheab
