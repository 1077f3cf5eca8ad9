/- What next, ack and loss do, plain. -/
import Derived.Test.YtmkmaeblnnfheabSendPlain
namespace Go.Proofs.Ytmkmaeblnnfheab
open Go.RowKit

theorem part_last {s : Sd} {lo hi : Int} (h0 : 0 ≤ lo) (h1 : lo ≤ hi) (h2 : hi ≤ s.d.size) :
    (part s lo hi).last = hi ∧ (part s lo hi).o + (part s lo hi).d.size = min (hi + 1) s.d.size := by
  unfold part Pt.last
  dsimp only
  rw [size_part h0 (by omega) (by omega)]
  by_cases h : hi = s.d.size
  · rw [decide_eq_true h, if_pos rfl]; omega
  · rw [decide_eq_false h, if_neg (by decide)]; omega
theorem part_sent {s t : Sd} {lo hi : Int} (hd : t.d = s.d) (hf : t.f = s.f) (h0 : 0 ≤ lo) (h1 : lo ≤ hi) (h2 : hi ≤ s.d.size) (h30 : s.d.size ≤ 30) (hn : hi < t.n) (he : hi = s.d.size → s.f = true) :
    Sent t (part s lo hi) := by
  obtain ⟨e1, e2⟩ := part_last h0 h1 h2
  have ho : (part s lo hi).o = lo := rfl
  refine ⟨by omega, by omega, by omega, by omega, by rw [hd]; omega, ?_, fun h => ?_⟩
  · rw [hd, ho]
    have : (part s lo hi).d = s.d.extract lo.toNat (max lo (min (hi + 1) s.d.size)).toNat := rfl
    rw [this]
    congr 1
    rw [ByteArray.size_extract]
    omega
  · have : hi = s.d.size := of_decide_eq_true h
    rw [hd, hf]
    exact ⟨he this, by omega⟩

/-- The three ways of next. -/
inductive Nx (s : Sd) (k : Int) : Prop
  | lost (r : Rg) (T : List Rg) (hi : Int) (hL : s.L = r :: T) (h0 : 0 ≤ r.lo) (h1 : r.lo ≤ hi) (h2 : hi ≤ r.hi) (h3 : r.hi < s.n) (h4 : r.hi ≤ s.d.size) (hk : min (hi + 1) s.d.size - r.lo ≤ k) (he : hi = s.d.size → s.f = true)
      (e : next s k = ({ s with L := remove s.L r.lo hi }, part s r.lo hi, true))
  | none (hL : s.L = []) (h : ¬ (s.n < min (s.d.size : Int) s.l ∨ (s.f = true ∧ s.n = s.d.size ∧ (s.d.size : Int) ≤ s.l))) (e : next s k = (s, pt0, false))
  | new (m : Int) (hL : s.L = []) (h0 : s.n < m) (h1 : m ≤ s.pos) (hk : min m s.d.size - s.n ≤ k) (hl : min m s.d.size ≤ s.l) (he : m - 1 = s.d.size → s.f = true)
      (h : s.n < min (s.d.size : Int) s.l ∨ (s.f = true ∧ s.n = s.d.size ∧ (s.d.size : Int) ≤ s.l))
      (e : next s k = ({ s with n := m }, part s s.n (m - 1), true))
theorem nx_cases {s : Sd} {k : Int} (h : SV s) (hk : 1 ≤ k) : Nx s k := by
  have hpos := h.n1
  have hlim := h.lim
  have hn0 := h.n0
  cases hL : s.L with
  | cons r T =>
    obtain ⟨h1, h2, h3, h4⟩ := h.lost (r := r) (by rw [hL]; exact List.mem_cons_self)
    have hfin : r.hi = s.d.size → s.f = true := fun e => by
      cases hf : s.f with
      | true => rfl
      | false =>
        unfold Sd.pos at hpos
        rw [hf] at hpos
        simp at hpos
        omega
    by_cases hc : r.hi < (s.d.size : Int) ∨ r.hi - r.lo > k
    · refine .lost r T (min r.hi (r.lo + k - 1)) hL h1 (by omega) (by omega) h3 h4 (by omega) (fun e => hfin (by omega)) ?_
      unfold next
      rw [hL]
      dsimp only
      rw [if_pos hc]
    · refine .lost r T r.hi hL h1 (by omega) (by omega) h3 h4 (by omega) hfin ?_
      unfold next
      rw [hL]
      dsimp only
      rw [if_neg hc]
  | nil =>
    have e0 : next s k = (if (if s.f = true ∧ min (s.d.size : Int) (min s.l (s.n + k)) = s.d.size then min (s.d.size : Int) (min s.l (s.n + k)) + 1 else min (s.d.size : Int) (min s.l (s.n + k))) ≤ s.n then (s, pt0, false)
        else ({ s with n := if s.f = true ∧ min (s.d.size : Int) (min s.l (s.n + k)) = s.d.size then min (s.d.size : Int) (min s.l (s.n + k)) + 1 else min (s.d.size : Int) (min s.l (s.n + k)) },
          part s s.n ((if s.f = true ∧ min (s.d.size : Int) (min s.l (s.n + k)) = s.d.size then min (s.d.size : Int) (min s.l (s.n + k)) + 1 else min (s.d.size : Int) (min s.l (s.n + k))) - 1), true)) := by
      conv => lhs; unfold next
      rw [hL]
    unfold Sd.pos at hpos
    by_cases hc : s.f = true ∧ min (s.d.size : Int) (min s.l (s.n + k)) = s.d.size
    · simp only [if_pos hc] at e0
      by_cases hle : min (s.d.size : Int) (min s.l (s.n + k)) + 1 ≤ s.n
      · rw [if_pos hle] at e0
        exact .none hL (by omega) e0
      · rw [if_neg hle] at e0
        rw [if_pos hc.1] at hpos
        exact .new _ hL (by omega) (by unfold Sd.pos; rw [if_pos hc.1]; omega) (by omega) (by omega) (fun _ => hc.1) (by
          rcases (show s.n < (s.d.size : Int) ∨ s.n = (s.d.size : Int) from by omega) with e | e
          · exact .inl (by omega)
          · exact .inr ⟨hc.1, e, by omega⟩) e0
    · simp only [if_neg hc] at e0
      by_cases hle : min (s.d.size : Int) (min s.l (s.n + k)) ≤ s.n
      · rw [if_pos hle] at e0
        refine .none hL ?_ e0
        rintro (h1 | ⟨h1, h2, h3⟩)
        · omega
        · exact hc ⟨h1, by omega⟩
      · rw [if_neg hle] at e0
        exact .new _ hL (by omega) (by have := (pos_le s).1; omega) (by omega) (by omega) (by omega) (.inl (by omega)) e0

theorem remove_sub {L : List Rg} {lo hi n : Int} (h : RV L) (hl : lo ≤ hi) (hn : n ≤ 31) (hlt : ∀ i, memB L i = true → i < n) : RV (remove L lo hi) := by
  obtain ⟨b1, b2, _⟩ := remove_canon (lo := lo) (hi := hi) h.2.1 hl
  exact rv_below b1 (fun i hi => by
    rw [b2, Bool.and_eq_true] at hi
    exact ⟨mem0 h hi.1, hlt i hi.1⟩) hn
theorem SV.remove {s : Sd} {lo hi : Int} (h : SV s) (hl : lo ≤ hi) : SV { s with L := remove s.L lo hi } := by
  obtain ⟨_, b2, _⟩ := remove_canon (lo := lo) (hi := hi) h.b.2.1 hl
  exact ⟨h.len, h.l0, h.l1, h.n0, h.n1, h.lim, h.a, remove_sub h.b hl h.n31 h.bLt, h.aLt, fun i hi => by
    replace hi : memB (Go.Proofs.Ytmkmaeblnnfheab.remove s.L lo _) i = true := hi
    rw [b2, Bool.and_eq_true] at hi; exact h.bLt i hi.1, fun i h1 h2 => by
    replace h2 : memB (Go.Proofs.Ytmkmaeblnnfheab.remove s.L lo _) i = true := h2
    rw [b2, Bool.and_eq_true] at h2; exact h.apart i h1 h2.1⟩
theorem SV.upTo {s : Sd} {m : Int} (h : SV s) (h0 : s.n < m) (h1 : m ≤ s.pos) (hl : min m s.d.size ≤ s.l) : SV { s with n := m } :=
  ⟨h.len, h.l0, h.l1, by have := h.n0; show 0 ≤ m; omega, h1, hl, h.a, h.b, fun i hi => by have := h.aLt i hi; show i < m; omega, fun i hi => by have := h.bLt i hi; show i < m; omega, h.apart⟩
/-- What is handed out was sent, is small enough, and the stream is good. -/
theorem next_good {s : Sd} {k : Int} (h : SV s) (hk : 1 ≤ k) : SV (next s k).1 ∧ ((next s k).2.2 = true → Sent (next s k).1 (next s k).2.1 ∧ ((next s k).2.1.d.size : Int) ≤ k ∧ (next s k).2.1.o + (next s k).2.1.d.size ≤ s.l) := by
  have hlim := h.lim
  rcases nx_cases h hk with ⟨r, T, hi, hL, h0, h1, h2, h3, h4, hk', he, e⟩ | ⟨hL, hn, e⟩ | ⟨m, hL, h0, h1, hk', hl, he, hr, e⟩
  · rw [e]
    obtain ⟨e1, e2⟩ := part_last (s := s) h0 h1 (by omega : hi ≤ s.d.size)
    have ho : (part s r.lo hi).o = r.lo := rfl
    exact ⟨h.remove h1, fun _ => ⟨part_sent rfl rfl h0 h1 (by omega) h.len (by show hi < s.n; omega) he, by dsimp only; omega, by dsimp only; omega⟩⟩
  · rw [e]
    exact ⟨h, fun e => by cases e⟩
  · rw [e]
    have := (pos_le s).2
    obtain ⟨e1, e2⟩ := part_last (s := s) (lo := s.n) (hi := m - 1) h.n0 (by omega) (by omega)
    have ho : (part s s.n (m - 1)).o = s.n := rfl
    exact ⟨h.upTo h0 h1 hl, fun _ => ⟨part_sent rfl rfl h.n0 (by omega) (by omega) h.len (by show m - 1 < m; omega) he, by dsimp only; omega, by dsimp only; omega⟩⟩

end Go.Proofs.Ytmkmaeblnnfheab
