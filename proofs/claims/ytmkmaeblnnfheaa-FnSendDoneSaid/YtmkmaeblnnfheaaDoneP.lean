/- A stream that may be invalid, yet whose sets lie within its positions: acknowledgements and next parts keep it so. Plain. -/
import Derived.Test.YtmkmaeblnnfheaaMg1
import Derived.Test.YtmkmaeblnnfheaaMg4
namespace Go.Proofs.Ytmkmaeblnnfheaa
open Go.RowKit

/-- The numbers of a stream and its sets lie within bounds. -/
structure WS (s : Sd) : Prop where
  len : s.d.size ≤ 30
  l0 : 0 ≤ s.l
  l1 : s.l ≤ 30
  n0 : 0 ≤ s.n
  n1 : s.n ≤ (s.d.size : Int) + 1
  ca : Canon s.A
  a : ∀ i, memB s.A i = true → 0 ≤ i ∧ i ≤ s.d.size
  cb : Canon s.L
  b : ∀ i, memB s.L i = true → 0 ≤ i ∧ i ≤ s.d.size
/-- A part lies within the positions. -/
structure WP (s : Sd) (p : Pt) : Prop where
  o0 : 0 ≤ p.o
  lo : p.o ≤ p.last
  hi : p.last ≤ s.d.size
  sz : p.d.size ≤ 30
theorem WS.of {s : Sd} (h : SV s) : WS s :=
  have h1 := h.n1
  have h2 := (pos_le s).2
  ⟨h.len, h.l0, h.l1, h.n0, by omega, h.a.2.1, fun i hi => by have := h.aLt i hi; have := mem0 h.a hi; omega, h.b.2.1, fun i hi => by have := h.bLt i hi; have := mem0 h.b hi; omega⟩
theorem WP.of {s : Sd} {p : Pt} (h : SV s) (hp : Sent s p) : WP s p :=
  have h1 := h.n1
  have h2 := (pos_le s).2
  have h3 := hp.hi
  ⟨hp.o0, hp.lo, by omega, (hp.bd h).2.1⟩
theorem WS.inv {s : Sd} (h : WS s) : LInv s.A ∧ LInv s.L :=
  have h1 := h.len
  ⟨⟨h.ca, fun i hi => by have := h.a i hi; omega⟩, ⟨h.cb, fun i hi => by have := h.b i hi; omega⟩⟩
theorem WS.few {s : Sd} (h : WS s) : s.A.length ≤ 16 ∧ s.L.length ≤ 16 :=
  have h1 := h.len
  ⟨canon_few16 h.ca (fun r hr => by have := h.a _ (mem_lo h.ca hr); have := h.a _ (mem_hi h.ca hr); exact ⟨by omega, Int.lt_add_one_of_le (by omega : r.hi ≤ 30)⟩) (Int.le_refl _), canon_few16 h.cb (fun r hr => by have := h.b _ (mem_lo h.cb hr); have := h.b _ (mem_hi h.cb hr); exact ⟨by omega, Int.lt_add_one_of_le (by omega : r.hi ≤ 30)⟩) (Int.le_refl _)⟩
theorem WS.low {s : Sd} (h : WS s) {r : Rg} (hr : r ∈ s.L) : (0 ≤ r.lo ∧ r.lo ≤ s.d.size) ∧ r.lo ≤ r.hi ∧ r.hi ≤ s.d.size := by
  have h1 := h.b _ (mem_lo h.cb hr)
  have h2 := h.b _ (mem_hi h.cb hr)
  have h3 := h.cb.1 r hr
  omega
theorem WS.ack {s : Sd} {p : Pt} (h : WS s) (hp : WP s p) : WS (ack s p) :=
  have h1 := hp.o0
  have h2 := hp.hi
  ⟨h.len, h.l0, h.l1, h.n0, h.n1, canon_add h.ca hp.lo, fun i hi => by
    replace hi : memB (add s.A p.o p.last) i = true := hi
    rw [mem_add h.ca hp.lo, Bool.or_eq_true, decide_eq_true_eq] at hi
    rcases hi with e | e
    · show 0 ≤ i ∧ i ≤ (s.d.size : Int); omega
    · exact h.a i e, canon_remove h.cb hp.lo, fun i hi => by
    replace hi : memB (remove s.L p.o p.last) i = true := hi
    rw [mem_remove h.cb hp.lo, Bool.and_eq_true] at hi
    exact h.b i hi.1⟩
theorem WS.limit {s : Sd} (h : WS s) : WS { s with l := 30 } := ⟨h.len, by show (0 : Int) ≤ 30; omega, by show (30 : Int) ≤ 30; omega, h.n0, h.n1, h.ca, h.a, h.cb, h.b⟩
theorem WS.fin {s : Sd} (h : WS s) (f : Bool) : WS { s with f := f } := ⟨h.len, h.l0, h.l1, h.n0, h.n1, h.ca, h.a, h.cb, h.b⟩
theorem WP.same {s t : Sd} {p : Pt} (h : WP s p) (e : t.d = s.d) : WP t p := ⟨h.o0, h.lo, by rw [e]; exact h.hi, h.sz⟩
theorem wp_part {s : Sd} {lo hi : Int} (h30 : s.d.size ≤ 30) (h0 : 0 ≤ lo) (h1 : lo ≤ hi) (h2 : hi ≤ s.d.size) : WP s (part s lo hi) := by
  obtain ⟨e1, e2⟩ := part_last h0 h1 h2
  have e3 : (part s lo hi).o = lo := rfl
  exact ⟨by rw [e3]; exact h0, by rw [e1, e3]; exact h1, by rw [e1]; exact h2, by omega⟩
theorem ws_remove {s : Sd} (h : WS s) {lo hi : Int} (hl : lo ≤ hi) : WS { s with L := remove s.L lo hi } :=
  ⟨h.len, h.l0, h.l1, h.n0, h.n1, h.ca, h.a, canon_remove h.cb hl, fun i hi => by
    replace hi : memB (remove s.L lo _) i = true := hi
    rw [mem_remove h.cb hl, Bool.and_eq_true] at hi
    exact h.b i hi.1⟩
theorem WS.next {s : Sd} {k : Int} (h : WS s) (hk : 1 ≤ k) : WS (next s k).1 ∧ ((next s k).2.2 = true → WP (next s k).1 (next s k).2.1) := by
  have h30 := h.len
  have hn0 := h.n0
  have hn1 := h.n1
  cases hL : s.L with
  | cons r T =>
    obtain ⟨⟨h1, h2⟩, h3, h4⟩ := h.low (r := r) (by rw [hL]; exact List.mem_cons_self)
    by_cases hc : r.hi < (s.d.size : Int) ∨ r.hi - r.lo > k
    · have e : Go.Proofs.Ytmkmaeblnnfheaa.next s k = ({ s with L := remove s.L r.lo (min r.hi (r.lo + k - 1)) }, part s r.lo (min r.hi (r.lo + k - 1)), true) := by
        unfold Go.Proofs.Ytmkmaeblnnfheaa.next
        rw [hL]
        dsimp only
        rw [if_pos hc]
      rw [e]
      exact ⟨ws_remove h (by omega), fun _ => (wp_part h30 h1 (by omega) (by omega)).same rfl⟩
    · have e : Go.Proofs.Ytmkmaeblnnfheaa.next s k = ({ s with L := remove s.L r.lo r.hi }, part s r.lo r.hi, true) := by
        unfold Go.Proofs.Ytmkmaeblnnfheaa.next
        rw [hL]
        dsimp only
        rw [if_neg hc]
      rw [e]
      exact ⟨ws_remove h h3, fun _ => (wp_part h30 h1 h3 h4).same rfl⟩
  | nil =>
    have key : ∀ m : Int, m ≤ (s.d.size : Int) + 1 → WS (if m ≤ s.n then (s, pt0, false) else ({ s with n := m }, part s s.n (m - 1), true)).1 ∧ ((if m ≤ s.n then (s, pt0, false) else ({ s with n := m }, part s s.n (m - 1), true)).2.2 = true → WP (if m ≤ s.n then (s, pt0, false) else ({ s with n := m }, part s s.n (m - 1), true)).1 (if m ≤ s.n then (s, pt0, false) else ({ s with n := m }, part s s.n (m - 1), true)).2.1) := by
      intro m hm
      by_cases hle : m ≤ s.n
      · rw [if_pos hle]
        exact ⟨h, fun e => by cases e⟩
      · rw [if_neg hle]
        exact ⟨⟨h.len, h.l0, h.l1, by show 0 ≤ m; omega, hm, h.ca, h.a, h.cb, h.b⟩, fun _ => (wp_part h30 hn0 (by omega) (by omega)).same rfl⟩
    have e0 : Go.Proofs.Ytmkmaeblnnfheaa.next s k = (if (if s.f = true ∧ min (s.d.size : Int) (min s.l (s.n + k)) = s.d.size then min (s.d.size : Int) (min s.l (s.n + k)) + 1 else min (s.d.size : Int) (min s.l (s.n + k))) ≤ s.n then (s, pt0, false)
        else ({ s with n := if s.f = true ∧ min (s.d.size : Int) (min s.l (s.n + k)) = s.d.size then min (s.d.size : Int) (min s.l (s.n + k)) + 1 else min (s.d.size : Int) (min s.l (s.n + k)) },
          part s s.n ((if s.f = true ∧ min (s.d.size : Int) (min s.l (s.n + k)) = s.d.size then min (s.d.size : Int) (min s.l (s.n + k)) + 1 else min (s.d.size : Int) (min s.l (s.n + k))) - 1), true)) := by
      conv => lhs; unfold Go.Proofs.Ytmkmaeblnnfheaa.next
      rw [hL]
    rw [e0]
    refine key _ ?_
    split <;> omega
theorem next_same {s : Sd} {k : Int} : s.d = (next s k).1.d ∧ s.f = (next s k).1.f ∧ s.l = (next s k).1.l := by
  unfold next
  split
  · exact ⟨rfl, rfl, rfl⟩
  · dsimp only
    split <;> split <;> exact ⟨rfl, rfl, rfl⟩

end Go.Proofs.Ytmkmaeblnnfheaa
