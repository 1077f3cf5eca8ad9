/- The laws on next, ack, loss, write, grant, plain. -/
import Derived.Test.YtmkmaeblnnfheabSendLaws
namespace Go.Proofs.Ytmkmaeblnnfheab
open Go.RowKit

def count (L : List Rg) : Int := (L.map fun r => r.hi - r.lo + 1).foldr (· + ·) 0
theorem count_cons (r : Rg) (L : List Rg) : count (r :: L) = r.hi - r.lo + 1 + count L := rfl
theorem count_snoc (L : List Rg) (r : Rg) : count (L ++ [r]) = count L + (r.hi - r.lo + 1) := by
  induction L with
  | nil => simp [count]
  | cons a L ih => rw [List.cons_append, count_cons, count_cons, ih]; omega
theorem count_le : ∀ (L : List Rg) (x N : Int), Canon L → (∀ r, r ∈ L → x ≤ r.lo ∧ r.hi < N) → x ≤ N → 0 ≤ count L ∧ count L ≤ N - x
  | [], x, N, _, _, h => by simp [count]; omega
  | r :: L, x, N, hc, hb, h => by
    obtain ⟨h1, h2, h3⟩ := canon_cons.1 hc
    have hr := hb r List.mem_cons_self
    rw [count_cons]
    by_cases hL : L = []
    · subst hL; simp [count]; omega
    · have hne : ∃ b, b ∈ L := by cases L with
        | nil => exact absurd rfl hL
        | cons b L => exact ⟨b, List.mem_cons_self⟩
      obtain ⟨b, hb'⟩ := hne
      have := h2 b hb'
      have := h3.1 b hb'
      have := (hb b (List.mem_cons_of_mem _ hb')).2
      have := count_le L (r.hi + 2) N h3 (fun b hb' => ⟨h2 b hb', (hb b (List.mem_cons_of_mem _ hb')).2⟩) (by omega)
      omega
theorem count_full {L : List Rg} {N : Int} (hc : Canon L) (hb : ∀ r, r ∈ L → 0 ≤ r.lo ∧ r.hi < N) (hN : 0 < N) : count L = N ↔ L = [⟨0, N - 1⟩] := by
  constructor
  · intro h
    match L, hc, hb, h with
    | [], _, _, h => simp [count] at h; omega
    | [r], hc, hb, h =>
      have hr := hb r List.mem_cons_self
      simp [count] at h
      have h1 : r.lo = 0 := by omega
      have h2 : r.hi = N - 1 := by omega
      cases r
      simp_all
    | r :: b :: L, hc, hb, h =>
      exfalso
      obtain ⟨h1, h2, h3⟩ := canon_cons.1 hc
      have hr := hb r List.mem_cons_self
      have h4 := h2 b List.mem_cons_self
      have h5 := h3.1 b List.mem_cons_self
      have h6 := (hb b (List.mem_cons_of_mem _ List.mem_cons_self)).2
      have := count_le (b :: L) (r.hi + 2) N h3 (fun b' hb' => ⟨h2 b' hb', (hb b' (List.mem_cons_of_mem _ hb')).2⟩) (by omega)
      rw [count_cons] at h
      omega
  · rintro rfl
    simp [count]
theorem SV.inA {s : Sd} (h : SV s) {r : Rg} (hr : r ∈ s.A) : 0 ≤ r.lo ∧ r.hi < s.n := ⟨(h.a.2.2 r hr).1, h.aLt _ (mem_hi h.a.2.1 hr)⟩
/-- Both ways to tell that all is done. -/
theorem done_eq {s : Sd} (h : SV s) (hf : s.f = true) : count s.A = s.pos ↔ s.A = [⟨0, s.d.size⟩] := by
  have hpos : s.pos = s.d.size + 1 := by unfold Sd.pos; rw [if_pos hf]
  have hn := h.n1
  rw [count_full h.a.2.1 (N := s.pos) (fun r hr => by have := h.inA hr; omega) (by omega), hpos, show (s.d.size : Int) + 1 - 1 = s.d.size from by omega]
noncomputable def doneB (s : Sd) : Bool := okS s && s.f && @decide (s.A = [⟨0, s.d.size⟩]) (Classical.propDecidable _)
theorem doneB_iff {s : Sd} : doneB s = true ↔ SV s ∧ s.f = true ∧ s.A = [⟨0, s.d.size⟩] := by
  unfold doneB
  rw [Bool.and_eq_true, Bool.and_eq_true, okS_iff, @decide_eq_true_iff _ (Classical.propDecidable _), and_assoc]
theorem done_next {s : Sd} (h : doneB s = true) {k : Int} (hk : 1 ≤ k) : s.L = [] ∧ next s k = (s, pt0, false) ∧ ∀ i : Int, 0 ≤ i → i ≤ s.d.size → memB s.A i = true := by
  obtain ⟨hv, hf, hA⟩ := doneB_iff.1 h
  have hmem : ∀ i : Int, 0 ≤ i → i ≤ s.d.size → memB s.A i = true := fun i h0 h1 => memB_iff.2 ⟨_, by rw [hA]; exact List.mem_cons_self, h0, h1⟩
  have hL : s.L = [] := by
    cases hL : s.L with
    | nil => rfl
    | cons r T =>
      exfalso
      have hr : r ∈ s.L := by rw [hL]; exact List.mem_cons_self
      obtain ⟨h0, h1, h2, h3⟩ := hv.lost hr
      exact hv.apart r.lo (hmem _ h0 (by omega)) (mem_lo hv.b.2.1 hr)
  have hn : (s.d.size : Int) < s.n := hv.aLt _ (hmem _ (by omega) (Int.le_refl _))
  refine ⟨hL, ?_, hmem⟩
  rcases nx_cases hv hk with ⟨r, T, hi, hL', _⟩ | ⟨_, _, e⟩ | ⟨m, _, h0, h1, _, _, _, hr, _⟩
  · rw [hL] at hL'; cases hL'
  · exact e
  · exfalso
    rcases hr with e | e <;> omega

/-- Sent speaks of the data, the end and the next position alone. -/
theorem Sent.of {s t : Sd} {p : Pt} (h : Sent s p) (hd : t.d = s.d) (hf : t.f = s.f) (hn : s.n ≤ t.n) : Sent t p :=
  ⟨h.o0, h.o1, h.lo, by have := h.hi; omega, by rw [hd]; exact h.fit, by rw [hd]; exact h.data, by rw [hd, hf]; exact h.fin⟩
theorem canon_add {L : List Rg} {lo hi : Int} (hc : Canon L) (h : lo ≤ hi) : Canon (add L lo hi) := (add_canon L lo hi hc h).1
theorem mem_add {L : List Rg} {lo hi : Int} (hc : Canon L) (h : lo ≤ hi) (n : Int) : memB (add L lo hi) n = ((decide (lo ≤ n ∧ n ≤ hi)) || memB L n) := (add_canon L lo hi hc h).2.1 n
theorem canon_remove {L : List Rg} {lo hi : Int} (hc : Canon L) (h : lo ≤ hi) : Canon (remove L lo hi) := (remove_canon hc h).1
theorem mem_remove {L : List Rg} {lo hi : Int} (hc : Canon L) (h : lo ≤ hi) (n : Int) : memB (remove L lo hi) n = (memB L n && !decide (lo ≤ n ∧ n ≤ hi)) := (remove_canon hc h).2.1 n
theorem add_comm' {L : List Rg} {a b c d : Int} (hc : Canon L) (h1 : a ≤ b) (h2 : c ≤ d) : add (add L a b) c d = add (add L c d) a b :=
  canon_unique _ _ (canon_add (canon_add hc h1) h2) (canon_add (canon_add hc h2) h1) fun n => by
    rw [mem_add (canon_add hc h1) h2, mem_add hc h1, mem_add (canon_add hc h2) h1, mem_add hc h2, ← Bool.or_assoc, ← Bool.or_assoc, Bool.or_comm (decide (c ≤ n ∧ n ≤ d))]
theorem add_twice {L : List Rg} {a b : Int} (hc : Canon L) (h1 : a ≤ b) : add (add L a b) a b = add L a b :=
  canon_unique _ _ (canon_add (canon_add hc h1) h1) (canon_add hc h1) fun n => by
    rw [mem_add (canon_add hc h1) h1, mem_add hc h1, ← Bool.or_assoc, Bool.or_self]
theorem remove_comm' {L : List Rg} {a b c d : Int} (hc : Canon L) (h1 : a ≤ b) (h2 : c ≤ d) : remove (remove L a b) c d = remove (remove L c d) a b :=
  canon_unique _ _ (canon_remove (canon_remove hc h1) h2) (canon_remove (canon_remove hc h2) h1) fun n => by
    rw [mem_remove (canon_remove hc h1) h2, mem_remove hc h1, mem_remove (canon_remove hc h2) h1, mem_remove hc h2, Bool.and_assoc, Bool.and_assoc, Bool.and_comm (!decide (a ≤ n ∧ n ≤ b))]
theorem remove_twice {L : List Rg} {a b : Int} (hc : Canon L) (h1 : a ≤ b) : remove (remove L a b) a b = remove L a b :=
  canon_unique _ _ (canon_remove (canon_remove hc h1) h1) (canon_remove hc h1) fun n => by
    rw [mem_remove (canon_remove hc h1) h1, mem_remove hc h1, Bool.and_assoc, Bool.and_self]
theorem lose_none (A : List Rg) : ∀ (m : Nat) (i : Int) (L : List Rg), (∀ x, i ≤ x → x < i + m → memB A x = true) → lose A m i L = L
  | 0, _, _, _ => rfl
  | m + 1, i, L, h => by
    unfold lose
    rw [if_pos (h i (by omega) (by omega))]
    exact lose_none A m (i + 1) L fun x h1 h2 => h x (by omega) (by omega)
theorem ack_twice {s : Sd} {p : Pt} (h : SV s) (hp : Sent s p) : Sent (ack s p) p ∧ SV (ack s p) ∧ ack (ack s p) p = ack s p ∧ loss (ack s p) p = ack s p := by
  have hlo := hp.lo
  refine ⟨hp.of rfl rfl (Int.le_refl _), h.ack hp, ?_, ?_⟩
  · show ({ ack s p with A := add (add s.A _ _) _ _, L := remove (remove s.L _ _) _ _ } : Sd) = _
    rw [add_twice h.a.2.1 hlo, remove_twice h.b.2.1 hlo]
    rfl
  · show ({ ack s p with L := lose (add s.A _ _) _ _ (remove s.L _ _) } : Sd) = _
    rw [lose_none _ _ _ _ fun x h1 h2 => by
      rw [mem_add h.a.2.1 hlo, decide_eq_true (show p.o ≤ x ∧ x ≤ p.last from by omega)]; rfl]
    rfl
theorem ack_order {s : Sd} {p q : Pt} (h : SV s) (hp : Sent s p) (hq : Sent s q) : ack (ack s q) p = ack (ack s p) q := by
  show ({ s with A := add (add s.A _ _) _ _, L := remove (remove s.L _ _) _ _ } : Sd) = { s with A := add (add s.A _ _) _ _, L := remove (remove s.L _ _) _ _ }
  rw [add_comm' h.a.2.1 hq.lo hp.lo, remove_comm' h.b.2.1 hq.lo hp.lo]
theorem sentB_ack {s : Sd} {p q : Pt} : sentB (ack s p) q = sentB s q := by
  rw [Bool.eq_iff_iff, sentB_iff, sentB_iff]
  exact ⟨fun h => h.of (t := s) rfl rfl (Int.le_refl _), fun h => h.of rfl rfl (Int.le_refl _)⟩
/-- A lost part is sent again, or all of it was acknowledged. -/
theorem loss_again {s : Sd} {p : Pt} (h : SV s) (hp : Sent s p) :
    ((loss s p).L = [] → ∀ i, p.o ≤ i → i ≤ p.last → memB (loss s p).A i = true) ∧ ∀ r T, (loss s p).L = r :: T → ∀ k, 1 ≤ k → (next (loss s p) k).2.2 = true ∧ (next (loss s p) k).2.1.o = r.lo := by
  obtain ⟨b1, b2⟩ := lose_canon s.A (p.last + 1 - p.o).toNat p.o s.L h.b.2.1
  refine ⟨fun e i h0 h1 => ?_, fun r T e k hk => ?_⟩
  · have := b2 i
    rw [show lose s.A (p.last + 1 - p.o).toNat p.o s.L = [] from e, memB_nil, decide_eq_true (show p.o ≤ i ∧ i < p.o + ((p.last + 1 - p.o).toNat : Int) from by omega)] at this
    show memB s.A i = true
    cases hm : memB s.A i with
    | true => rfl
    | false => rw [hm] at this; simp at this
  · rcases nx_cases (h.loss hp) hk with ⟨r', T', hi, hL, _, _, _, _, _, _, _, e'⟩ | ⟨hL, _⟩ | ⟨_, hL, _⟩
    · rw [e] at hL
      cases hL
      rw [e']
      exact ⟨rfl, rfl⟩
    · rw [e] at hL; cases hL
    · rw [e] at hL; cases hL
theorem loss_mem {s : Sd} {p : Pt} (h : SV s) (i : Int) : memB (loss s p).L i = (memB s.L i || ((decide (p.o ≤ i) && decide (i ≤ p.last)) && !memB s.A i)) := by
  obtain ⟨_, b2⟩ := lose_canon s.A (p.last + 1 - p.o).toNat p.o s.L h.b.2.1
  show memB (lose _ _ _ _) i = _
  rw [b2]
  congr 2
  rw [Bool.eq_iff_iff, Bool.and_eq_true, decide_eq_true_iff, decide_eq_true_iff, decide_eq_true_iff]
  omega

def write (s : Sd) (b : ByteArray) : Sd × Bool := if s.f = true ∨ s.d.size + b.size > 30 then (s, false) else ({ s with d := s.d ++ b }, true)
theorem SV.write {s : Sd} {b : ByteArray} (h : SV s) : SV (write s b).1 := by
  unfold Go.Proofs.Ytmkmaeblnnfheab.write
  split
  · exact h
  · rename_i hc
    have hs : (s.d ++ b).size = s.d.size + b.size := ByteArray.size_append
    have hf : s.f = false := by cases hf : s.f with
      | false => rfl
      | true => exact absurd (.inl hf) hc
    have hn := h.n1
    have hn0 := h.n0
    have hlim := h.lim
    unfold Sd.pos at hn
    rw [hf] at hn
    simp at hn
    refine ⟨by show (s.d ++ b).size ≤ 30; omega, h.l0, h.l1, h.n0, ?_, ?_, h.a, h.b, h.aLt, h.bLt, h.apart⟩
    · unfold Sd.pos
      dsimp only
      rw [hf]
      simp only [Bool.false_eq_true, if_false]
      rw [hs]
      omega
    · show min s.n ((s.d ++ b).size : Int) ≤ s.l
      omega
theorem SV.finish {s : Sd} (h : SV s) : SV { s with f := true } := by
  refine ⟨h.len, h.l0, h.l1, h.n0, ?_, h.lim, h.a, h.b, h.aLt, h.bLt, h.apart⟩
  have := h.n1
  have := (pos_le s).2
  show s.n ≤ Sd.pos { s with f := true }
  unfold Sd.pos
  simp
  omega
theorem SV.grant {s : Sd} {l : Int} (h : SV s) (h1 : s.l ≤ l) (h2 : l ≤ 30) : SV { s with l := l } := by
  have := h.l0
  have := h.lim
  exact ⟨h.len, by show 0 ≤ l; omega, h2, h.n0, h.n1, by show min s.n (s.d.size : Int) ≤ l; omega, h.a, h.b, h.aLt, h.bLt, h.apart⟩
theorem grant_more {s : Sd} {l k : Int} (h : SV s) (hk : 1 ≤ k) (h1 : s.l ≤ l) (h2 : l ≤ 30) (hb : (next s k).2.2 = true) : (next { s with l := l } k).2.2 = true := by
  rcases nx_cases (h.grant h1 h2) hk with ⟨_, _, _, _, _, _, _, _, _, _, _, e⟩ | ⟨hL, hn, e⟩ | ⟨_, _, _, _, _, _, _, _, e⟩
  · rw [e]
  · exfalso
    apply hn
    dsimp only
    rcases nx_cases h hk with ⟨_, _, _, hL', _⟩ | ⟨_, _, e'⟩ | ⟨_, _, _, _, _, _, _, hr, _⟩
    · rw [show s.L = [] from hL] at hL'; cases hL'
    · rw [e'] at hb; cases hb
    · rcases hr with hr | ⟨h3, h4, h5⟩
      · exact .inl (by omega)
      · exact .inr ⟨h3, h4, by omega⟩
  · rw [e]

end Go.Proofs.Ytmkmaeblnnfheab
