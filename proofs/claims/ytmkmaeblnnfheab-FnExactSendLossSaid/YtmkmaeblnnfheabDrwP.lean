/- What a drawn stream and its sent parts satisfy. -/
import Derived.Test.YtmkmaeblnnfheabSendLaws2
namespace Go.Proofs.Ytmkmaeblnnfheab

structure Good (s : Sd) (L : List Pt) : Prop where
  sv : SV s
  all : ∀ p, p ∈ L → Sent s p
theorem next_keeps {s : Sd} {k : Int} (h : SV s) (hk : 1 ≤ k) : (next s k).1.d = s.d ∧ (next s k).1.f = s.f ∧ s.n ≤ (next s k).1.n := by
  rcases nx_cases h hk with ⟨r, T, hi, hL, h0, h1, h2, h3, h4, hk', he, e⟩ | ⟨hL, hn, e⟩ | ⟨m, hL, h0, h1, hk', hl, he, hr, e⟩
  · rw [e]; exact ⟨rfl, rfl, Int.le_refl _⟩
  · rw [e]; exact ⟨rfl, rfl, Int.le_refl _⟩
  · rw [e]; exact ⟨rfl, rfl, by show s.n ≤ m; omega⟩
theorem Good.nextNo {s : Sd} {L : List Pt} (h : Good s L) {k : Int} (hk : 1 ≤ k) : Good (next s k).1 L := by
  obtain ⟨h1, h2, h3⟩ := next_keeps h.sv hk
  exact ⟨(next_good h.sv hk).1, fun p hp => (h.all p hp).of h1 h2 h3⟩
theorem Good.nextYes {s : Sd} {L : List Pt} (h : Good s L) {k : Int} (hk : 1 ≤ k) (hb : (next s k).2.2 = true) : Good (next s k).1 (L ++ [(next s k).2.1]) := by
  obtain ⟨h1, h2, h3⟩ := next_keeps h.sv hk
  refine ⟨(next_good h.sv hk).1, fun p hp => ?_⟩
  rcases List.mem_append.1 hp with e | e
  · exact (h.all p e).of h1 h2 h3
  · rw [List.mem_singleton.1 e]
    exact ((next_good h.sv hk).2 hb).1
theorem Good.ack {s : Sd} {L : List Pt} (h : Good s L) {p : Pt} (hp : p ∈ L) : Good (ack s p) L :=
  ⟨h.sv.ack (h.all p hp), fun q hq => (h.all q hq).of rfl rfl (Int.le_refl _)⟩
theorem Good.loss {s : Sd} {L : List Pt} (h : Good s L) {p : Pt} (hp : p ∈ L) : Good (loss s p) L :=
  ⟨h.sv.loss (h.all p hp), fun q hq => (h.all q hq).of rfl rfl (Int.le_refl _)⟩
theorem rv_nil : RV [] := ⟨by simp, ⟨fun r hr => (by cases hr), List.Pairwise.nil⟩, fun r hr => (by cases hr)⟩
theorem good_start {d : ByteArray} {f : Bool} {l : Int} (hd : d.size ≤ 30) (h0 : 0 ≤ l) (h1 : l ≤ 30) : Good ⟨d, f, l, 0, [], []⟩ [] :=
  ⟨⟨hd, h0, h1, Int.le_refl _, by have := (pos_le ⟨d, f, l, 0, [], []⟩).1; dsimp only at this ⊢; omega, by dsimp only; omega, rv_nil, rv_nil, fun i hi => (by cases hi), fun i hi => (by cases hi), fun i hi => (by cases hi)⟩, fun p hp => (by cases hp)⟩
/-- What bounds of a sent part the walks want. -/
theorem Sent.bd {s : Sd} {p : Pt} (h : Sent s p) (hs : SV s) : (0 ≤ p.o ∧ p.o ≤ 30) ∧ p.d.size ≤ 30 ∧ p.o ≤ p.last ∧ p.last ≤ 30 := by
  have h1 := h.o0
  have h2 := h.o1
  have h3 := h.lo
  have h4 := h.hi
  have h5 := h.fit
  have h6 := hs.n31
  have h7 := hs.len
  exact ⟨⟨h1, h2⟩, by omega, h3, by omega⟩
theorem SV.bd {s : Sd} (h : SV s) : s.d.size ≤ 30 ∧ (0 ≤ s.l ∧ s.l ≤ 30) ∧ (0 ≤ s.n ∧ s.n ≤ 31) ∧ s.A.length ≤ 16 ∧ s.L.length ≤ 16 := ⟨h.len, ⟨h.l0, h.l1⟩, ⟨h.n0, h.n31⟩, h.a.1, h.b.1⟩

end Go.Proofs.Ytmkmaeblnnfheab
