/- The sending side of a stream as plain functions: valid, next, sent, acknowledged, lost; what the reference reckons is what the program reckons. No program in sight. -/
import Derived.Test.YtmkmaeblnnfheabRangePlain
namespace Go.Proofs.Ytmkmaeblnnfheab
open Go.RowKit

def rth (L : List Rg) (i : Nat) : Rg := L.getD i ⟨0, 0⟩
theorem rth_mem {L : List Rg} {i : Nat} (h : i < L.length) : rth L i ∈ L := by
  unfold rth
  rw [List.getD_eq_getElem?_getD, List.getElem?_eq_getElem h]
  exact List.getElem_mem h
theorem mem_rth {L : List Rg} {r : Rg} (h : r ∈ L) : ∃ i, i < L.length ∧ rth L i = r := by
  obtain ⟨i, hi, e⟩ := List.mem_iff_getElem.1 h
  exact ⟨i, hi, by unfold rth; rw [List.getD_eq_getElem?_getD, List.getElem?_eq_getElem hi]; exact e⟩
theorem rth_eq {L : List Rg} {i : Nat} (h : i < L.length) : rth L i = L[i] := by
  unfold rth
  rw [List.getD_eq_getElem?_getD, List.getElem?_eq_getElem h]
  rfl

/-- A set of numbers as the program keeps it. -/
def RV (L : List Rg) : Prop := L.length ≤ 16 ∧ Canon L ∧ ∀ r, r ∈ L → 0 ≤ r.lo ∧ r.hi ≤ 999
noncomputable def rvB (L : List Rg) : Bool := @decide (RV L) (Classical.propDecidable _)
theorem rvB_iff {L : List Rg} : rvB L = true ↔ RV L := by unfold rvB; exact @decide_eq_true_iff _ (Classical.propDecidable _)
/-- What is asked of range k, those ahead of it being good. -/
def chk (L : List Rg) (k : Nat) : Prop := 0 ≤ (rth L k).lo ∧ (0 < k → (rth L (k - 1)).hi + 2 ≤ (rth L k).lo) ∧ (rth L k).lo ≤ (rth L k).hi ∧ (rth L k).hi ≤ 999
theorem canon_get {L : List Rg} (h : Canon L) {i j : Nat} (hij : i < j) (hj : j < L.length) : (rth L i).hi + 2 ≤ (rth L j).lo := by
  have := List.pairwise_iff_getElem.1 h.2 i j (by omega) hj hij
  rw [rth_eq (by omega), rth_eq hj]
  exact this
theorem chk_of {L : List Rg} (h : RV L) {k : Nat} (hk : k < L.length) : chk L k :=
  ⟨(h.2.2 _ (rth_mem hk)).1, fun h0 => canon_get h.2.1 (by omega) hk, h.2.1.1 _ (rth_mem hk), (h.2.2 _ (rth_mem hk)).2⟩
theorem chk_far {L : List Rg} : ∀ {m : Nat}, (∀ k, k < m → chk L k) → ∀ i j, i < j → j < m → (rth L i).hi + 2 ≤ (rth L j).lo
  | 0, _, _, j, _, hj => by omega
  | m + 1, h, i, j, hij, hj => by
    rcases Nat.lt_or_ge j m with e | e
    · exact chk_far (m := m) (fun k hk => h k (by omega)) i j hij e
    · obtain rfl : j = m := by omega
      obtain ⟨_, h2, _⟩ := h j (by omega)
      have h2 := h2 (by omega)
      rcases Nat.lt_or_ge i (j - 1) with e | e
      · have := chk_far (m := j) (fun k hk => h k (by omega)) i (j - 1) e (by omega)
        have := (h (j - 1) (by omega)).2.2.1
        omega
      · obtain rfl : i = j - 1 := by omega
        exact h2
theorem rv_of {L : List Rg} (hl : L.length ≤ 16) (h : ∀ k, k < L.length → chk L k) : RV L := by
  refine ⟨hl, ⟨fun r hr => ?_, List.pairwise_iff_getElem.2 fun i j hi hj hij => ?_⟩, fun r hr => ?_⟩
  · obtain ⟨i, hi, rfl⟩ := mem_rth hr
    exact (h i hi).2.2.1
  · have := chk_far h i j hij hj
    rw [rth_eq hi, rth_eq hj] at this
    exact this
  · obtain ⟨i, hi, rfl⟩ := mem_rth hr
    exact ⟨(h i hi).1, (h i hi).2.2.2⟩
theorem rvB_true {L : List Rg} (hl : L.length ≤ 16) (h : ∀ k, k < L.length → chk L k) : rvB L = true := rvB_iff.2 (rv_of hl h)
theorem rvB_long {L : List Rg} (hl : 16 < L.length) : rvB L = false := by
  cases hb : rvB L with
  | false => rfl
  | true => have := (rvB_iff.1 hb).1; omega
theorem rvB_bad {L : List Rg} {k : Nat} (hk : k < L.length) (h : ¬ chk L k) : rvB L = false := by
  cases hb : rvB L with
  | false => rfl
  | true => exact absurd (chk_of (rvB_iff.1 hb) hk) h
theorem chk_next {L : List Rg} {m : Nat} (h : ∀ q, q < m → chk L q) (h1 : chk L m) (q : Nat) (hq : q < m + 1) : chk L q := by
  rcases (show q < m ∨ q = m from by omega) with e | e
  · exact h q e
  · rw [e]; exact h1

/-- Ranges that end below N, ascending and apart, are few. -/
theorem canon_few : ∀ (L : List Rg) (x N : Int), Canon L → (∀ r, r ∈ L → x ≤ r.lo ∧ r.hi < N) → L ≠ [] → x + 2 * (L.length : Int) - 1 ≤ N
  | [], _, _, _, _, h => absurd rfl h
  | r :: L, x, N, hc, hb, _ => by
    obtain ⟨h1, h2, h3⟩ := canon_cons.1 hc
    have hr := hb r List.mem_cons_self
    by_cases hL : L = []
    · subst hL; simp; omega
    · have := canon_few L (r.hi + 2) N h3 (fun b hb' => ⟨h2 b hb', (hb b (List.mem_cons_of_mem _ hb')).2⟩) hL
      simp
      omega
theorem canon_few16 {L : List Rg} {N : Int} (hc : Canon L) (h : ∀ r, r ∈ L → 0 ≤ r.lo ∧ r.hi < N) (hN : N ≤ 31) : L.length ≤ 16 := by
  by_cases hL : L = []
  · subst hL; simp
  · have := canon_few L 0 N hc h hL
    omega

/-- The sending side. -/
structure Sd where
  d : ByteArray
  f : Bool
  l : Int
  n : Int
  A : List Rg
  L : List Rg
structure Pt where
  o : Int
  d : ByteArray
  f : Bool
def Sd.pos (s : Sd) : Int := if s.f = true then s.d.size + 1 else s.d.size
def Pt.last (p : Pt) : Int := if p.f = true then p.o + p.d.size else p.o + p.d.size - 1
def pt0 : Pt := ⟨0, ByteArray.empty, false⟩
def sd0 : Sd := ⟨ByteArray.empty, false, 0, 0, [], []⟩
theorem pos_le (s : Sd) : (s.d.size : Int) ≤ s.pos ∧ s.pos ≤ s.d.size + 1 := by unfold Sd.pos; split <;> omega

structure SV (s : Sd) : Prop where
  len : s.d.size ≤ 30
  l0 : 0 ≤ s.l
  l1 : s.l ≤ 30
  n0 : 0 ≤ s.n
  n1 : s.n ≤ s.pos
  lim : min s.n s.d.size ≤ s.l
  a : RV s.A
  b : RV s.L
  aLt : ∀ i, memB s.A i = true → i < s.n
  bLt : ∀ i, memB s.L i = true → i < s.n
  apart : ∀ i, memB s.A i = true → memB s.L i = true → False
noncomputable def okS (s : Sd) : Bool := @decide (SV s) (Classical.propDecidable _)
theorem okS_iff {s : Sd} : okS s = true ↔ SV s := by unfold okS; exact @decide_eq_true_iff _ (Classical.propDecidable _)
theorem okS_not {s : Sd} (h : SV s → False) : okS s = false := by
  cases hb : okS s with
  | false => rfl
  | true => exact absurd (okS_iff.1 hb) h
theorem mem_hi {L : List Rg} {r : Rg} (hc : Canon L) (h : r ∈ L) : memB L r.hi = true := memB_iff.2 ⟨r, h, hc.1 r h, Int.le_refl _⟩
theorem mem_lo {L : List Rg} {r : Rg} (hc : Canon L) (h : r ∈ L) : memB L r.lo = true := memB_iff.2 ⟨r, h, Int.le_refl _, hc.1 r h⟩
theorem mem_range {L : List Rg} {i : Int} (h : ∀ r, r ∈ L → 0 ≤ r.lo ∧ r.hi ≤ 999) (hm : memB L i = true) : 0 ≤ i ∧ i ≤ 999 := by
  obtain ⟨r, hr, h1, h2⟩ := memB_iff.1 hm
  have := h r hr
  omega
theorem SV.n31 {s : Sd} (h : SV s) : s.n ≤ 31 := by have := h.n1; have := (pos_le s).2; have := h.len; omega
theorem lt_of_last {L : List Rg} {n : Int} (hc : Canon L) (hl : 0 < L.length) (h : (rth L (L.length - 1)).hi < n) {i : Int} (hm : memB L i = true) : i < n := by
  obtain ⟨r, hr, h1, h2⟩ := memB_iff.1 hm
  obtain ⟨j, hj, rfl⟩ := mem_rth hr
  rcases Nat.lt_or_ge j (L.length - 1) with e | e
  · have := canon_get hc e (by omega)
    have := hc.1 _ (rth_mem (L := L) (i := L.length - 1) (by omega))
    omega
  · obtain rfl : j = L.length - 1 := by omega
    omega

/-- A part of the positions from lo to hi. -/
def part (s : Sd) (lo hi : Int) : Pt := ⟨lo, s.d.extract lo.toNat (max lo (min (hi + 1) s.d.size)).toNat, decide (hi = s.d.size)⟩
def next (s : Sd) (k : Int) : Sd × Pt × Bool :=
  match s.L with
  | r :: _ =>
    let hi := if r.hi < s.d.size ∨ r.hi - r.lo > k then min r.hi (r.lo + k - 1) else r.hi
    ({ s with L := remove s.L r.lo hi }, part s r.lo hi, true)
  | [] =>
    let e := min (s.d.size : Int) (min s.l (s.n + k))
    let e' := if s.f = true ∧ e = s.d.size then e + 1 else e
    if e' ≤ s.n then (s, pt0, false) else ({ s with n := e' }, part s s.n (e' - 1), true)
/-- The program's way. -/
def nextI (s : Sd) (k : Int) : Sd × Pt × Bool :=
  let first : Int := match s.L with
    | r :: _ => r.lo
    | [] => s.n
  let last : Int := match s.L with
    | r :: _ => r.hi
    | [] => s.pos - 1
  let stop0 := min (last + 1) (s.d.size : Int)
  let stop : Int := match s.L with
    | _ :: _ => stop0
    | [] => min stop0 s.l
  let e := max first (min stop (first + k))
  let fin : Bool := decide (last = s.d.size ∧ e = s.d.size ∧ first ≤ last)
  if e = first ∧ fin = false then (s, pt0, false)
  else
    let p : Pt := ⟨first, s.d.extract first.toNat e.toNat, fin⟩
    match s.L with
    | _ :: _ => ({ s with L := remove s.L first p.last }, p, true)
    | [] => ({ s with n := p.last + 1 }, p, true)

theorem size_part {d : ByteArray} {a b : Int} (h0 : 0 ≤ a) (h : b ≤ d.size) (hab : a ≤ b) : ((d.extract a.toNat b.toNat).size : Int) = b - a := by
  rw [ByteArray.size_extract]
  omega
theorem SV.lost {s : Sd} (h : SV s) {r : Rg} (hr : r ∈ s.L) : 0 ≤ r.lo ∧ r.lo ≤ r.hi ∧ r.hi < s.n ∧ r.hi ≤ s.d.size := by
  have h1 := (h.b.2.2 r hr).1
  have h2 := h.b.2.1.1 r hr
  have h3 := h.bLt _ (mem_hi h.b.2.1 hr)
  have h4 := h.n1
  have h5 := pos_le s
  omega
theorem next_eq {s : Sd} {k : Int} (h : SV s) (hk : 1 ≤ k) : nextI s k = next s k := by
  obtain ⟨d, f, l, n, A, L⟩ := s
  have hn := h.n1
  have hlim := h.lim
  have hn0 := h.n0
  have hl := h.len
  have hlost := fun r hr => h.lost (r := r) hr
  clear h
  unfold Sd.pos at hn
  dsimp only at hn hlim hn0 hl hlost
  cases L with
  | cons r L =>
    obtain ⟨h1, h2, h3, h4⟩ := hlost r List.mem_cons_self
    unfold nextI next
    dsimp only
    by_cases hc : r.hi < (d.size : Int) ∨ r.hi - r.lo > k
    · rw [if_pos hc]
      have e1 : max r.lo (min (min (r.hi + 1) (d.size : Int)) (r.lo + k)) = min r.hi (r.lo + k - 1) + 1 := by omega
      have e2 : decide (r.hi = (d.size : Int) ∧ min r.hi (r.lo + k - 1) + 1 = (d.size : Int) ∧ r.lo ≤ r.hi) = false := decide_eq_false (by omega)
      rw [e1, e2, if_neg (by omega)]
      unfold part Pt.last
      dsimp only
      have e3 : max r.lo (min (min r.hi (r.lo + k - 1) + 1) (d.size : Int)) = min r.hi (r.lo + k - 1) + 1 := by omega
      have e4 : decide (min r.hi (r.lo + k - 1) = (d.size : Int)) = false := decide_eq_false (by omega)
      rw [e3, e4, if_neg (by decide), size_part h1 (by omega) (by omega), show r.lo + (min r.hi (r.lo + k - 1) + 1 - r.lo) - 1 = min r.hi (r.lo + k - 1) from by omega]
    · rw [if_neg hc]
      have e0 : r.hi = (d.size : Int) := by omega
      have e1 : max r.lo (min (min (r.hi + 1) (d.size : Int)) (r.lo + k)) = d.size := by omega
      have e2 : decide (r.hi = (d.size : Int) ∧ (d.size : Int) = (d.size : Int) ∧ r.lo ≤ r.hi) = true := decide_eq_true (by omega)
      rw [e1, e2, if_neg (by simp)]
      unfold part Pt.last
      dsimp only
      have e3 : max r.lo (min (r.hi + 1) (d.size : Int)) = d.size := by omega
      have e4 : decide (r.hi = (d.size : Int)) = true := decide_eq_true e0
      rw [e3, e4, if_pos rfl, size_part h1 (by omega) (by omega), show r.lo + ((d.size : Int) - r.lo) = r.hi from by omega]
  | nil =>
    unfold nextI next Sd.pos
    dsimp only
    cases f with
    | true =>
      simp only [if_true, true_and] at hn ⊢
      rw [show min ((d.size : Int) + 1 - 1 + 1) (d.size : Int) = d.size from by omega]
      by_cases hE : min (d.size : Int) (min l (n + k)) = (d.size : Int)
      · rw [if_pos hE]
        have e1 : max n (min (min (d.size : Int) l) (n + k)) = max n d.size := by omega
        rw [e1, hE]
        by_cases hnd : n ≤ d.size
        · have e2 : decide ((d.size : Int) + 1 - 1 = (d.size : Int) ∧ max n (d.size : Int) = (d.size : Int) ∧ n ≤ (d.size : Int) + 1 - 1) = true := decide_eq_true (by omega)
          rw [e2, if_neg (by simp), if_neg (by omega)]
          unfold part Pt.last
          dsimp only
          have e3 : decide ((d.size : Int) + 1 - 1 = (d.size : Int)) = true := decide_eq_true (by omega)
          rw [e3, if_pos rfl, size_part hn0 (by omega) (by omega), show n + (max n (d.size : Int) - n) + 1 = (d.size : Int) + 1 from by omega, show max n (min ((d.size : Int) + 1 - 1 + 1) (d.size : Int)) = max n d.size from by omega]
        · have e2 : decide ((d.size : Int) + 1 - 1 = (d.size : Int) ∧ max n (d.size : Int) = (d.size : Int) ∧ n ≤ (d.size : Int) + 1 - 1) = false := decide_eq_false (by omega)
          rw [e2, if_pos ⟨by omega, rfl⟩, if_pos (by omega)]
      · rw [if_neg hE]
        have e2 : decide ((d.size : Int) + 1 - 1 = (d.size : Int) ∧ max n (min (min (d.size : Int) l) (n + k)) = (d.size : Int) ∧ n ≤ (d.size : Int) + 1 - 1) = false := decide_eq_false (by omega)
        rw [e2]
        by_cases he : min (d.size : Int) (min l (n + k)) ≤ n
        · rw [if_pos ⟨by omega, rfl⟩, if_pos he]
        · rw [if_neg (by omega), if_neg he]
          unfold part Pt.last
          dsimp only
          have e3 : decide (min (d.size : Int) (min l (n + k)) - 1 = (d.size : Int)) = false := decide_eq_false (by omega)
          have e4 : max n (min (min (d.size : Int) l) (n + k)) = min (d.size : Int) (min l (n + k)) := by omega
          have e5 : max n (min (min (d.size : Int) (min l (n + k)) - 1 + 1) (d.size : Int)) = min (d.size : Int) (min l (n + k)) := by omega
          rw [e4, e5, e3, if_neg (by decide), size_part hn0 (by omega) (by omega), show n + (min (d.size : Int) (min l (n + k)) - n) - 1 + 1 = min (d.size : Int) (min l (n + k)) from by omega]
    | false =>
      simp only [Bool.false_eq_true, if_false, false_and] at hn ⊢
      have e2 : decide ((d.size : Int) - 1 = (d.size : Int) ∧ max n (min (min (min ((d.size : Int) - 1 + 1) (d.size : Int)) l) (n + k)) = (d.size : Int) ∧ n ≤ (d.size : Int) - 1) = false := decide_eq_false (by omega)
      rw [e2]
      by_cases he : min (d.size : Int) (min l (n + k)) ≤ n
      · rw [if_pos ⟨by omega, rfl⟩, if_pos he]
      · rw [if_neg (by omega), if_neg he]
        unfold part Pt.last
        dsimp only
        have e3 : decide (min (d.size : Int) (min l (n + k)) - 1 = (d.size : Int)) = false := decide_eq_false (by omega)
        have e4 : max n (min (min (min ((d.size : Int) - 1 + 1) (d.size : Int)) l) (n + k)) = min (d.size : Int) (min l (n + k)) := by omega
        have e5 : max n (min (min (d.size : Int) (min l (n + k)) - 1 + 1) (d.size : Int)) = min (d.size : Int) (min l (n + k)) := by omega
        rw [e4, e5, e3, if_neg (by decide), size_part hn0 (by omega) (by omega), show n + (min (d.size : Int) (min l (n + k)) - n) - 1 + 1 = min (d.size : Int) (min l (n + k)) from by omega]

/-- The part was sent. -/
structure Sent (s : Sd) (p : Pt) : Prop where
  o0 : 0 ≤ p.o
  o1 : p.o ≤ 30
  lo : p.o ≤ p.last
  hi : p.last < s.n
  fit : p.o + p.d.size ≤ s.d.size
  data : s.d.extract p.o.toNat (p.o.toNat + p.d.size) = p.d
  fin : p.f = true → s.f = true ∧ p.o + p.d.size = s.d.size
noncomputable def sentB (s : Sd) (p : Pt) : Bool := @decide (Sent s p) (Classical.propDecidable _)
theorem sentB_iff {s : Sd} {p : Pt} : sentB s p = true ↔ Sent s p := by unfold sentB; exact @decide_eq_true_iff _ (Classical.propDecidable _)
theorem sentB_not {s : Sd} {p : Pt} (h : Sent s p → False) : sentB s p = false := by
  cases hb : sentB s p with
  | false => rfl
  | true => exact absurd (sentB_iff.1 hb) h
def ack (s : Sd) (p : Pt) : Sd := { s with A := add s.A p.o p.last, L := remove s.L p.o p.last }
/-- The positions from i on, m of them, that were not acknowledged are lost. -/
def lose (A : List Rg) : Nat → Int → List Rg → List Rg
  | 0, _, L => L
  | m + 1, i, L => lose A m (i + 1) (if memB A i = true then L else add L i i)
def loss (s : Sd) (p : Pt) : Sd := { s with L := lose s.A (p.last + 1 - p.o).toNat p.o s.L }

theorem lose_canon (A : List Rg) : ∀ (m : Nat) (i : Int) (L : List Rg), Canon L →
    Canon (lose A m i L) ∧ ∀ x, memB (lose A m i L) x = (memB L x || (decide (i ≤ x ∧ x < i + m) && !memB A x))
  | 0, i, L, hc => ⟨hc, fun x => by
      show memB L x = _
      rw [decide_eq_false (by omega)]
      simp⟩
  | m + 1, i, L, hc => by
    unfold lose
    by_cases ha : memB A i = true
    · rw [if_pos ha]
      obtain ⟨h1, h2⟩ := lose_canon A m (i + 1) L hc
      refine ⟨h1, fun x => ?_⟩
      rw [h2]
      congr 1
      by_cases hx : x = i
      · subst hx; rw [ha]; simp
      · congr 1
        rw [Bool.eq_iff_iff, decide_eq_true_iff, decide_eq_true_iff]
        omega
    · rw [if_neg ha]
      obtain ⟨c1, c2, _⟩ := add_canon L i i hc (Int.le_refl _)
      obtain ⟨h1, h2⟩ := lose_canon A m (i + 1) _ c1
      refine ⟨h1, fun x => ?_⟩
      rw [h2, c2]
      by_cases hx : x = i
      · subst hx
        have : memB A x = false := by simpa using ha
        rw [this, decide_eq_true (show x ≤ x ∧ x ≤ x from by omega), decide_eq_true (show x ≤ x ∧ x < x + ((m + 1 : Nat) : Int) from by omega)]
        simp
      · rw [decide_eq_false (show ¬ (i ≤ x ∧ x ≤ i) from by omega), Bool.false_or]
        congr 2
        rw [Bool.eq_iff_iff, decide_eq_true_iff, decide_eq_true_iff]
        omega

theorem rv_below {L : List Rg} {n : Int} (hc : Canon L) (h : ∀ i, memB L i = true → 0 ≤ i ∧ i < n) (hn : n ≤ 31) : RV L := by
  have hb : ∀ r, r ∈ L → 0 ≤ r.lo ∧ r.hi < n := fun r hr => ⟨(h _ (mem_lo hc hr)).1, (h _ (mem_hi hc hr)).2⟩
  exact ⟨canon_few16 hc hb hn, hc, fun r hr => ⟨(hb r hr).1, by have := (hb r hr).2; omega⟩⟩
theorem mem0 {L : List Rg} (h : RV L) {i : Int} (hm : memB L i = true) : 0 ≤ i := (mem_range h.2.2 hm).1

theorem SV.ack {s : Sd} {p : Pt} (h : SV s) (hp : Sent s p) : SV (ack s p) := by
  obtain ⟨a1, a2, _⟩ := add_canon s.A p.o p.last h.a.2.1 hp.lo
  obtain ⟨b1, b2, _⟩ := remove_canon (lo := p.o) (hi := p.last) h.b.2.1 hp.lo
  have hn := h.n31
  have ha : ∀ i, memB (add s.A p.o p.last) i = true → 0 ≤ i ∧ i < s.n := fun i hi => by
    rw [a2, Bool.or_eq_true, decide_eq_true_iff] at hi
    rcases hi with e | e
    · have := hp.o0; have := hp.hi; omega
    · exact ⟨mem0 h.a e, h.aLt i e⟩
  have hb : ∀ i, memB (remove s.L p.o p.last) i = true → 0 ≤ i ∧ i < s.n := fun i hi => by
    rw [b2, Bool.and_eq_true] at hi
    exact ⟨mem0 h.b hi.1, h.bLt i hi.1⟩
  exact ⟨h.len, h.l0, h.l1, h.n0, h.n1, h.lim, rv_below a1 ha hn, rv_below b1 hb hn, fun i hi => (ha i hi).2, fun i hi => (hb i hi).2, fun i h1 h2 => by
    replace h1 : memB (add s.A p.o p.last) i = true := h1
    replace h2 : memB (remove s.L p.o p.last) i = true := h2
    rw [a2, Bool.or_eq_true] at h1
    rw [b2, Bool.and_eq_true] at h2
    rcases h1 with e | e
    · rw [e] at h2; exact absurd h2.2 (by decide)
    · exact h.apart i e h2.1⟩
theorem SV.loss {s : Sd} {p : Pt} (h : SV s) (hp : Sent s p) : SV (loss s p) := by
  obtain ⟨b1, b2⟩ := lose_canon s.A (p.last + 1 - p.o).toNat p.o s.L h.b.2.1
  have hn := h.n31
  have h1 := hp.o0
  have h2 := hp.hi
  have h3 := hp.lo
  have hb : ∀ i, memB (lose s.A (p.last + 1 - p.o).toNat p.o s.L) i = true → 0 ≤ i ∧ i < s.n := fun i hi => by
    rw [b2, Bool.or_eq_true, Bool.and_eq_true, decide_eq_true_iff] at hi
    rcases hi with e | e
    · exact ⟨mem0 h.b e, h.bLt i e⟩
    · omega
  exact ⟨h.len, h.l0, h.l1, h.n0, h.n1, h.lim, h.a, rv_below b1 hb hn, h.aLt, fun i hi => (hb i hi).2, fun i h1 h2 => by
    replace h2 : memB (lose s.A (p.last + 1 - p.o).toNat p.o s.L) i = true := h2
    rw [b2, Bool.or_eq_true, Bool.and_eq_true] at h2
    rcases h2 with e | e
    · exact h.apart i h1 e
    · rw [show memB s.A i = true from h1] at e; exact absurd e.2 (by decide)⟩

end Go.Proofs.Ytmkmaeblnnfheab
