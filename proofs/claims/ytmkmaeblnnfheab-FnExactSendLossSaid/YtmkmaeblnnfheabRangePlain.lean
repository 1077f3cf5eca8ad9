/- Plain facts on sets of numbers as lists of ranges: membership, lists that are ascending and apart, adding and removing. No program in sight. -/
import Derived.WalkKit
import Derived.Lib.Hide
namespace Go.Proofs.Ytmkmaeblnnfheab
open Go.RowKit

/-- The numbers from lo to hi. -/
structure Rg where
  lo : Int
  hi : Int

def inB (r : Rg) (n : Int) : Bool := decide (r.lo ≤ n ∧ n ≤ r.hi)
def memB (L : List Rg) (n : Int) : Bool := L.any fun r => inB r n
def Canon (L : List Rg) : Prop := (∀ r, r ∈ L → r.lo ≤ r.hi) ∧ L.Pairwise fun a b => a.hi + 2 ≤ b.lo

theorem inB_iff {r : Rg} {n : Int} : inB r n = true ↔ r.lo ≤ n ∧ n ≤ r.hi := by unfold inB; simp
theorem memB_nil (n : Int) : memB [] n = false := rfl
theorem memB_cons (r : Rg) (L : List Rg) (n : Int) : memB (r :: L) n = (inB r n || memB L n) := rfl
theorem memB_append (A B : List Rg) (n : Int) : memB (A ++ B) n = (memB A n || memB B n) := by unfold memB; exact List.any_append
theorem memB_iff {L : List Rg} {n : Int} : memB L n = true ↔ ∃ r, r ∈ L ∧ r.lo ≤ n ∧ n ≤ r.hi := by
  unfold memB
  rw [List.any_eq_true]
  exact ⟨fun ⟨r, h1, h2⟩ => ⟨r, h1, inB_iff.1 h2⟩, fun ⟨r, h1, h2⟩ => ⟨r, h1, inB_iff.2 h2⟩⟩
theorem canon_nil : Canon [] := ⟨fun _ h => by simp at h, List.Pairwise.nil⟩
theorem canon_cons {r : Rg} {L : List Rg} : Canon (r :: L) ↔ r.lo ≤ r.hi ∧ (∀ b, b ∈ L → r.hi + 2 ≤ b.lo) ∧ Canon L := by
  unfold Canon
  rw [List.pairwise_cons]
  constructor
  · rintro ⟨h1, h2, h3⟩
    exact ⟨h1 r List.mem_cons_self, h2, fun x hx => h1 x (List.mem_cons_of_mem _ hx), h3⟩
  · rintro ⟨h1, h2, h3, h4⟩
    refine ⟨fun x hx => ?_, h2, h4⟩
    rcases List.mem_cons.1 hx with e | e
    · rw [e]; exact h1
    · exact h3 x e
theorem mem_after {r : Rg} {L : List Rg} {n : Int} (h : ∀ b, b ∈ L → r.hi + 2 ≤ b.lo) (hm : memB L n = true) : r.hi + 2 ≤ n := by
  obtain ⟨b, hb, h1, _⟩ := memB_iff.1 hm
  have := h b hb
  omega

/-- A set has one such list. -/
theorem canon_unique : ∀ A B : List Rg, Canon A → Canon B → (∀ n, memB A n = memB B n) → A = B
  | [], [], _, _, _ => rfl
  | [], b :: B, _, hB, h => by
    have hb := (canon_cons.1 hB).1
    have := h b.lo
    rw [memB_nil, memB_cons, inB_iff.2 ⟨Int.le_refl _, hb⟩] at this
    cases this
  | a :: A, [], hA, _, h => by
    have ha := (canon_cons.1 hA).1
    have := h a.lo
    rw [memB_nil, memB_cons, inB_iff.2 ⟨Int.le_refl _, ha⟩] at this
    cases this
  | a :: A, b :: B, hA, hB, h => by
    obtain ⟨ha, sa, cA⟩ := canon_cons.1 hA
    obtain ⟨hb, sb, cB⟩ := canon_cons.1 hB
    have up : ∀ (x y : Rg) (X Y : List Rg), x.lo ≤ x.hi → (∀ c, c ∈ Y → y.hi + 2 ≤ c.lo) → y.lo ≤ y.hi → (∀ n, memB (x :: X) n = memB (y :: Y) n) → y.lo ≤ x.lo := by
      intro x y X Y hx sy hy hh
      have := hh x.lo
      rw [memB_cons, inB_iff.2 ⟨Int.le_refl _, hx⟩, memB_cons] at this
      simp only [Bool.true_or] at this
      rcases Bool.or_eq_true _ _ ▸ this.symm with e | e
      · have := inB_iff.1 e; omega
      · have := mem_after sy e; omega
    have hlo : a.lo = b.lo := by
      have h1 := up a b A B ha sb hb h
      have h2 := up b a B A hb sa ha fun n => (h n).symm
      omega
    have uph : ∀ (x y : Rg) (X Y : List Rg), x.lo ≤ x.hi → (∀ c, c ∈ X → x.hi + 2 ≤ c.lo) → x.lo = y.lo → (∀ n, memB (x :: X) n = memB (y :: Y) n) → y.hi ≤ x.hi := by
      intro x y X Y hx sx he hh
      rcases Int.lt_or_le x.hi y.hi with hlt | hle
      · have := hh (x.hi + 1)
        rw [memB_cons, memB_cons, (inB_iff.2 ⟨by omega, by omega⟩ : inB y (x.hi + 1) = true)] at this
        simp only [Bool.true_or] at this
        rcases Bool.or_eq_true _ _ ▸ this with e | e
        · have := inB_iff.1 e; omega
        · have := mem_after sx e; omega
      · exact hle
    have hhi : a.hi = b.hi := by
      have h1 := uph a b A B ha sa hlo h
      have h2 := uph b a B A hb sb hlo.symm fun n => (h n).symm
      omega
    have hab : a = b := by cases a; cases b; simp_all
    subst hab
    rw [canon_unique A B cA cB fun n => by
      have := h n
      rw [memB_cons, memB_cons] at this
      cases hi : inB a n with
      | false => rw [hi] at this; simpa using this
      | true =>
        have hi' := inB_iff.1 hi
        have f1 : ∀ X : List Rg, (∀ c, c ∈ X → a.hi + 2 ≤ c.lo) → memB X n = false := fun X sX => by
          cases hm : memB X n with
          | false => rfl
          | true => have := mem_after sX hm; omega
        rw [f1 A sa, f1 B sb]]

/-- One range into a list: the reference's step. The state: what is out, the range, whether it is out. -/
structure Ad where
  out : List Rg
  lo : Int
  hi : Int
  put : Bool
def adStep (s : Ad) (r : Rg) : Ad :=
  if r.hi < s.lo - 1 then { s with out := s.out ++ [r] }
  else if r.lo > s.hi + 1 then
    if s.put = true then { s with out := s.out ++ [r] } else ⟨s.out ++ [⟨s.lo, s.hi⟩] ++ [r], s.lo, s.hi, true⟩
  else { s with lo := min s.lo r.lo, hi := max s.hi r.hi }
def adEnd (s : Ad) : List Rg := if s.put = true then s.out else s.out ++ [⟨s.lo, s.hi⟩]
def specAdd (L : List Rg) (lo hi : Int) : List Rg := adEnd (L.foldl adStep ⟨[], lo, hi, false⟩)

/-- The program's way: what lies before; what touches, in one range; the rest. -/
def addMerge : List Rg → Int → Int → List Rg
  | [], lo, hi => [⟨lo, hi⟩]
  | r :: L, lo, hi => if r.lo ≤ hi + 1 then addMerge L (min lo r.lo) (max hi r.hi) else ⟨lo, hi⟩ :: r :: L
def add : List Rg → Int → Int → List Rg
  | [], lo, hi => [⟨lo, hi⟩]
  | r :: L, lo, hi => if r.hi + 1 < lo then r :: add L lo hi else addMerge (r :: L) lo hi

theorem put_rest : ∀ (L : List Rg) (O : List Rg) (lo hi : Int), (∀ b, b ∈ L → hi + 1 < b.lo) → adEnd (L.foldl adStep ⟨O, lo, hi, true⟩) = O ++ L
  | [], O, lo, hi, _ => by simp [adEnd]
  | r :: L, O, lo, hi, h => by
    have hr := h r List.mem_cons_self
    have e : adStep ⟨O, lo, hi, true⟩ r = ⟨O ++ [r], lo, hi, true⟩ := by
      unfold adStep
      dsimp only
      by_cases h1 : r.hi < lo - 1
      · rw [if_pos h1]
      · rw [if_neg h1, if_pos (by omega), if_pos rfl]
    rw [List.foldl_cons, e, put_rest L _ lo hi fun b hb => h b (List.mem_cons_of_mem _ hb)]
    simp
theorem merge_rest : ∀ (L : List Rg) (O : List Rg) (lo hi : Int), Canon L → (∀ b, b ∈ L → lo ≤ b.hi + 1) → adEnd (L.foldl adStep ⟨O, lo, hi, false⟩) = O ++ addMerge L lo hi
  | [], O, lo, hi, _, _ => by simp [adEnd, addMerge]
  | r :: L, O, lo, hi, hc, h => by
    obtain ⟨h1, h2, h3⟩ := canon_cons.1 hc
    have hr := h r List.mem_cons_self
    rw [List.foldl_cons]
    unfold addMerge
    by_cases hm : r.lo ≤ hi + 1
    · have e : adStep ⟨O, lo, hi, false⟩ r = ⟨O, min lo r.lo, max hi r.hi, false⟩ := by
        unfold adStep
        dsimp only
        rw [if_neg (by omega), if_neg (by omega)]
      rw [e, if_pos hm, merge_rest L O _ _ h3 fun b hb => by have := h b (List.mem_cons_of_mem _ hb); omega]
    · have e : adStep ⟨O, lo, hi, false⟩ r = ⟨O ++ [⟨lo, hi⟩] ++ [r], lo, hi, true⟩ := by
        unfold adStep
        dsimp only
        rw [if_neg (by omega), if_pos (by omega), if_neg (by decide)]
      rw [e, if_neg hm, put_rest L _ lo hi fun b hb => by have := h2 b hb; omega]
      simp
theorem spec_add_aux : ∀ (L : List Rg) (O : List Rg) (lo hi : Int), Canon L → lo ≤ hi → adEnd (L.foldl adStep ⟨O, lo, hi, false⟩) = O ++ add L lo hi
  | [], O, lo, hi, _, _ => by simp [adEnd, add]
  | r :: L, O, lo, hi, hc, hl => by
    obtain ⟨h1, h2, h3⟩ := canon_cons.1 hc
    unfold add
    by_cases hb : r.hi + 1 < lo
    · have e : adStep ⟨O, lo, hi, false⟩ r = ⟨O ++ [r], lo, hi, false⟩ := by
        unfold adStep
        dsimp only
        rw [if_pos (by omega)]
      rw [List.foldl_cons, e, if_pos hb, spec_add_aux L _ lo hi h3 hl]
      simp
    · rw [if_neg hb]
      refine merge_rest (r :: L) O lo hi hc fun b hb' => ?_
      rcases List.mem_cons.1 hb' with e | e
      · rw [e]; omega
      · have := h2 b e
        have := h3.1 b e
        omega
theorem spec_add {L : List Rg} {lo hi : Int} (hc : Canon L) (hl : lo ≤ hi) : specAdd L lo hi = add L lo hi := by
  unfold specAdd
  rw [spec_add_aux L [] lo hi hc hl]
  rfl

theorem addMerge_canon : ∀ (L : List Rg) (lo hi : Int), Canon L → lo ≤ hi → (∀ b, b ∈ L → lo ≤ b.hi + 1) →
    Canon (addMerge L lo hi) ∧ (∀ n, memB (addMerge L lo hi) n = ((decide (lo ≤ n ∧ n ≤ hi)) || memB L n)) ∧ (∀ x : Int, x + 2 ≤ lo → (∀ b, b ∈ L → x + 2 ≤ b.lo) → ∀ b, b ∈ addMerge L lo hi → x + 2 ≤ b.lo)
  | [], lo, hi, _, hl, _ => by
    refine ⟨canon_cons.2 ⟨hl, fun _ h => by simp at h, canon_nil⟩, fun n => rfl, fun x h1 _ b hb => ?_⟩
    have : b = ⟨lo, hi⟩ := by simpa [addMerge] using hb
    rw [this]
    exact h1
  | r :: L, lo, hi, hc, hl, h => by
    obtain ⟨h1, h2, h3⟩ := canon_cons.1 hc
    have hr := h r List.mem_cons_self
    unfold addMerge
    by_cases hm : r.lo ≤ hi + 1
    · rw [if_pos hm]
      obtain ⟨a1, a2, a3⟩ := addMerge_canon L (min lo r.lo) (max hi r.hi) h3 (by omega) fun b hb => by have := h b (List.mem_cons_of_mem _ hb); omega
      refine ⟨a1, fun n => ?_, fun x hx hb => a3 x (by have := hb r List.mem_cons_self; omega) fun b hb' => hb b (List.mem_cons_of_mem _ hb')⟩
      rw [a2, memB_cons, ← Bool.or_assoc]
      congr 1
      unfold inB
      rw [Bool.eq_iff_iff]
      simp
      omega
    · rw [if_neg hm]
      refine ⟨canon_cons.2 ⟨hl, fun b hb => ?_, hc⟩, fun n => rfl, fun x hx hb b hb' => ?_⟩
      · rcases List.mem_cons.1 hb with e | e
        · rw [e]; show hi + 2 ≤ r.lo; omega
        · have := h2 b e; show hi + 2 ≤ b.lo; omega
      · rcases List.mem_cons.1 hb' with e | e
        · rw [e]; exact hx
        · exact hb b e
theorem add_canon : ∀ (L : List Rg) (lo hi : Int), Canon L → lo ≤ hi →
    Canon (add L lo hi) ∧ (∀ n, memB (add L lo hi) n = ((decide (lo ≤ n ∧ n ≤ hi)) || memB L n)) ∧ (∀ x : Int, x + 2 ≤ lo → (∀ b, b ∈ L → x + 2 ≤ b.lo) → ∀ b, b ∈ add L lo hi → x + 2 ≤ b.lo)
  | [], lo, hi, _, hl => addMerge_canon [] lo hi canon_nil hl fun _ h => by simp at h
  | r :: L, lo, hi, hc, hl => by
    obtain ⟨h1, h2, h3⟩ := canon_cons.1 hc
    unfold add
    by_cases hb : r.hi + 1 < lo
    · rw [if_pos hb]
      obtain ⟨a1, a2, a3⟩ := add_canon L lo hi h3 hl
      refine ⟨canon_cons.2 ⟨h1, a3 r.hi (by omega) h2, a1⟩, fun n => ?_, fun x hx hh b hb' => ?_⟩
      · rw [memB_cons, a2, memB_cons]
        cases inB r n <;> cases decide (lo ≤ n ∧ n ≤ hi) <;> rfl
      · rcases List.mem_cons.1 hb' with e | e
        · rw [e]; exact hh r List.mem_cons_self
        · exact a3 x hx (fun c hc' => hh c (List.mem_cons_of_mem _ hc')) b e
    · rw [if_neg hb]
      refine addMerge_canon (r :: L) lo hi hc hl fun b hb' => ?_
      rcases List.mem_cons.1 hb' with e | e
      · rw [e]; omega
      · have := h2 b e
        have := h3.1 b e
        omega

/-- What is left of one range when the numbers from lo to hi go. -/
def cut1 (r : Rg) (lo hi : Int) : List Rg := (if r.lo < lo then [⟨r.lo, min r.hi (lo - 1)⟩] else []) ++ (if r.hi > hi then [⟨max r.lo (hi + 1), r.hi⟩] else [])
def remove (L : List Rg) (lo hi : Int) : List Rg := L.flatMap fun r => cut1 r lo hi
theorem cut1_canon {r : Rg} {lo hi : Int} (hr : r.lo ≤ r.hi) (hl : lo ≤ hi) :
    Canon (cut1 r lo hi) ∧ (∀ n, memB (cut1 r lo hi) n = (inB r n && !decide (lo ≤ n ∧ n ≤ hi))) ∧ ∀ b, b ∈ cut1 r lo hi → r.lo ≤ b.lo ∧ b.hi ≤ r.hi := by
  unfold cut1
  by_cases h1 : r.lo < lo <;> by_cases h2 : r.hi > hi
  · rw [if_pos h1, if_pos h2]
    refine ⟨canon_cons.2 ⟨by dsimp only; omega, fun b hb => ?_, canon_cons.2 ⟨by dsimp only; omega, fun _ h => by simp at h, canon_nil⟩⟩, fun n => ?_, fun b hb => ?_⟩
    · have : b = ⟨max r.lo (hi + 1), r.hi⟩ := by simpa using hb
      rw [this]; dsimp only; omega
    · show (inB _ n || (inB _ n || false)) = _
      unfold inB
      rw [Bool.eq_iff_iff]
      simp
      omega
    · rcases List.mem_cons.1 hb with e | e
      · rw [e]; dsimp only; omega
      · have : b = ⟨max r.lo (hi + 1), r.hi⟩ := by simpa using e
        rw [this]; dsimp only; omega
  · rw [if_pos h1, if_neg h2]
    refine ⟨canon_cons.2 ⟨by dsimp only; omega, fun _ h => by simp at h, canon_nil⟩, fun n => ?_, fun b hb => ?_⟩
    · show (inB _ n || false) = _
      unfold inB
      rw [Bool.eq_iff_iff]
      simp
      omega
    · have : b = ⟨r.lo, min r.hi (lo - 1)⟩ := by simpa using hb
      rw [this]; dsimp only; omega
  · rw [if_neg h1, if_pos h2]
    refine ⟨canon_cons.2 ⟨by dsimp only; omega, fun _ h => by simp at h, canon_nil⟩, fun n => ?_, fun b hb => ?_⟩
    · show (inB _ n || false) = _
      unfold inB
      rw [Bool.eq_iff_iff]
      simp
      omega
    · have : b = ⟨max r.lo (hi + 1), r.hi⟩ := by simpa using hb
      rw [this]; dsimp only; omega
  · rw [if_neg h1, if_neg h2]
    refine ⟨canon_nil, fun n => ?_, fun b hb => by simp at hb⟩
    show false = _
    unfold inB
    rw [Bool.eq_iff_iff]
    simp
    omega
theorem canon_append {A B : List Rg} (hA : Canon A) (hB : Canon B) (h : ∀ a, a ∈ A → ∀ b, b ∈ B → a.hi + 2 ≤ b.lo) : Canon (A ++ B) :=
  ⟨fun r hr => (List.mem_append.1 hr).elim (hA.1 r) (hB.1 r), List.pairwise_append.2 ⟨hA.2, hB.2, h⟩⟩
theorem remove_canon : ∀ {L : List Rg} {lo hi : Int}, Canon L → lo ≤ hi →
    Canon (remove L lo hi) ∧ (∀ n, memB (remove L lo hi) n = (memB L n && !decide (lo ≤ n ∧ n ≤ hi))) ∧ ∀ b, b ∈ remove L lo hi → ∃ r, r ∈ L ∧ r.lo ≤ b.lo ∧ b.hi ≤ r.hi
  | [], _, _, _, _ => ⟨canon_nil, fun _ => rfl, fun _ h => by simp [remove] at h⟩
  | r :: L, lo, hi, hc, hl => by
    obtain ⟨h1, h2, h3⟩ := canon_cons.1 hc
    obtain ⟨a1, a2, a3⟩ := remove_canon (L := L) h3 hl
    obtain ⟨b1, b2, b3⟩ := cut1_canon (r := r) h1 hl
    have e : remove (r :: L) lo hi = cut1 r lo hi ++ remove L lo hi := by unfold remove; simp
    rw [e]
    refine ⟨canon_append b1 a1 fun a ha b hb => ?_, fun n => ?_, fun b hb => ?_⟩
    · obtain ⟨x, hx, hx1, _⟩ := a3 b hb
      have := b3 a ha
      have := h2 x hx
      omega
    · rw [memB_append, b2, a2, memB_cons]
      cases inB r n <;> cases memB L n <;> cases decide (lo ≤ n ∧ n ≤ hi) <;> rfl
    · rcases List.mem_append.1 hb with h | h
      · exact ⟨r, List.mem_cons_self, b3 b h⟩
      · obtain ⟨x, hx, hx'⟩ := a3 b h
        exact ⟨x, List.mem_cons_of_mem _ hx, hx'⟩

end Go.Proofs.Ytmkmaeblnnfheab
