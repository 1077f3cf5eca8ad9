/- Ranges in memory: two cells each. -/
import Derived.Test.YtmkmaeblnnfheabRowMem
import Derived.Test.YtmkmaeblnnfheabSendPlain
import Derived.Test.YtmkmaeblnnfheabChecked
namespace Go.Proofs.Ytmkmaeblnnfheab
open Go.RowKit

theorem info_rng : (Try.prog.info? 51).map (fun i => (i.zero, i.size, i.bytes)) = some (some (.agg #[.int .i64 0, .int .i64 0]), 2, 16) := by kernel_rfl
theorem info_parts {T : TypeId} {z : Value} {k b : Nat} (h : (Try.prog.info? T).map (fun i => (i.zero, i.size, i.bytes)) = some (some z, k, b)) : ∃ i0, Try.prog.info? T = some i0 ∧ i0.zero = some z ∧ i0.size = k ∧ i0.bytes = b := by
  rcases hx : Try.prog.info? T with _ | i
  · rw [hx] at h; cases h
  · rw [hx] at h
    injection h with h
    injection h with h1 h2
    injection h2 with h2 h3
    exact ⟨i, rfl, h1, h2, h3⟩

def rcells (L : List Rg) : List Value := L.flatMap fun o => [.int .i64 o.lo, .int .i64 o.hi]
theorem rcells_cons (o : Rg) (L : List Rg) : rcells (o :: L) = .int .i64 o.lo :: .int .i64 o.hi :: rcells L := by unfold rcells; simp
theorem rcells_append (L M : List Rg) : rcells (L ++ M) = rcells L ++ rcells M := by unfold rcells; simp
theorem rcells_len : ∀ L : List Rg, (rcells L).length = L.length * 2
  | [] => rfl
  | o :: L => by rw [rcells_cons]; simp [rcells_len L]; omega
theorem rcells_at : ∀ {L : List Rg} {i : Nat}, i < L.length → (rcells L)[i * 2]? = some (.int .i64 (rth L i).lo) ∧ (rcells L)[i * 2 + 1]? = some (.int .i64 (rth L i).hi)
  | [], i, h => by simp at h
  | o :: L, 0, _ => by rw [rcells_cons]; exact ⟨rfl, rfl⟩
  | o :: L, i + 1, h => by
    have ih := rcells_at (L := L) (i := i) (by simpa using h)
    have e : rth (o :: L) (i + 1) = rth L i := rfl
    rw [rcells_cons, e, show (i + 1) * 2 = i * 2 + 1 + 1 from by omega]
    exact ih
theorem rcells_one (L : List Rg) : ∀ u, u ∈ rcells L → u.oneCell' = true := by
  induction L with
  | nil => intro u hu; simp [rcells] at hu
  | cons c L ih =>
    intro u hu
    rw [rcells_cons] at hu
    rcases List.mem_cons.1 hu with rfl | hu
    · rfl
    rcases List.mem_cons.1 hu with rfl | hu
    · rfl
    exact ih u hu
theorem rcells_drop : ∀ (L : List Rg) (k : Nat), (rcells L).drop (k * 2) = rcells (L.drop k)
  | L, 0 => by simp
  | [], k + 1 => by simp [rcells]
  | o :: L, k + 1 => by
    rw [rcells_cons, show (k + 1) * 2 = k * 2 + 1 + 1 from by omega]
    simpa using rcells_drop L k
theorem rth_drop {L : List Rg} {k i : Nat} (h : k + i < L.length) : rth (L.drop k) i = rth L (k + i) := by
  rw [rth_eq h, rth_eq (by rw [List.length_drop]; omega)]
  simp

/-- The slice at A of n ranges reads L. -/
def RngAt (w : World) (A : Option Addr) (n : Nat) (L : List Rg) : Prop :=
  L.length = n ∧ (0 < n → ∃ b off, A = some ⟨b, off, none⟩ ∧ b < w.heap.size ∧ ∀ i, i < n → w.cell? ⟨b, off + i * 2, none⟩ = some (.int .i64 (rth L i).lo) ∧ w.cell? ⟨b, off + i * 2 + 1, none⟩ = some (.int .i64 (rth L i).hi))
theorem RngAt.below {w w' : World} {A : Option Addr} {n : Nat} {L : List Rg} (h : RngAt w A n L) (hb : Below w.heap.size w w') : RngAt w' A n L :=
  ⟨h.1, fun hn => by
    obtain ⟨b, off, rfl, hlt, hc⟩ := h.2 hn
    refine ⟨b, off, rfl, Nat.lt_of_lt_of_le hlt hb.size, fun i hi => ?_⟩
    obtain ⟨h0, h1⟩ := hc i hi
    exact ⟨(hb.cell (p := ⟨b, _, none⟩) hlt).trans h0, (hb.cell (p := ⟨b, _, none⟩) hlt).trans h1⟩⟩
theorem RngAt.nil (w : World) (A : Option Addr) : RngAt w A 0 [] := ⟨rfl, fun h => by omega⟩
theorem RngAt.alloc {w : World} {A : Option Addr} {n : Nat} {L : List Rg} (h : RngAt w A n L) (o : Obj) : RngAt (w.alloc o) A n L := h.below ((Below.refl _ _).alloc (Nat.le_refl _) o)
theorem RngAt.drew {w : World} {A : Option Addr} {n : Nat} {L : List Rg} (h : RngAt w A n L) : RngAt w.drew A n L := h

def RngIn (w : World) (B S : Nat) (A : Option Addr) (n c : Nat) (L : List Rg) : Prop := L.length = n ∧ RowIn 51 2 w B S A n c (rcells L)
section
variable {w w' : World} {B S B' S' : Nat} {A : Option Addr} {n c : Nat} {L : List Rg}
theorem RngIn.cap (h : RngIn w B S A n c L) : n ≤ c ∧ c ≤ maxLen := h.2.cap
theorem RngIn.touch (h : RngIn w B S A n c L) (t : Touch w w' B' S') (hd : S ≤ B' ∨ S' ≤ B) : RngIn w' B S A n c L := ⟨h.1, h.2.touch t hd⟩
theorem RngIn.below (h : RngIn w B S A n c L) (hb : Below w.heap.size w w') : RngIn w' B S A n c L := ⟨h.1, h.2.below hb⟩
theorem RngIn.alloc (h : RngIn w B S A n c L) (o : Obj) : RngIn (w.alloc o) B S A n c L := ⟨h.1, h.2.alloc o⟩
theorem RngIn.drew (h : RngIn w B S A n c L) : RngIn w.drew B S A n c L := h
theorem RngIn.drewN (h : RngIn w B S A n c L) (m : Nat) : RngIn (w.drewN m) B S A n c L := h
theorem RngIn.mono (h : RngIn w B S A n c L) (h1 : B' ≤ B) (h2 : S ≤ S') : RngIn w B' S' A n c L := ⟨h.1, h.2.mono h1 h2⟩
theorem RngIn.empty (w : World) (B S : Nat) (A : Option Addr) : RngIn w B S A 0 0 [] := ⟨rfl, RowIn.empty _ _ _ _ _⟩
theorem RngIn.at_ (h : RngIn w B S A n c L) (hn : 0 < n) : ∃ g, A = some ⟨g, 0, none⟩ ∧ B ≤ g ∧ g < S ∧ g < w.heap.size ∧ (∀ j, w.frozen? ⟨g, j, none⟩ = false) ∧
    ∀ i, i < n → w.cell? ⟨g, i * 2, none⟩ = some (.int .i64 (rth L i).lo) ∧ w.cell? ⟨g, i * 2 + 1, none⟩ = some (.int .i64 (rth L i).hi) := by
  obtain ⟨g, rfl, hb, hs, hw, hc, hf⟩ := h.2.blk hn
  refine ⟨g, rfl, hb, hs, hw, hf, fun i hi => ?_⟩
  obtain ⟨e1, e2⟩ := rcells_at (L := L) (i := i) (by rw [h.1]; exact hi)
  exact ⟨(hc _ (by omega)).trans e1, (hc _ (by omega)).trans e2⟩
theorem RngIn.reads (h : RngIn w B S A n c L) : RngAt w A n L :=
  ⟨h.1, fun hn => by
    obtain ⟨g, rfl, _, _, hw, _, hc⟩ := h.at_ hn
    exact ⟨g, 0, rfl, hw, fun i hi => by rw [Nat.zero_add]; exact hc i hi⟩⟩
theorem RngIn.of_own {v : Value} (h : w.ownsRow B 51 2 v n (rcells L)) : ∃ A c, v = .slice A n c ∧ RngIn w B w.heap.size A n c L := by
  obtain ⟨A, c, e, hr⟩ := RowIn.of_own h
  have hl := hr.1
  rw [rcells_len] at hl
  exact ⟨A, c, e, by omega, hr⟩
end

/-- A new slice that reads L was handed back. -/
def GotRng (w : World) (L : List Rg) (e : Ending) (w' : World) : Prop :=
  ∃ A c, e = .returned (.slice A L.length c) ∧ RngIn w' w.heap.size w'.heap.size A L.length c L ∧ Below w.heap.size w w'

section
variable {ops : Array Oper} {rest : List Oper} {o : Oper} {a : Act} {Q : Exit → Act → World → Prop}
/-- append to a slice literal without elements: a copy. -/
theorem wpList_copy_rng (w : World) (hg : o.guard = none) (s x : Operand) (hop : o.op = Op.call { callee := Callee.builtin Builtin.append, args := #[s, x], argTypes := #[23, 23] })
    {base g n c : Nat} {A : Option Addr} {L : List Rg} (hs : a.eval s = .slice (some ⟨g, 0, none⟩) 0 0) (hown : w.ownsRow base 51 2 (.slice (some ⟨g, 0, none⟩) 0 0) 0 []) (hbase : base ≤ w.heap.size)
    (hx : a.eval x = .slice A n c) (h : RngAt w A n L) (hnone : A = none → c = 0) (hn : n ≤ 2000000)
    (hK : ∀ A' c' w', RngIn w' base w'.heap.size A' n c' L → w.grownBy w' (some g) → wpList Try.prog ops Q rest (a.put o.dst (.slice A' n c')) w') :
    wpList Try.prog ops Q (o :: rest) a w := by
  obtain ⟨i0, hi0, hz0, hz1, hz2⟩ := info_parts info_rng
  cases A with
  | none =>
    have hn0 : n = 0 := by
      rcases Nat.eq_zero_or_pos n with e | e
      · exact e
      · obtain ⟨_, _, e', _⟩ := h.2 e
        cases e'
    subst hn0
    obtain rfl := hnone rfl
    obtain rfl : L = [] := List.eq_nil_of_length_eq_zero h.1
    refine wpList_append_fits_any w hg s x _ hop base 51 i0 2 Try.underlying23 hi0 hz1 g 0 0 [] hs hown none 0 0 [] hx rfl (fun _ => ⟨rfl, rfl⟩) (fun _ e => by cases e) (fun _ e => by cases e) (Nat.le_refl _) fun w' _ hgr => ?_
    exact hK _ _ _ (RngIn.empty _ _ _ _) hgr
  | some x0 =>
    have hlen : (rcells L).length = n * 2 := by rw [rcells_len, h.1]
    refine wpList_append_own w hg s x _ hop base 51 i0 (.agg #[.int .i64 0, .int .i64 0]) 2 16 Try.underlying23 hi0 hz0 hz1 hz2 rfl (by decide) _ _ _ hs hown x0 n c (rcells L) hx hlen ?_ (rcells_one L) (by unfold maxLen; omega) (by omega) hbase fun v' w' hown' hgr _ => ?_
    · intro j u hj
      have hjl : j < n * 2 := by
        have := (List.getElem?_eq_some_iff.1 hj).1
        omega
      obtain ⟨b, off, e, _, hc⟩ := h.2 (by omega)
      cases e
      rw [Addr.add_lit]
      obtain ⟨h0, h1⟩ := hc (j / 2) (by omega)
      obtain ⟨e0, e1⟩ := rcells_at (L := L) (i := j / 2) (by rw [h.1]; omega)
      rcases (show j = j / 2 * 2 ∨ j = j / 2 * 2 + 1 from by omega) with e | e
      · rw [e] at hj ⊢
        rw [e0] at hj
        rw [← hj]
        exact h0
      · rw [e] at hj ⊢
        rw [e1] at hj
        rw [← hj, ← Nat.add_assoc]
        exact h1
    · obtain ⟨A', c', rfl, hr⟩ := RngIn.of_own (n := n) (by simpa using hown')
      exact hK _ _ _ hr hgr
/-- Ranges that are read are appended. -/
theorem wpList_more_rng (w : World) (hg : o.guard = none) (s x : Operand) (hop : o.op = Op.call { callee := Callee.builtin Builtin.append, args := #[s, x], argTypes := #[23, 23] })
    {B S n c m cx : Nat} {A Ax : Option Addr} {L X : List Rg} (hs : a.eval s = .slice A n c) (h : RngIn w B S A n c L) (hB : B ≤ w.heap.size) (hn : n ≤ 2000000) (hm : m ≤ 2000000)
    (hx : a.eval x = .slice Ax m cx) (hX : RngAt w Ax m X) (hpos : 0 < m)
    (hK : ∀ A' c' w', RngIn w' B w'.heap.size A' (n + m) c' (L ++ X) → Touch w w' B S → wpList Try.prog ops Q rest (a.put o.dst (.slice A' (n + m) c')) w') :
    wpList Try.prog ops Q (o :: rest) a w := by
  obtain ⟨i0, hi0, hz0, hz1, hz2⟩ := info_parts info_rng
  obtain ⟨gx, offx, rfl, _, hcx⟩ := hX.2 hpos
  have hlenX : (rcells X).length = m * 2 := by rw [rcells_len, hX.1]
  have hnews : ∀ j u, (rcells X)[j]? = some u → w.cell? ((⟨gx, offx, none⟩ : Addr).add j) = some u := by
    intro j u hj
    have hjl : j < m * 2 := by
      have := (List.getElem?_eq_some_iff.1 hj).1
      omega
    rw [Addr.add_lit]
    obtain ⟨h0, h1⟩ := hcx (j / 2) (by omega)
    obtain ⟨e0, e1⟩ := rcells_at (L := X) (i := j / 2) (by rw [hX.1]; omega)
    rcases (show j = j / 2 * 2 ∨ j = j / 2 * 2 + 1 from by omega) with e | e
    · rw [e] at hj ⊢
      rw [e0] at hj
      rw [← hj]
      exact h0
    · rw [e] at hj ⊢
      rw [e1] at hj
      rw [← hj, ← Nat.add_assoc]
      exact h1
  rcases h.2.2 with ⟨rfl, rfl⟩ | ⟨ho, g, rfl, h1, h2, h3⟩
  · obtain rfl : L = [] := List.eq_nil_of_length_eq_zero h.1
    refine wpList_append_grows w hg s x _ hop 51 i0 (.agg #[.int .i64 0, .int .i64 0]) 2 16 Try.underlying23 hi0 hz0 hz1 hz2 rfl (by decide) A 0 0 [] hs (fun _ => ⟨rfl, rfl⟩) rfl (fun _ _ _ _ e => by simp at e) ⟨gx, offx, none⟩ m cx (rcells X) hx hlenX hnews (rcells_one X) (by omega) (by unfold maxLen; omega) (by omega) fun v' w' hown' hgr => ?_
    obtain ⟨A', c', rfl, hr⟩ := RngIn.of_own (n := 0 + m) (L := X) (by simpa using hown')
    exact hK _ _ _ (hr.mono hB (Nat.le_refl _)) ⟨hgr.os, hgr.tape, hgr.output, hgr.size, fun k hk _ => hgr.block k hk (by simp)⟩
  · refine wpList_append_own w hg s x _ hop B 51 i0 (.agg #[.int .i64 0, .int .i64 0]) 2 16 Try.underlying23 hi0 hz0 hz1 hz2 rfl (by decide) _ _ _ hs ho ⟨gx, offx, none⟩ m cx (rcells X) hx hlenX hnews (rcells_one X) (by unfold maxLen; omega) (by omega) hB fun v' w' hown' hgr _ => ?_
    rw [← rcells_append] at hown'
    obtain ⟨A', c', rfl, hr⟩ := RngIn.of_own hown'
    exact hK _ _ _ hr ⟨hgr.os, hgr.tape, hgr.output, hgr.size, fun k hk hb => hgr.block k hk (by simp [Value.ownBlock]; omega)⟩
/-- Ranges that are read, perhaps none, are appended to some. -/
theorem wpList_tail_rng (w : World) (hg : o.guard = none) (s x : Operand) (hop : o.op = Op.call { callee := Callee.builtin Builtin.append, args := #[s, x], argTypes := #[23, 23] })
    {B S n c m cx : Nat} {A Ax : Option Addr} {L X : List Rg} (hs : a.eval s = .slice A n c) (h : RngIn w B S A n c L) (hB : B ≤ w.heap.size) (hn : n ≤ 2000000) (hm : m ≤ 2000000)
    (hx : a.eval x = .slice Ax m cx) (hX : RngAt w Ax m X) (hnone : Ax = none → cx = 0) (hpos : 0 < n)
    (hK : ∀ A' c' w', RngIn w' B w'.heap.size A' (n + m) c' (L ++ X) → Touch w w' B S → wpList Try.prog ops Q rest (a.put o.dst (.slice A' (n + m) c')) w') :
    wpList Try.prog ops Q (o :: rest) a w := by
  rcases Nat.eq_zero_or_pos m with rfl | hm0
  · obtain rfl : X = [] := List.eq_nil_of_length_eq_zero hX.1
    obtain ⟨i0, hi0, hz0, hz1, hz2⟩ := info_parts info_rng
    obtain ⟨g, rfl, h1, h2, h3, _⟩ := h.at_ hpos
    refine wpList_append_fits_any w hg s x _ hop B 51 i0 2 Try.underlying23 hi0 hz1 g n c (rcells L) hs (h.2.own hpos) Ax 0 cx [] hx rfl (fun e => ⟨rfl, hnone e⟩) (fun _ _ j u e => by simp at e) (fun _ e => by cases e) (by have := h.cap; omega) fun w' hown' hgr => ?_
    obtain ⟨A', c', e, hr⟩ := RngIn.of_own (n := n + 0) (L := L) (by simpa using hown')
    cases e
    rw [← List.append_nil L] at hr
    exact hK _ _ _ hr ⟨hgr.os, hgr.tape, hgr.output, hgr.size, fun k hk hb => hgr.block k hk (by intro e; injection e with e; omega)⟩
  · exact wpList_more_rng w hg s x hop hs h hB hn hm hx hX hm0 hK
/-- One range is appended. -/
theorem wpList_snoc_rng (w : World) (hg : o.guard = none) (s x : Operand) (hop : o.op = Op.call { callee := Callee.builtin Builtin.append, args := #[s, x], argTypes := #[23, 23] })
    {B S n c gx : Nat} {A : Option Addr} {L : List Rg} (y : Rg) (hs : a.eval s = .slice A n c) (h : RngIn w B S A n c L) (hB : B ≤ w.heap.size) (hn : n ≤ 2000000) (hgx : gx < w.heap.size)
    (hx : a.eval x = .slice (some ⟨gx, 0, none⟩) 1 1) (hc0 : w.cell? ⟨gx, 0, none⟩ = some (.int .i64 y.lo)) (hc1 : w.cell? ⟨gx, 1, none⟩ = some (.int .i64 y.hi))
    (hK : ∀ A' c' w', RngIn w' B w'.heap.size A' (n + 1) c' (L ++ [y]) → Touch w w' B S → wpList Try.prog ops Q rest (a.put o.dst (.slice A' (n + 1) c')) w') :
    wpList Try.prog ops Q (o :: rest) a w :=
  wpList_more_rng w hg s x hop hs h hB hn (by omega) hx (X := [y]) ⟨rfl, fun _ => ⟨gx, 0, rfl, hgx, fun i hi => by
    obtain rfl : i = 0 := by omega
    exact ⟨hc0, hc1⟩⟩⟩ (by omega) hK
end

end Go.Proofs.Ytmkmaeblnnfheab
