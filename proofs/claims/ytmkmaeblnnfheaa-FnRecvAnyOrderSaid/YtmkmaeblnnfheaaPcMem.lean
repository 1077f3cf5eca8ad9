/- Pieces in memory: two cells each. -/
import Derived.Test.YtmkmaeblnnfheaaMg1
import Derived.Test.YtmkmaeblnnfheaaChecked
namespace Go.Proofs.Ytmkmaeblnnfheaa
open Go.RowKit

theorem info_pc : (Try.prog.info? 92).map (fun i => (i.zero, i.size, i.bytes)) = some (some (.agg #[.int .i64 0, .string ⟨#[]⟩]), 2, 24) := by kernel_rfl
structure Pc where
  o : Int
  d : ByteArray
def qth (L : List Pc) (i : Nat) : Pc := L.getD i ⟨0, ⟨#[]⟩⟩
theorem qth_mem {L : List Pc} {i : Nat} (h : i < L.length) : qth L i ∈ L := by
  unfold qth
  rw [List.getD_eq_getElem?_getD, List.getElem?_eq_getElem h]
  exact List.getElem_mem h
theorem qth_eq {L : List Pc} {i : Nat} (h : i < L.length) : qth L i = L[i] := by
  unfold qth
  rw [List.getD_eq_getElem?_getD, List.getElem?_eq_getElem h]
  rfl

def qcells (L : List Pc) : List Value := L.flatMap fun o => [.int .i64 o.o, .string o.d]
theorem qcells_cons (o : Pc) (L : List Pc) : qcells (o :: L) = .int .i64 o.o :: .string o.d :: qcells L := by unfold qcells; simp
theorem qcells_append (L M : List Pc) : qcells (L ++ M) = qcells L ++ qcells M := by unfold qcells; simp
theorem qcells_len : ∀ L : List Pc, (qcells L).length = L.length * 2
  | [] => rfl
  | o :: L => by rw [qcells_cons]; simp [qcells_len L]; omega
theorem qcells_at : ∀ {L : List Pc} {i : Nat}, i < L.length → (qcells L)[i * 2]? = some (.int .i64 (qth L i).o) ∧ (qcells L)[i * 2 + 1]? = some (.string (qth L i).d)
  | [], i, h => by simp at h
  | o :: L, 0, _ => by rw [qcells_cons]; exact ⟨rfl, rfl⟩
  | o :: L, i + 1, h => by
    have ih := qcells_at (L := L) (i := i) (by simpa using h)
    have e : qth (o :: L) (i + 1) = qth L i := rfl
    rw [qcells_cons, e, show (i + 1) * 2 = i * 2 + 1 + 1 from by omega]
    exact ih
theorem qcells_one (L : List Pc) : ∀ u, u ∈ qcells L → u.oneCell' = true := by
  induction L with
  | nil => intro u hu; simp [qcells] at hu
  | cons c L ih =>
    intro u hu
    rw [qcells_cons] at hu
    rcases List.mem_cons.1 hu with rfl | hu
    · rfl
    rcases List.mem_cons.1 hu with rfl | hu
    · rfl
    exact ih u hu
theorem qcells_drop : ∀ (L : List Pc) (k : Nat), (qcells L).drop (k * 2) = qcells (L.drop k)
  | L, 0 => by simp
  | [], k + 1 => by simp [qcells]
  | o :: L, k + 1 => by
    rw [qcells_cons, show (k + 1) * 2 = k * 2 + 1 + 1 from by omega]
    simpa using qcells_drop L k
theorem qth_drop {L : List Pc} {k i : Nat} (h : k + i < L.length) : qth (L.drop k) i = qth L (k + i) := by
  rw [qth_eq h, qth_eq (by rw [List.length_drop]; omega)]
  simp

/-- The slice at A of n pieces reads L. -/
def PcAt (w : World) (A : Option Addr) (n : Nat) (L : List Pc) : Prop :=
  L.length = n ∧ (0 < n → ∃ b off, A = some ⟨b, off, none⟩ ∧ b < w.heap.size ∧ ∀ i, i < n → w.cell? ⟨b, off + i * 2, none⟩ = some (.int .i64 (qth L i).o) ∧ w.cell? ⟨b, off + i * 2 + 1, none⟩ = some (.string (qth L i).d))
theorem PcAt.below {w w' : World} {A : Option Addr} {n : Nat} {L : List Pc} (h : PcAt w A n L) (hb : Below w.heap.size w w') : PcAt w' A n L :=
  ⟨h.1, fun hn => by
    obtain ⟨b, off, rfl, hlt, hc⟩ := h.2 hn
    refine ⟨b, off, rfl, Nat.lt_of_lt_of_le hlt hb.size, fun i hi => ?_⟩
    obtain ⟨h0, h1⟩ := hc i hi
    exact ⟨(hb.cell (p := ⟨b, _, none⟩) hlt).trans h0, (hb.cell (p := ⟨b, _, none⟩) hlt).trans h1⟩⟩
theorem PcAt.nil (w : World) (A : Option Addr) : PcAt w A 0 [] := ⟨rfl, fun h => by omega⟩
theorem PcAt.alloc {w : World} {A : Option Addr} {n : Nat} {L : List Pc} (h : PcAt w A n L) (o : Obj) : PcAt (w.alloc o) A n L := h.below ((Below.refl _ _).alloc (Nat.le_refl _) o)
theorem PcAt.drew {w : World} {A : Option Addr} {n : Nat} {L : List Pc} (h : PcAt w A n L) : PcAt w.drew A n L := h

def PcIn (w : World) (B S : Nat) (A : Option Addr) (n c : Nat) (L : List Pc) : Prop := L.length = n ∧ RowIn 92 2 w B S A n c (qcells L)
section
variable {w w' : World} {B S B' S' : Nat} {A : Option Addr} {n c : Nat} {L : List Pc}
theorem PcIn.cap (h : PcIn w B S A n c L) : n ≤ c ∧ c ≤ maxLen := h.2.cap
theorem PcIn.touch (h : PcIn w B S A n c L) (t : Touch w w' B' S') (hd : S ≤ B' ∨ S' ≤ B) : PcIn w' B S A n c L := ⟨h.1, h.2.touch t hd⟩
theorem PcIn.below (h : PcIn w B S A n c L) (hb : Below w.heap.size w w') : PcIn w' B S A n c L := ⟨h.1, h.2.below hb⟩
theorem PcIn.alloc (h : PcIn w B S A n c L) (o : Obj) : PcIn (w.alloc o) B S A n c L := ⟨h.1, h.2.alloc o⟩
theorem PcIn.drew (h : PcIn w B S A n c L) : PcIn w.drew B S A n c L := h
theorem PcIn.drewN (h : PcIn w B S A n c L) (m : Nat) : PcIn (w.drewN m) B S A n c L := h
theorem PcIn.mono (h : PcIn w B S A n c L) (h1 : B' ≤ B) (h2 : S ≤ S') : PcIn w B' S' A n c L := ⟨h.1, h.2.mono h1 h2⟩
theorem PcIn.empty (w : World) (B S : Nat) (A : Option Addr) : PcIn w B S A 0 0 [] := ⟨rfl, RowIn.empty _ _ _ _ _⟩
theorem PcIn.at_ (h : PcIn w B S A n c L) (hn : 0 < n) : ∃ g, A = some ⟨g, 0, none⟩ ∧ B ≤ g ∧ g < S ∧ g < w.heap.size ∧ (∀ j, w.frozen? ⟨g, j, none⟩ = false) ∧
    ∀ i, i < n → w.cell? ⟨g, i * 2, none⟩ = some (.int .i64 (qth L i).o) ∧ w.cell? ⟨g, i * 2 + 1, none⟩ = some (.string (qth L i).d) := by
  obtain ⟨g, rfl, hb, hs, hw, hc, hf⟩ := h.2.blk hn
  refine ⟨g, rfl, hb, hs, hw, hf, fun i hi => ?_⟩
  obtain ⟨e1, e2⟩ := qcells_at (L := L) (i := i) (by rw [h.1]; exact hi)
  exact ⟨(hc _ (by omega)).trans e1, (hc _ (by omega)).trans e2⟩
theorem PcIn.reads (h : PcIn w B S A n c L) : PcAt w A n L :=
  ⟨h.1, fun hn => by
    obtain ⟨g, rfl, _, _, hw, _, hc⟩ := h.at_ hn
    exact ⟨g, 0, rfl, hw, fun i hi => by rw [Nat.zero_add]; exact hc i hi⟩⟩
theorem PcIn.of_own {v : Value} (h : w.ownsRow B 92 2 v n (qcells L)) : ∃ A c, v = .slice A n c ∧ PcIn w B w.heap.size A n c L := by
  obtain ⟨A, c, e, hr⟩ := RowIn.of_own h
  have hl := hr.1
  rw [qcells_len] at hl
  exact ⟨A, c, e, by omega, hr⟩
end

/-- A new slice that reads L was handed back. -/
def GotPc (w : World) (L : List Pc) (e : Ending) (w' : World) : Prop :=
  ∃ A c, e = .returned (.slice A L.length c) ∧ PcIn w' w.heap.size w'.heap.size A L.length c L ∧ Below w.heap.size w w'

section
variable {ops : Array Oper} {rest : List Oper} {o : Oper} {a : Act} {Q : Exit → Act → World → Prop}
/-- append to a slice literal without elements: a copy. -/
theorem wpList_copy_pc (w : World) (hg : o.guard = none) (s x : Operand) (hop : o.op = Op.call { callee := Callee.builtin Builtin.append, args := #[s, x], argTypes := #[56, 56] })
    {base g n c : Nat} {A : Option Addr} {L : List Pc} (hs : a.eval s = .slice (some ⟨g, 0, none⟩) 0 0) (hown : w.ownsRow base 92 2 (.slice (some ⟨g, 0, none⟩) 0 0) 0 []) (hbase : base ≤ w.heap.size)
    (hx : a.eval x = .slice A n c) (h : PcAt w A n L) (hnone : A = none → c = 0) (hn : n ≤ 2000000)
    (hK : ∀ A' c' w', PcIn w' base w'.heap.size A' n c' L → w.grownBy w' (some g) → wpList Try.prog ops Q rest (a.put o.dst (.slice A' n c')) w') :
    wpList Try.prog ops Q (o :: rest) a w := by
  obtain ⟨i0, hi0, hz0, hz1, hz2⟩ := info_parts info_pc
  cases A with
  | none =>
    have hn0 : n = 0 := by
      rcases Nat.eq_zero_or_pos n with e | e
      · exact e
      · obtain ⟨_, _, e', _⟩ := h.2 e
        cases e'
    subst hn0
    obtain rfl := hnone rfl
    obtain rfl : L = [] := List.eq_nil_of_length_eq_zero h.1
    refine wpList_append_fits_any w hg s x _ hop base 92 i0 2 Try.underlying56 hi0 hz1 g 0 0 [] hs hown none 0 0 [] hx rfl (fun _ => ⟨rfl, rfl⟩) (fun _ e => by cases e) (fun _ e => by cases e) (Nat.le_refl _) fun w' _ hgr => ?_
    exact hK _ _ _ (PcIn.empty _ _ _ _) hgr
  | some x0 =>
    have hlen : (qcells L).length = n * 2 := by rw [qcells_len, h.1]
    refine wpList_append_own w hg s x _ hop base 92 i0 (.agg #[.int .i64 0, .string ⟨#[]⟩]) 2 24 Try.underlying56 hi0 hz0 hz1 hz2 rfl (by decide) _ _ _ hs hown x0 n c (qcells L) hx hlen ?_ (qcells_one L) (by unfold maxLen; omega) (by omega) hbase fun v' w' hown' hgr _ => ?_
    · intro j u hj
      have hjl : j < n * 2 := by
        have := (List.getElem?_eq_some_iff.1 hj).1
        omega
      obtain ⟨b, off, e, _, hc⟩ := h.2 (by omega)
      cases e
      rw [Addr.add_lit]
      obtain ⟨h0, h1⟩ := hc (j / 2) (by omega)
      obtain ⟨e0, e1⟩ := qcells_at (L := L) (i := j / 2) (by rw [h.1]; omega)
      rcases (show j = j / 2 * 2 ∨ j = j / 2 * 2 + 1 from by omega) with e | e
      · rw [e] at hj ⊢
        rw [e0] at hj
        rw [← hj]
        exact h0
      · rw [e] at hj ⊢
        rw [e1] at hj
        rw [← hj, ← Nat.add_assoc]
        exact h1
    · obtain ⟨A', c', rfl, hr⟩ := PcIn.of_own (n := n) (by simpa using hown')
      exact hK _ _ _ hr hgr
/-- Pieces that are read are appended. -/
theorem wpList_more_pc (w : World) (hg : o.guard = none) (s x : Operand) (hop : o.op = Op.call { callee := Callee.builtin Builtin.append, args := #[s, x], argTypes := #[56, 56] })
    {B S n c m cx : Nat} {A Ax : Option Addr} {L X : List Pc} (hs : a.eval s = .slice A n c) (h : PcIn w B S A n c L) (hB : B ≤ w.heap.size) (hn : n ≤ 2000000) (hm : m ≤ 2000000)
    (hx : a.eval x = .slice Ax m cx) (hX : PcAt w Ax m X) (hpos : 0 < m)
    (hK : ∀ A' c' w', PcIn w' B w'.heap.size A' (n + m) c' (L ++ X) → Touch w w' B S → wpList Try.prog ops Q rest (a.put o.dst (.slice A' (n + m) c')) w') :
    wpList Try.prog ops Q (o :: rest) a w := by
  obtain ⟨i0, hi0, hz0, hz1, hz2⟩ := info_parts info_pc
  obtain ⟨gx, offx, rfl, _, hcx⟩ := hX.2 hpos
  have hlenX : (qcells X).length = m * 2 := by rw [qcells_len, hX.1]
  have hnews : ∀ j u, (qcells X)[j]? = some u → w.cell? ((⟨gx, offx, none⟩ : Addr).add j) = some u := by
    intro j u hj
    have hjl : j < m * 2 := by
      have := (List.getElem?_eq_some_iff.1 hj).1
      omega
    rw [Addr.add_lit]
    obtain ⟨h0, h1⟩ := hcx (j / 2) (by omega)
    obtain ⟨e0, e1⟩ := qcells_at (L := X) (i := j / 2) (by rw [hX.1]; omega)
    rcases (show j = j / 2 * 2 ∨ j = j / 2 * 2 + 1 from by omega) with e | e
    · rw [e] at hj ⊢
      rw [e0] at hj
      rw [← hj]
      exact h0
    · rw [e] at hj ⊢
      rw [e1] at hj
      rw [← hj, ← Nat.add_assoc]
      exact h1
  rcases h.2.2 with ⟨rfl, rfl⟩ | ⟨ho, g, rfl, h1, h2, h3⟩
  · obtain rfl : L = [] := List.eq_nil_of_length_eq_zero h.1
    refine wpList_append_grows w hg s x _ hop 92 i0 (.agg #[.int .i64 0, .string ⟨#[]⟩]) 2 24 Try.underlying56 hi0 hz0 hz1 hz2 rfl (by decide) A 0 0 [] hs (fun _ => ⟨rfl, rfl⟩) rfl (fun _ _ _ _ e => by simp at e) ⟨gx, offx, none⟩ m cx (qcells X) hx hlenX hnews (qcells_one X) (by omega) (by unfold maxLen; omega) (by omega) fun v' w' hown' hgr => ?_
    obtain ⟨A', c', rfl, hr⟩ := PcIn.of_own (n := 0 + m) (L := X) (by simpa using hown')
    exact hK _ _ _ (hr.mono hB (Nat.le_refl _)) ⟨hgr.os, hgr.tape, hgr.output, hgr.size, fun k hk _ => hgr.block k hk (by simp)⟩
  · refine wpList_append_own w hg s x _ hop B 92 i0 (.agg #[.int .i64 0, .string ⟨#[]⟩]) 2 24 Try.underlying56 hi0 hz0 hz1 hz2 rfl (by decide) _ _ _ hs ho ⟨gx, offx, none⟩ m cx (qcells X) hx hlenX hnews (qcells_one X) (by unfold maxLen; omega) (by omega) hB fun v' w' hown' hgr _ => ?_
    rw [← qcells_append] at hown'
    obtain ⟨A', c', rfl, hr⟩ := PcIn.of_own hown'
    exact hK _ _ _ hr ⟨hgr.os, hgr.tape, hgr.output, hgr.size, fun k hk hb => hgr.block k hk (by simp [Value.ownBlock]; omega)⟩
/-- Pieces that are read, perhaps none, are appended to some. -/
theorem wpList_tail_pc (w : World) (hg : o.guard = none) (s x : Operand) (hop : o.op = Op.call { callee := Callee.builtin Builtin.append, args := #[s, x], argTypes := #[56, 56] })
    {B S n c m cx : Nat} {A Ax : Option Addr} {L X : List Pc} (hs : a.eval s = .slice A n c) (h : PcIn w B S A n c L) (hB : B ≤ w.heap.size) (hn : n ≤ 2000000) (hm : m ≤ 2000000)
    (hx : a.eval x = .slice Ax m cx) (hX : PcAt w Ax m X) (hnone : Ax = none → cx = 0) (hpos : 0 < n)
    (hK : ∀ A' c' w', PcIn w' B w'.heap.size A' (n + m) c' (L ++ X) → Touch w w' B S → wpList Try.prog ops Q rest (a.put o.dst (.slice A' (n + m) c')) w') :
    wpList Try.prog ops Q (o :: rest) a w := by
  rcases Nat.eq_zero_or_pos m with rfl | hm0
  · obtain rfl : X = [] := List.eq_nil_of_length_eq_zero hX.1
    obtain ⟨i0, hi0, hz0, hz1, hz2⟩ := info_parts info_pc
    obtain ⟨g, rfl, h1, h2, h3, _⟩ := h.at_ hpos
    refine wpList_append_fits_any w hg s x _ hop B 92 i0 2 Try.underlying56 hi0 hz1 g n c (qcells L) hs (h.2.own hpos) Ax 0 cx [] hx rfl (fun e => ⟨rfl, hnone e⟩) (fun _ _ j u e => by simp at e) (fun _ e => by cases e) (by have := h.cap; omega) fun w' hown' hgr => ?_
    obtain ⟨A', c', e, hr⟩ := PcIn.of_own (n := n + 0) (L := L) (by simpa using hown')
    cases e
    rw [← List.append_nil L] at hr
    exact hK _ _ _ hr ⟨hgr.os, hgr.tape, hgr.output, hgr.size, fun k hk hb => hgr.block k hk (by intro e; injection e with e; omega)⟩
  · exact wpList_more_pc w hg s x hop hs h hB hn hm hx hX hm0 hK
/-- One piece is appended. -/
theorem wpList_snoc_pc (w : World) (hg : o.guard = none) (s x : Operand) (hop : o.op = Op.call { callee := Callee.builtin Builtin.append, args := #[s, x], argTypes := #[56, 56] })
    {B S n c gx : Nat} {A : Option Addr} {L : List Pc} (y : Pc) (hs : a.eval s = .slice A n c) (h : PcIn w B S A n c L) (hB : B ≤ w.heap.size) (hn : n ≤ 2000000) (hgx : gx < w.heap.size)
    (hx : a.eval x = .slice (some ⟨gx, 0, none⟩) 1 1) (hc0 : w.cell? ⟨gx, 0, none⟩ = some (.int .i64 y.o)) (hc1 : w.cell? ⟨gx, 1, none⟩ = some (.string y.d))
    (hK : ∀ A' c' w', PcIn w' B w'.heap.size A' (n + 1) c' (L ++ [y]) → Touch w w' B S → wpList Try.prog ops Q rest (a.put o.dst (.slice A' (n + 1) c')) w') :
    wpList Try.prog ops Q (o :: rest) a w :=
  wpList_more_pc w hg s x hop hs h hB hn (by omega) hx (X := [y]) ⟨rfl, fun _ => ⟨gx, 0, rfl, hgx, fun i hi => by
    obtain rfl : i = 0 := by omega
    exact ⟨hc0, hc1⟩⟩⟩ (by omega) hK
end

end Go.Proofs.Ytmkmaeblnnfheaa
