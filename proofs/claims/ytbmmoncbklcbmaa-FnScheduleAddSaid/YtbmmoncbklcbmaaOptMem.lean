/- Options in memory: four cells each. -/
import Derived.Test.YtbmmoncbklcbmaaIntMem
import Derived.Test.YtbmmoncbklcbmaaOrdPlain
namespace Go.Proofs.Ytbmmoncbklcbmaa
open Go.RowKit

theorem info_opt : (Try.prog.info? 35).map (fun i => (i.zero, i.size, i.bytes)) = some (some (.agg #[.bool false, .int .i64 0, .int .i64 0, .int .i64 0]), 4, 32) := by kernel_rfl

def ocells (L : List Opt) : List Value := L.flatMap fun o => [.bool o.a, .int .i64 o.t, .int .i64 o.w, .int .i64 o.f]
theorem ocells_cons (o : Opt) (L : List Opt) : ocells (o :: L) = .bool o.a :: .int .i64 o.t :: .int .i64 o.w :: .int .i64 o.f :: ocells L := by unfold ocells; simp
theorem ocells_append (L M : List Opt) : ocells (L ++ M) = ocells L ++ ocells M := by unfold ocells; simp
theorem ocells_len : ∀ L : List Opt, (ocells L).length = L.length * 4
  | [] => rfl
  | o :: L => by rw [ocells_cons]; simp [ocells_len L]; omega
theorem ocells_at : ∀ {L : List Opt} {i : Nat}, i < L.length → (ocells L)[i * 4]? = some (.bool (onth L i).a) ∧ (ocells L)[i * 4 + 1]? = some (.int .i64 (onth L i).t) ∧ (ocells L)[i * 4 + 2]? = some (.int .i64 (onth L i).w) ∧ (ocells L)[i * 4 + 3]? = some (.int .i64 (onth L i).f)
  | [], i, h => by simp at h
  | o :: L, 0, _ => by rw [ocells_cons]; exact ⟨rfl, rfl, rfl, rfl⟩
  | o :: L, i + 1, h => by
    have ih := ocells_at (L := L) (i := i) (by simpa using h)
    have e : onth (o :: L) (i + 1) = onth L i := rfl
    rw [ocells_cons, e, show (i + 1) * 4 = i * 4 + 1 + 1 + 1 + 1 from by omega]
    exact ih
theorem ocells_one (L : List Opt) : ∀ u, u ∈ ocells L → u.oneCell' = true := by
  induction L with
  | nil => intro u hu; simp [ocells] at hu
  | cons c L ih =>
    intro u hu
    rw [ocells_cons] at hu
    rcases List.mem_cons.1 hu with rfl | hu
    · rfl
    rcases List.mem_cons.1 hu with rfl | hu
    · rfl
    rcases List.mem_cons.1 hu with rfl | hu
    · rfl
    rcases List.mem_cons.1 hu with rfl | hu
    · rfl
    exact ih u hu
def setT (L : List Opt) (k : Nat) (v : Int) : List Opt := L.set k { onth L k with t := v }
def setW (L : List Opt) (k : Nat) (v : Int) : List Opt := L.set k { onth L k with w := v }
def setF (L : List Opt) (k : Nat) (v : Int) : List Opt := L.set k { onth L k with f := v }
theorem len_setT {L : List Opt} {k : Nat} {v : Int} : (setT L k v).length = L.length := by unfold setT; exact List.length_set
theorem len_setW {L : List Opt} {k : Nat} {v : Int} : (setW L k v).length = L.length := by unfold setW; exact List.length_set
theorem len_setF {L : List Opt} {k : Nat} {v : Int} : (setF L k v).length = L.length := by unfold setF; exact List.length_set
theorem ocells_setT : ∀ {L : List Opt} {k : Nat} (v : Int), k < L.length → (ocells L).set (k * 4 + 1) (.int .i64 v) = ocells (setT L k v)
  | [], k, _, h => by simp at h
  | a :: L, 0, p, _ => rfl
  | a :: L, k + 1, p, h => by
    have ih := ocells_setT (L := L) (k := k) p (by simpa using h)
    have e : setT (a :: L) (k + 1) p = a :: setT L k p := rfl
    rw [e, ocells_cons, ocells_cons, show (k + 1) * 4 = k * 4 + 1 + 1 + 1 + 1 from by omega, ← ih]
    rfl
theorem ocells_setW : ∀ {L : List Opt} {k : Nat} (v : Int), k < L.length → (ocells L).set (k * 4 + 2) (.int .i64 v) = ocells (setW L k v)
  | [], k, _, h => by simp at h
  | a :: L, 0, p, _ => rfl
  | a :: L, k + 1, p, h => by
    have ih := ocells_setW (L := L) (k := k) p (by simpa using h)
    have e : setW (a :: L) (k + 1) p = a :: setW L k p := rfl
    rw [e, ocells_cons, ocells_cons, show (k + 1) * 4 = k * 4 + 1 + 1 + 1 + 1 from by omega, ← ih]
    rfl
theorem ocells_setF : ∀ {L : List Opt} {k : Nat} (v : Int), k < L.length → (ocells L).set (k * 4 + 3) (.int .i64 v) = ocells (setF L k v)
  | [], k, _, h => by simp at h
  | a :: L, 0, p, _ => rfl
  | a :: L, k + 1, p, h => by
    have ih := ocells_setF (L := L) (k := k) p (by simpa using h)
    have e : setF (a :: L) (k + 1) p = a :: setF L k p := rfl
    rw [e, ocells_cons, ocells_cons, show (k + 1) * 4 = k * 4 + 1 + 1 + 1 + 1 from by omega, ← ih]
    rfl

/-- The slice at A of n options reads L. -/
def OptsAt (w : World) (A : Option Addr) (n : Nat) (L : List Opt) : Prop :=
  L.length = n ∧ (0 < n → ∃ b off, A = some ⟨b, off, none⟩ ∧ b < w.heap.size ∧ ∀ i, i < n → w.cell? ⟨b, off + i * 4, none⟩ = some (.bool (onth L i).a) ∧ w.cell? ⟨b, off + i * 4 + 1, none⟩ = some (.int .i64 (onth L i).t) ∧ w.cell? ⟨b, off + i * 4 + 2, none⟩ = some (.int .i64 (onth L i).w) ∧ w.cell? ⟨b, off + i * 4 + 3, none⟩ = some (.int .i64 (onth L i).f))
theorem OptsAt.below {w w' : World} {A : Option Addr} {n : Nat} {L : List Opt} (h : OptsAt w A n L) (hb : Below w.heap.size w w') : OptsAt w' A n L :=
  ⟨h.1, fun hn => by
    obtain ⟨b, off, rfl, hlt, hc⟩ := h.2 hn
    refine ⟨b, off, rfl, Nat.lt_of_lt_of_le hlt hb.size, fun i hi => ?_⟩
    obtain ⟨h0, h1, h2, h3⟩ := hc i hi
    exact ⟨(hb.cell (p := ⟨b, _, none⟩) hlt).trans h0, (hb.cell (p := ⟨b, _, none⟩) hlt).trans h1, (hb.cell (p := ⟨b, _, none⟩) hlt).trans h2, (hb.cell (p := ⟨b, _, none⟩) hlt).trans h3⟩⟩

def OptsIn (w : World) (B S : Nat) (A : Option Addr) (n c : Nat) (L : List Opt) : Prop := L.length = n ∧ RowIn 35 4 w B S A n c (ocells L)
section
variable {w w' : World} {B S B' S' : Nat} {A : Option Addr} {n c : Nat} {L : List Opt}
theorem OptsIn.cap (h : OptsIn w B S A n c L) : n ≤ c ∧ c ≤ maxLen := h.2.cap
theorem OptsIn.touch (h : OptsIn w B S A n c L) (t : Touch w w' B' S') (hd : S ≤ B' ∨ S' ≤ B) : OptsIn w' B S A n c L := ⟨h.1, h.2.touch t hd⟩
theorem OptsIn.below (h : OptsIn w B S A n c L) (hb : Below w.heap.size w w') : OptsIn w' B S A n c L := ⟨h.1, h.2.below hb⟩
theorem OptsIn.alloc (h : OptsIn w B S A n c L) (o : Obj) : OptsIn (w.alloc o) B S A n c L := ⟨h.1, h.2.alloc o⟩
theorem OptsIn.drew (h : OptsIn w B S A n c L) : OptsIn w.drew B S A n c L := h
theorem OptsIn.drewN (h : OptsIn w B S A n c L) (m : Nat) : OptsIn (w.drewN m) B S A n c L := h
theorem OptsIn.mono (h : OptsIn w B S A n c L) (h1 : B' ≤ B) (h2 : S ≤ S') : OptsIn w B' S' A n c L := ⟨h.1, h.2.mono h1 h2⟩
theorem OptsIn.empty (w : World) (B S : Nat) (A : Option Addr) : OptsIn w B S A 0 0 [] := ⟨rfl, RowIn.empty _ _ _ _ _⟩
theorem OptsIn.at_ (h : OptsIn w B S A n c L) (hn : 0 < n) : ∃ g, A = some ⟨g, 0, none⟩ ∧ B ≤ g ∧ g < S ∧ g < w.heap.size ∧ (∀ j, w.frozen? ⟨g, j, none⟩ = false) ∧
    ∀ i, i < n → w.cell? ⟨g, i * 4, none⟩ = some (.bool (onth L i).a) ∧ w.cell? ⟨g, i * 4 + 1, none⟩ = some (.int .i64 (onth L i).t) ∧ w.cell? ⟨g, i * 4 + 2, none⟩ = some (.int .i64 (onth L i).w) ∧ w.cell? ⟨g, i * 4 + 3, none⟩ = some (.int .i64 (onth L i).f) := by
  obtain ⟨g, rfl, hb, hs, hw, hc, hf⟩ := h.2.blk hn
  refine ⟨g, rfl, hb, hs, hw, hf, fun i hi => ?_⟩
  obtain ⟨e1, e2, e3, e4⟩ := ocells_at (L := L) (i := i) (by rw [h.1]; exact hi)
  exact ⟨(hc _ (by omega)).trans e1, (hc _ (by omega)).trans e2, (hc _ (by omega)).trans e3, (hc _ (by omega)).trans e4⟩
theorem OptsIn.reads (h : OptsIn w B S A n c L) : OptsAt w A n L :=
  ⟨h.1, fun hn => by
    obtain ⟨g, rfl, _, _, hw, _, hc⟩ := h.at_ hn
    exact ⟨g, 0, rfl, hw, fun i hi => by rw [Nat.zero_add]; exact hc i hi⟩⟩
theorem OptsIn.of_own {v : Value} (h : w.ownsRow B 35 4 v n (ocells L)) : ∃ A c, v = .slice A n c ∧ OptsIn w B w.heap.size A n c L := by
  obtain ⟨A, c, e, hr⟩ := RowIn.of_own h
  have hl := hr.1
  rw [ocells_len] at hl
  exact ⟨A, c, e, by omega, hr⟩
theorem OptsIn.storeT {g k : Nat} (h : OptsIn w B S (some ⟨g, 0, none⟩) n c L) (hk : k < n) (p : Int) : OptsIn (w.setCell ⟨g, k * 4 + 1, none⟩ (.int .i64 p)) B S (some ⟨g, 0, none⟩) n c (setT L k p) := by
  refine ⟨by rw [len_setT]; exact h.1, ?_⟩
  rw [← ocells_setT p (by rw [h.1]; exact hk)]
  exact h.2.stored (by omega) _ _
theorem OptsIn.storeW {g k : Nat} (h : OptsIn w B S (some ⟨g, 0, none⟩) n c L) (hk : k < n) (p : Int) : OptsIn (w.setCell ⟨g, k * 4 + 2, none⟩ (.int .i64 p)) B S (some ⟨g, 0, none⟩) n c (setW L k p) := by
  refine ⟨by rw [len_setW]; exact h.1, ?_⟩
  rw [← ocells_setW p (by rw [h.1]; exact hk)]
  exact h.2.stored (by omega) _ _
theorem OptsIn.storeF {g k : Nat} (h : OptsIn w B S (some ⟨g, 0, none⟩) n c L) (hk : k < n) (p : Int) : OptsIn (w.setCell ⟨g, k * 4 + 3, none⟩ (.int .i64 p)) B S (some ⟨g, 0, none⟩) n c (setF L k p) := by
  refine ⟨by rw [len_setF]; exact h.1, ?_⟩
  rw [← ocells_setF p (by rw [h.1]; exact hk)]
  exact h.2.stored (by omega) _ _
end

section
variable {T : TypeId} {w : World} {B S : Nat} {n c g k : Nat} {X R : List Value}
/-- Element k of four cells is stored: one element more is known. -/
theorem RowIn.fill4 (h : RowIn T 4 w B S (some ⟨g, 0, none⟩) n c (X ++ R)) (hX : X.length = k * 4) (hR : R.length = (n - k) * 4) (hk : k < n) (u0 u1 u2 u3 : Value) :
    ∃ R', R'.length = (n - (k + 1)) * 4 ∧ RowIn T 4 ((((w.setCell ⟨g, k * 4, none⟩ u0).setCell ⟨g, k * 4 + 1, none⟩ u1).setCell ⟨g, k * 4 + 2, none⟩ u2).setCell ⟨g, k * 4 + 3, none⟩ u3) B S (some ⟨g, 0, none⟩) n c ((X ++ [u0, u1, u2, u3]) ++ R') := by
  obtain ⟨a, b, d, f, R', rfl⟩ : ∃ a b d f R', R = a :: b :: d :: f :: R' := by
    match R, hR with
    | a :: b :: d :: f :: R', _ => exact ⟨a, b, d, f, R', rfl⟩
    | [], h => simp at h; omega
    | [_], h => simp at h; omega
    | [_, _], h => simp at h; omega
    | [_, _, _], h => simp at h; omega
  refine ⟨R', by simp at hR; omega, ?_⟩
  have e := (((h.stored (by omega) (k * 4) u0).stored (by omega) (k * 4 + 1) u1).stored (by omega) (k * 4 + 2) u2).stored (by omega) (k * 4 + 3) u3
  have e2 : ((((X ++ a :: b :: d :: f :: R').set (k * 4) u0).set (k * 4 + 1) u1).set (k * 4 + 2) u2).set (k * 4 + 3) u3 = (X ++ [u0, u1, u2, u3]) ++ R' := by
    rw [List.set_append_right _ _ (by omega), show k * 4 - X.length = 0 from by omega, List.set_cons_zero]
    rw [List.set_append_right _ _ (by omega), show k * 4 + 1 - X.length = 0 + 1 from by omega, List.set_cons_succ, List.set_cons_zero]
    rw [List.set_append_right _ _ (by omega), show k * 4 + 2 - X.length = 0 + 1 + 1 from by omega, List.set_cons_succ, List.set_cons_succ, List.set_cons_zero]
    rw [List.set_append_right _ _ (by omega), show k * 4 + 3 - X.length = 0 + 1 + 1 + 1 from by omega, List.set_cons_succ, List.set_cons_succ, List.set_cons_succ, List.set_cons_zero]
    simp
  rw [e2] at e
  exact e
end
theorem ocells_take_succ {L : List Opt} {k : Nat} (h : k < L.length) : ocells (L.take k) ++ [.bool (onth L k).a, .int .i64 (onth L k).t, .int .i64 (onth L k).w, .int .i64 (onth L k).f] = ocells (L.take (k + 1)) := by
  rw [List.take_succ_eq_append_getElem h, ocells_append, ← onth_eq h]
  rfl

section
variable {ops : Array Oper} {rest : List Oper} {o : Oper} {a : Act} {Q : Exit → Act → World → Prop}
/-- append to a slice literal without elements: a copy. -/
theorem wpList_copy_opts (w : World) (hg : o.guard = none) (s x : Operand) (hop : o.op = Op.call { callee := Callee.builtin Builtin.append, args := #[s, x], argTypes := #[25, 25] })
    {base g n c : Nat} {A : Option Addr} {L : List Opt} (hs : a.eval s = .slice (some ⟨g, 0, none⟩) 0 0) (hown : w.ownsRow base 35 4 (.slice (some ⟨g, 0, none⟩) 0 0) 0 []) (hbase : base ≤ w.heap.size)
    (hx : a.eval x = .slice A n c) (h : OptsAt w A n L) (hnone : A = none → c = 0) (hn : n ≤ 2000000)
    (hK : ∀ A' c' w', OptsIn w' base w'.heap.size A' n c' L → w.grownBy w' (some g) → wpList Try.prog ops Q rest (a.put o.dst (.slice A' n c')) w') :
    wpList Try.prog ops Q (o :: rest) a w := by
  obtain ⟨i0, hi0, hz0, hz1, hz2⟩ := info_parts info_opt
  cases A with
  | none =>
    have hn0 : n = 0 := by
      rcases Nat.eq_zero_or_pos n with e | e
      · exact e
      · obtain ⟨_, _, e', _⟩ := h.2 e
        cases e'
    subst hn0
    obtain rfl := hnone rfl
    obtain rfl : L = [] := List.eq_nil_of_length_eq_zero h.1
    refine wpList_append_fits_any w hg s x _ hop base 35 i0 4 Try.underlying25 hi0 hz1 g 0 0 [] hs hown none 0 0 [] hx rfl (fun _ => ⟨rfl, rfl⟩) (fun _ e => by cases e) (fun _ e => by cases e) (Nat.le_refl _) fun w' _ hgr => ?_
    exact hK _ _ _ (OptsIn.empty _ _ _ _) hgr
  | some x0 =>
    have hlen : (ocells L).length = n * 4 := by rw [ocells_len, h.1]
    refine wpList_append_own w hg s x _ hop base 35 i0 (.agg #[.bool false, .int .i64 0, .int .i64 0, .int .i64 0]) 4 32 Try.underlying25 hi0 hz0 hz1 hz2 rfl (by decide) _ _ _ hs hown x0 n c (ocells L) hx hlen ?_ (ocells_one L) (by unfold maxLen; omega) (by omega) hbase fun v' w' hown' hgr _ => ?_
    · intro j u hj
      have hjl : j < n * 4 := by
        have := (List.getElem?_eq_some_iff.1 hj).1
        omega
      obtain ⟨b, off, e, _, hc⟩ := h.2 (by omega)
      cases e
      rw [Addr.add_lit]
      obtain ⟨h0, h1, h2, h3⟩ := hc (j / 4) (by omega)
      obtain ⟨e0, e1, e2, e3⟩ := ocells_at (L := L) (i := j / 4) (by rw [h.1]; omega)
      rcases (show j = j / 4 * 4 ∨ j = j / 4 * 4 + 1 ∨ j = j / 4 * 4 + 2 ∨ j = j / 4 * 4 + 3 from by omega) with e | e | e | e
      · rw [e] at hj ⊢
        rw [e0] at hj
        rw [← hj]
        exact h0
      · rw [e] at hj ⊢
        rw [e1] at hj
        rw [← hj, ← Nat.add_assoc]
        exact h1
      · rw [e] at hj ⊢
        rw [e2] at hj
        rw [← hj, ← Nat.add_assoc]
        exact h2
      · rw [e] at hj ⊢
        rw [e3] at hj
        rw [← hj, ← Nat.add_assoc]
        exact h3
    · obtain ⟨A', c', rfl, hr⟩ := OptsIn.of_own (n := n) (by simpa using hown')
      exact hK _ _ _ hr hgr
/-- One option is appended. -/
theorem wpList_snoc_opts (w : World) (hg : o.guard = none) (s x : Operand) (hop : o.op = Op.call { callee := Callee.builtin Builtin.append, args := #[s, x], argTypes := #[25, 25] })
    {B S n c gx : Nat} {A : Option Addr} {L : List Opt} (y : Opt) (hs : a.eval s = .slice A n c) (h : OptsIn w B S A n c L) (hB : B ≤ w.heap.size) (hn : n ≤ 2000000)
    (hx : a.eval x = .slice (some ⟨gx, 0, none⟩) 1 1) (hc0 : w.cell? ⟨gx, 0, none⟩ = some (.bool y.a)) (hc1 : w.cell? ⟨gx, 1, none⟩ = some (.int .i64 y.t)) (hc2 : w.cell? ⟨gx, 2, none⟩ = some (.int .i64 y.w)) (hc3 : w.cell? ⟨gx, 3, none⟩ = some (.int .i64 y.f))
    (hK : ∀ A' c' w', OptsIn w' B w'.heap.size A' (n + 1) c' (L ++ [y]) → Touch w w' B S → wpList Try.prog ops Q rest (a.put o.dst (.slice A' (n + 1) c')) w') :
    wpList Try.prog ops Q (o :: rest) a w := by
  obtain ⟨i0, hi0, hz0, hz1, hz2⟩ := info_parts info_opt
  have hnews : ∀ j u, (ocells [y])[j]? = some u → w.cell? ((⟨gx, 0, none⟩ : Addr).add j) = some u := by
    intro j u hj
    rw [Addr.add_lit, Nat.zero_add]
    have e : ocells [y] = [.bool y.a, .int .i64 y.t, .int .i64 y.w, .int .i64 y.f] := rfl
    rw [e] at hj
    match j, hj with
    | 0, hj => simp at hj; rw [hc0, hj]
    | 1, hj => simp at hj; rw [hc1, hj]
    | 2, hj => simp at hj; rw [hc2, hj]
    | 3, hj => simp at hj; rw [hc3, hj]
    | j + 4, hj => simp at hj
  rcases h.2.2 with ⟨rfl, rfl⟩ | ⟨ho, g, rfl, h1, h2, h3⟩
  · obtain rfl : L = [] := List.eq_nil_of_length_eq_zero h.1
    refine wpList_append_grows w hg s x _ hop 35 i0 (.agg #[.bool false, .int .i64 0, .int .i64 0, .int .i64 0]) 4 32 Try.underlying25 hi0 hz0 hz1 hz2 rfl (by decide) A 0 0 [] hs (fun _ => ⟨rfl, rfl⟩) rfl (fun _ _ _ _ e => by simp at e) ⟨gx, 0, none⟩ 1 1 (ocells [y]) hx rfl hnews (ocells_one [y]) (by omega) (by unfold maxLen; omega) (by omega) fun v' w' hown' hgr => ?_
    obtain ⟨A', c', rfl, hr⟩ := OptsIn.of_own (n := 0 + 1) (L := [y]) (by simpa using hown')
    exact hK _ _ _ (hr.mono hB (Nat.le_refl _)) ⟨hgr.os, hgr.tape, hgr.output, hgr.size, fun k hk _ => hgr.block k hk (by simp)⟩
  · refine wpList_append_own w hg s x _ hop B 35 i0 (.agg #[.bool false, .int .i64 0, .int .i64 0, .int .i64 0]) 4 32 Try.underlying25 hi0 hz0 hz1 hz2 rfl (by decide) _ _ _ hs ho ⟨gx, 0, none⟩ 1 1 (ocells [y]) hx rfl hnews (ocells_one [y]) (by unfold maxLen; omega) (by omega) hB fun v' w' hown' hgr _ => ?_
    rw [← ocells_append] at hown'
    obtain ⟨A', c', rfl, hr⟩ := OptsIn.of_own hown'
    exact hK _ _ _ hr ⟨hgr.os, hgr.tape, hgr.output, hgr.size, fun k hk hb => hgr.block k hk (by simp [Value.ownBlock]; omega)⟩
end

end Go.Proofs.Ytbmmoncbklcbmaa
