/- The reference's order of paths: one insertion after the other, each in a new slice. -/
import Derived.Test.YtbmmoncbklcbmaaSort
import Derived.Deep.RegionLaw
import Derived.Deep.AppendLies
import Derived.Deep.RegionHeld3
namespace Go.Proofs.Ytbmmoncbklcbmaa
open Go.RowKit

theorem mid (Q : List Nat) (y : Nat) (T : List Nat) : inth (ints (Q ++ y :: T)) Q.length = y := by
  rw [inth_ints, List.getD_eq_getElem?_getD, List.getElem?_append_right (Nat.le_refl _)]
  simp

/-- The slice at the head of block g is one's own. -/
def OwnI (w : World) (B g n c : Nat) (xs : List Int) : Prop := w.ownsRow B 3 1 (.slice (some ⟨g, 0, none⟩) n c) n (icells xs) ∧ g < w.heap.size
section
variable {w w' : World} {B g n c : Nat} {xs : List Int}
theorem OwnI.in_ (h : OwnI w B g n c xs) : IntsIn w B w.heap.size (some ⟨g, 0, none⟩) n c xs := by
  have e := IntsIn.of_own h.1
  obtain ⟨A', c', e', hr⟩ := e
  cases e'
  exact hr
theorem OwnI.below (h : OwnI w B g n c xs) (hb : Below w.heap.size w w') : OwnI w' B g n c xs := by
  refine ⟨⟨h.1.1, ?_⟩, Nat.lt_of_lt_of_le h.2 hb.size⟩
  rcases h.1.2 with e | ⟨g', c', cur, e, h1, h2, h3⟩
  · exact .inl e
  · cases e
    exact .inr ⟨g, c, cur, rfl, h1, (hb.block g h.2).trans h2, h3⟩
end
theorem own_empty {w : World} {B g : Nat} (h : w.heap[g]? = some (.cells #[] 3 (0, 0))) (hB : B ≤ g) : OwnI w B g 0 0 [] :=
  ⟨⟨rfl, .inr ⟨g, 0, #[], rfl, hB, h, Nat.le_refl _, by unfold maxLen; omega, rfl, rfl⟩⟩, (Array.getElem?_eq_some_iff.1 h).1⟩

theorem alloc2_new (w : World) (o o' : Obj) : ((w.alloc o).alloc o').heap[w.heap.size + 1]? = some o' := by
  have h := heap_alloc_new (w.alloc o) o'
  simpa using h
theorem grown_self (w : World) (r : Option Nat) : w.grownBy w r := ⟨rfl, rfl, rfl, Nat.le_refl _, fun _ _ _ => rfl⟩
theorem OwnI.ge {w : World} {B g n c : Nat} {xs : List Int} (h : OwnI w B g n c xs) : B ≤ g := by
  rcases h.1.2 with ⟨e, _⟩ | ⟨g', c', cur, e, h1, _⟩
  · cases e
  · cases e
    exact h1
theorem OwnI.base {w : World} {B B' g n c : Nat} {xs : List Int} (h : OwnI w B g n c xs) (hB : B' ≤ B) : OwnI w B' g n c xs := by
  refine ⟨⟨h.1.1, ?_⟩, h.2⟩
  rcases h.1.2 with e | ⟨g', c', cur, e, h1, h2⟩
  · exact .inl e
  · exact .inr ⟨g', c', cur, e, by omega, h2⟩
theorem below_grown_new {w W w2 : World} {gs : Nat} (h : Below w.heap.size w W) (hg : W.grownBy w2 (some gs)) (hgs : w.heap.size ≤ gs) : Below w.heap.size w w2 :=
  ⟨hg.os.trans h.os, hg.tape.trans h.tape, hg.output.trans h.output, Nat.le_trans h.size hg.size, fun k hk => (hg.block k (Nat.lt_of_lt_of_le hk h.size) (by intro e; injection e with e; omega)).trans (h.block k hk)⟩
/-- append, at a step of a region that draws its order: numbers onto numbers of one's own. -/
theorem step_app {ops : Array Oper} {o : Oper} {a : Act} {w : World} {K : Act → World → Prop} {Q : Exit → Act → World → Prop} {E : Prop}
    (hgd : o.guard = none) (s x : Operand) (ho : o.op = .call { callee := .builtin .append, args := #[s, x], argTypes := #[31, 31] })
    (B gs ns cs : Nat) (xs : List Int) (hs : a.eval s = .slice (some ⟨gs, 0, none⟩) ns cs) (hown : OwnI w B gs ns cs xs) (hbase : B ≤ w.heap.size)
    (ao : Option Addr) (m c : Nat) (ys : List Int) (hx : a.eval x = .slice ao m c) (hl : ys.length = m) (hnone : ao = none → c = 0) (hnews : 0 < m → ∃ ad, ao = some ad ∧ ∀ j, j < m → w.cell? (ad.add j) = some (.int .i64 (inth ys j))) (hb : ns + m ≤ 2000000) (N : Nat) (hN : ns + m = N) (zs : List Int) (hz : xs ++ ys = zs)
    (h : ∀ g cap w', OwnI w' B g N cap zs → w.grownBy w' (some gs) → K (a.put o.dst (.slice (some ⟨g, 0, none⟩) N cap)) w') :
    if Region.wanted o (yielded ops a.tmps) = true then Oper.wp Try.prog o a w K Q else E := by
  subst hN
  subst hz
  obtain ⟨i0, hi0, hz0, hz1, hz2⟩ := info_parts info_int
  rcases Nat.eq_zero_or_pos m with rfl | hm
  · obtain rfl : ys = [] := List.eq_nil_of_length_eq_zero hl
    have hw : Region.wanted o (yielded ops a.tmps) = true := by simp [Region.wanted, hgd]
    rw [if_pos hw]
    have hcap : ns ≤ cs := hown.in_.cap.1
    have hrun : (Builtin.append_ #[31, 31] o.type #[.slice (some ⟨gs, 0, none⟩) ns cs, .slice ao 0 c]).run Try.prog w = .ok (.slice (some ⟨gs, 0, none⟩) ns cs) w := by
      cases ao with
      | some ad =>
        have hfc := run_firstCells_some (P := Try.prog) w i0.size 0 ad 0 c [] (by simp) (by intro j u hj; simp at hj)
        simp [Builtin.append_, run_underlying Try.underlying31, sizeOf, typeInfo, hi0, Builtin.lenOf, hcap, hfc, storeCells]
      | none =>
        obtain rfl := hnone rfl
        simp [Builtin.append_, run_underlying Try.underlying31, sizeOf, typeInfo, hi0, Builtin.lenOf, hcap, Builtin.firstCells, storeCells]
    have hk := h gs cs w (by simpa using hown) (grown_self w _)
    unfold Oper.wp
    simp [execOp, ho, resolve, invoke, builtin, hs, hx, hrun, Result.andThen]
    exact hk
  · obtain ⟨ad, rfl, hnw⟩ := hnews hm
    refine step_append_lies w hgd s x _ ho B 3 i0 (.int .i64 0) 1 8 Try.underlying31 hi0 hz0 hz1 hz2 rfl (by decide) _ ns (icells xs) hs hown.1 ad m c (icells ys) hx (by rw [icells_len, hl]; omega) ?_ (icells_one ys) hm (by unfold maxLen; omega) (by omega) hbase _ rfl fun g cap w' h1 h2 _ h4 => ?_
    · intro j u hj
      have hjm : j < m := by
        have := (List.getElem?_eq_some_iff.1 hj).1
        rw [icells_len] at this
        omega
      rw [icells_at (by omega)] at hj
      rw [hnw j hjm, ← hj]
    · rw [show icells xs ++ icells ys = icells (xs ++ ys) from by unfold icells; simp] at h1
      exact h g cap w' ⟨h1, h4⟩ h2

end Go.Proofs.Ytbmmoncbklcbmaa
