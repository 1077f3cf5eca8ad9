/- Rows of cells in memory: a slice whose elements have k cells each, in a block between two bounds; what stands when other blocks turn. -/
import Derived.WalkKit
import Derived.Below
import Derived.Lib.Hide
import Derived.Laws.OwnMore
import Derived.OwnWalk
import Derived.ArgAppend
import Derived.Deep.QuietTactic
import Derived.BigQuiet
namespace Go.Proofs.Ytmkmaeblnnfheab
open Go.RowKit

theorem hid_of {p : Prop} (h : p) : Hid p := h

/-- Of the blocks that were there, only those from B on and below S may have turned. -/
structure Touch (w w' : World) (B S : Nat) : Prop where
  os : w'.os = w.os
  tape : w'.tape = w.tape
  output : w'.output = w.output
  size : w.heap.size ≤ w'.heap.size
  block : ∀ k, k < w.heap.size → (k < B ∨ S ≤ k) → w'.heap[k]? = w.heap[k]?

section
variable {w w' w'' : World} {B S B' S' : Nat}
theorem Touch.refl (w : World) (B S : Nat) : Touch w w B S := ⟨rfl, rfl, rfl, Nat.le_refl _, fun _ _ _ => rfl⟩
theorem Touch.of_below (h : Below w.heap.size w w') (B S : Nat) : Touch w w' B S := ⟨h.os, h.tape, h.output, h.size, fun k hk _ => h.block k hk⟩
theorem Touch.trans (h : Touch w w' B S) (k : Touch w' w'' B S) : Touch w w'' B S :=
  ⟨k.os.trans h.os, k.tape.trans h.tape, k.output.trans h.output, Nat.le_trans h.size k.size, fun i hi hb => (k.block i (Nat.lt_of_lt_of_le hi h.size) hb).trans (h.block i hi hb)⟩
theorem Touch.drew (h : Touch w w' B S) : Touch w w'.drew B S := ⟨h.os, h.tape, h.output, h.size, h.block⟩
theorem Touch.drewN (h : Touch w w' B S) (n : Nat) : Touch w (w'.drewN n) B S := ⟨h.os, h.tape, h.output, h.size, h.block⟩
theorem Touch.alloc (h : Touch w w' B S) (o : Obj) : Touch w (w'.alloc o) B S :=
  ⟨h.os, h.tape, h.output, Nat.le_trans h.size (by simp), fun i hi hb => (Below.heap_alloc w' o i (Nat.lt_of_lt_of_le hi h.size)).trans (h.block i hi hb)⟩
theorem Touch.setCell (h : Touch w w' B S) {p : Addr} (hp : B ≤ p.block) (hp' : p.block < S) (u : Value) : Touch w (w'.setCell p u) B S :=
  ⟨h.os, h.tape, h.output, by simpa [World.setCell] using h.size, fun i hi hb => (Below.heap_setCell w' p u i (by omega)).trans (h.block i hi hb)⟩
theorem Touch.setNew (h : Touch w w' B S) {p : Addr} (hp : w.heap.size ≤ p.block) (u : Value) : Touch w (w'.setCell p u) B S :=
  ⟨h.os, h.tape, h.output, by simpa [World.setCell] using h.size, fun i hi hb => (Below.heap_setCell w' p u i (by omega)).trans (h.block i hi hb)⟩
theorem below_touch {W : World} (h : Below B W w) (t : Touch w w' B' S') (h1 : B ≤ B') (h2 : B ≤ w.heap.size) : Below B W w' :=
  ⟨t.os.trans h.os, t.tape.trans h.tape, t.output.trans h.output, Nat.le_trans h.size t.size, fun k hk => (t.block k (by omega) (.inl (by omega))).trans (h.block k hk)⟩
theorem below_drewN {W : World} (h : Below B W w) (n : Nat) : Below B W (w.drewN n) := ⟨h.os, h.tape, h.output, h.size, h.block⟩
theorem grown_of_touch (h : Touch w w' B B) : w.grownBy w' none := ⟨h.os, h.tape, h.output, h.size, fun k hk _ => h.block k hk (by omega)⟩
theorem below_of_none (h : w.grownBy w' none) : Below w.heap.size w w' := ⟨h.os, h.tape, h.output, h.size, fun k hk => h.block k hk (by simp)⟩
end

/-- The slice at A of n elements (capacity c) of type T, k cells each: its cells are xs; unless it is empty it lies at the head of a block of its own, from B on and below S. -/
def RowIn (T : TypeId) (k : Nat) (w : World) (B S : Nat) (A : Option Addr) (n c : Nat) (xs : List Value) : Prop :=
  xs.length = n * k ∧ ((n = 0 ∧ c = 0) ∨ (w.ownsRow B T k (.slice A n c) n xs ∧ ∃ g, A = some ⟨g, 0, none⟩ ∧ B ≤ g ∧ g < S ∧ g < w.heap.size))

section
variable {T : TypeId} {k : Nat} {w w' : World} {B S B' S' : Nat} {A : Option Addr} {n c : Nat} {xs : List Value}
theorem RowIn.len (h : RowIn T k w B S A n c xs) : xs.length = n * k := h.1
theorem RowIn.cap (h : RowIn T k w B S A n c xs) : n ≤ c ∧ c ≤ maxLen := by
  rcases h.2 with ⟨rfl, rfl⟩ | ⟨ho, g, rfl, _⟩
  · exact ⟨Nat.le_refl _, by unfold maxLen; omega⟩
  · rcases ho.2 with ⟨h1, _⟩ | ⟨g', c', cur, h1, _, _, h2, h3, _⟩
    · cases h1
    · cases h1
      exact ⟨h2, h3⟩
/-- The block. -/
theorem RowIn.blk (h : RowIn T k w B S A n c xs) (hn : 0 < n) : ∃ g, A = some ⟨g, 0, none⟩ ∧ B ≤ g ∧ g < S ∧ g < w.heap.size ∧ (∀ j, j < n * k → w.cell? ⟨g, j, none⟩ = xs[j]?) ∧ ∀ j, w.frozen? ⟨g, j, none⟩ = false := by
  rcases h.2 with ⟨rfl, _⟩ | ⟨ho, g, rfl, hb, hs, hw⟩
  · omega
  · exact ⟨g, rfl, hb, hs, hw, fun j hj => ho.cellAt j hj, fun j => ho.frozenAt j⟩
theorem RowIn.own (h : RowIn T k w B S A n c xs) (hn : 0 < n) : w.ownsRow B T k (.slice A n c) n xs := by
  rcases h.2 with ⟨rfl, _⟩ | ⟨ho, _⟩
  · omega
  · exact ho
theorem RowIn.same (h : RowIn T k w B S A n c xs) (hs : w.heap.size ≤ w'.heap.size) (hb : ∀ g, A = some ⟨g, 0, none⟩ → B ≤ g → g < S → w'.heap[g]? = w.heap[g]?) : RowIn T k w' B S A n c xs := by
  refine ⟨h.1, ?_⟩
  rcases h.2 with h0 | ⟨ho, g, rfl, h1, h2, h3⟩
  · exact .inl h0
  · refine .inr ⟨⟨ho.1, ?_⟩, g, rfl, h1, h2, Nat.lt_of_lt_of_le h3 hs⟩
    rcases ho.2 with e | ⟨g', c', cur, e, r1, r2, r⟩
    · exact .inl e
    · refine .inr ⟨g', c', cur, e, r1, ?_, r⟩
      cases e
      rw [hb g rfl h1 h2]
      exact r2
theorem RowIn.touch (h : RowIn T k w B S A n c xs) (t : Touch w w' B' S') (hd : S ≤ B' ∨ S' ≤ B) : RowIn T k w' B S A n c xs := by
  rcases h.2 with ⟨rfl, rfl⟩ | ⟨_, g, rfl, _, _, h3⟩
  · exact ⟨h.1, .inl ⟨rfl, rfl⟩⟩
  · refine h.same t.size fun g' e h1 h2 => ?_
    cases e
    exact t.block g h3 (by omega)
theorem RowIn.below (h : RowIn T k w B S A n c xs) (hb : Below w.heap.size w w') : RowIn T k w' B S A n c xs := by
  rcases h.2 with ⟨rfl, rfl⟩ | ⟨_, g, rfl, _, _, h3⟩
  · exact ⟨h.1, .inl ⟨rfl, rfl⟩⟩
  · refine h.same hb.size fun g' e _ _ => ?_
    cases e
    exact hb.block g h3
theorem RowIn.grown (h : RowIn T k w B S A n c xs) (hg : w.grownBy w' none) : RowIn T k w' B S A n c xs := h.below (below_of_none hg)
theorem RowIn.alloc (h : RowIn T k w B S A n c xs) (o : Obj) : RowIn T k (w.alloc o) B S A n c xs := h.below ((Below.refl _ _).alloc (Nat.le_refl _) o)
theorem RowIn.drew (h : RowIn T k w B S A n c xs) : RowIn T k w.drew B S A n c xs := h
theorem RowIn.drewN (h : RowIn T k w B S A n c xs) (m : Nat) : RowIn T k (w.drewN m) B S A n c xs := h
theorem RowIn.other (h : RowIn T k w B S A n c xs) {p : Addr} (hp : A ≠ some ⟨p.block, 0, none⟩) (u : Value) : RowIn T k (w.setCell p u) B S A n c xs :=
  h.same (by simp [World.setCell]) fun g e _ _ => Below.heap_setCell w p u g fun e2 => hp (by rw [e, e2])
theorem RowIn.mono (h : RowIn T k w B S A n c xs) (h1 : B' ≤ B) (h2 : S ≤ S') : RowIn T k w B' S' A n c xs := by
  refine ⟨h.1, ?_⟩
  rcases h.2 with h0 | ⟨ho, g, rfl, r1, r2, r3⟩
  · exact .inl h0
  · refine .inr ⟨⟨ho.1, ?_⟩, g, rfl, by omega, by omega, r3⟩
    rcases ho.2 with e | ⟨g', c', cur, e, q1, q⟩
    · exact .inl e
    · exact .inr ⟨g', c', cur, e, by omega, q⟩
theorem RowIn.stored {g : Nat} (h : RowIn T k w B S (some ⟨g, 0, none⟩) n c xs) (hn : 0 < n) (j : Nat) (u : Value) : RowIn T k (w.setCell ⟨g, j, none⟩ u) B S (some ⟨g, 0, none⟩) n c (xs.set j u) := by
  rcases h.2 with ⟨rfl, _⟩ | ⟨ho, g', e, r1, r2, r3⟩
  · omega
  · cases e
    exact ⟨by rw [List.length_set]; exact h.1, .inr ⟨(ho.stored j u).1, g, rfl, r1, r2, by simpa [World.setCell] using r3⟩⟩
/-- What a law on owned rows leaves. -/
theorem RowIn.of_own {v : Value} (h : w.ownsRow B T k v n xs) : ∃ A c, v = .slice A n c ∧ RowIn T k w B w.heap.size A n c xs := by
  rcases h.2 with ⟨rfl, rfl⟩ | ⟨g, c, cur, rfl, r1, r2, r⟩
  · exact ⟨none, 0, rfl, h.1, .inl ⟨rfl, rfl⟩⟩
  · have hlt := (Array.getElem?_eq_some_iff.1 r2).1
    exact ⟨_, c, rfl, h.1, .inr ⟨h, g, rfl, r1, hlt, hlt⟩⟩
theorem RowIn.of_own' {c : Nat} (h : w.ownsRow B T k (.slice A n c) n xs) : RowIn T k w B w.heap.size A n c xs := by
  obtain ⟨A', c', e, hr⟩ := RowIn.of_own h
  cases e
  exact hr
theorem RowIn.empty {A : Option Addr} (T : TypeId) (k : Nat) (w : World) (B S : Nat) : RowIn T k w B S A 0 0 [] := ⟨by simp, .inl ⟨rfl, rfl⟩⟩
end

section
variable {T : TypeId} {w : World} {B S : Nat} {n c g k : Nat} {X R : List Value}
/-- Element k of three cells is stored: one element more is known. -/
theorem RowIn.fill3 (h : RowIn T 3 w B S (some ⟨g, 0, none⟩) n c (X ++ R)) (hX : X.length = k * 3) (hR : R.length = (n - k) * 3) (hk : k < n) (u0 u1 u2 : Value) :
    ∃ R', R'.length = (n - (k + 1)) * 3 ∧ RowIn T 3 (((w.setCell ⟨g, k * 3, none⟩ u0).setCell ⟨g, k * 3 + 1, none⟩ u1).setCell ⟨g, k * 3 + 2, none⟩ u2) B S (some ⟨g, 0, none⟩) n c ((X ++ [u0, u1, u2]) ++ R') := by
  obtain ⟨a, b, d, R', rfl⟩ : ∃ a b d R', R = a :: b :: d :: R' := by
    match R, hR with
    | a :: b :: d :: R', _ => exact ⟨a, b, d, R', rfl⟩
    | [], h => simp at h; omega
    | [_], h => simp at h; omega
    | [_, _], h => simp at h; omega
  refine ⟨R', by simp at hR; omega, ?_⟩
  have e := ((h.stored (by omega) (k * 3) u0).stored (by omega) (k * 3 + 1) u1).stored (by omega) (k * 3 + 2) u2
  have e2 : (((X ++ a :: b :: d :: R').set (k * 3) u0).set (k * 3 + 1) u1).set (k * 3 + 2) u2 = (X ++ [u0, u1, u2]) ++ R' := by
    rw [List.set_append_right _ _ (by omega), show k * 3 - X.length = 0 from by omega, List.set_cons_zero]
    rw [List.set_append_right _ _ (by omega), show k * 3 + 1 - X.length = 0 + 1 from by omega, List.set_cons_succ, List.set_cons_zero]
    rw [List.set_append_right _ _ (by omega), show k * 3 + 2 - X.length = 0 + 1 + 1 from by omega, List.set_cons_succ, List.set_cons_succ, List.set_cons_zero]
    simp
  rw [e2] at e
  exact e
/-- The cells below n elements are there. -/
theorem RowIn.some_ {j : Nat} (h : RowIn T k w B S (some ⟨g, 0, none⟩) n c X) (hn : 0 < n) (hj : j < n * k) : ∃ v, w.cell? ⟨g, j, none⟩ = some v := by
  obtain ⟨g', e, _, _, _, hc, _⟩ := h.blk hn
  cases e
  exact ⟨_, (hc j hj).trans (List.getElem?_eq_getElem (by rw [h.1]; exact hj))⟩
end

end Go.Proofs.Ytmkmaeblnnfheab
