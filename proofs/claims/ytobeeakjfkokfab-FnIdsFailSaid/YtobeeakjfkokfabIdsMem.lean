/- Connection identifiers in memory: three cells each. -/
import Derived.Test.YtobeeakjfkokfabRowMem
import Derived.Test.YtobeeakjfkokfabIdsLaws
namespace Go.Proofs.Ytobeeakjfkokfab
open Go.RowKit

def cells (L : List Cid) : List Value := L.flatMap fun c => [.int .i64 c.v, .int .i64 c.p, .bool c.r]
theorem cells_nil : cells [] = [] := rfl
theorem cells_cons (c : Cid) (L : List Cid) : cells (c :: L) = .int .i64 c.v :: .int .i64 c.p :: .bool c.r :: cells L := by unfold cells; simp
theorem cells_append (L M : List Cid) : cells (L ++ M) = cells L ++ cells M := by unfold cells; simp
theorem cells_len : ∀ L : List Cid, (cells L).length = L.length * 3
  | [] => rfl
  | c :: L => by rw [cells_cons]; simp [cells_len L]; omega
theorem cells_at : ∀ {L : List Cid} {i : Nat}, i < L.length → (cells L)[i * 3]? = some (.int .i64 (nth L i).v) ∧ (cells L)[i * 3 + 1]? = some (.int .i64 (nth L i).p) ∧ (cells L)[i * 3 + 2]? = some (.bool (nth L i).r)
  | [], i, h => by simp at h
  | c :: L, 0, _ => by rw [cells_cons]; exact ⟨rfl, rfl, rfl⟩
  | c :: L, i + 1, h => by
    have ih := cells_at (L := L) (i := i) (by simpa using h)
    have e : nth (c :: L) (i + 1) = nth L i := rfl
    rw [cells_cons, e, show (i + 1) * 3 = i * 3 + 1 + 1 + 1 from by omega]
    exact ih
theorem cells_one (L : List Cid) : ∀ u, u ∈ cells L → u.oneCell' = true := by
  induction L with
  | nil => intro u hu; simp [cells] at hu
  | cons c L ih =>
    intro u hu
    rw [cells_cons] at hu
    rcases List.mem_cons.1 hu with rfl | hu
    · rfl
    rcases List.mem_cons.1 hu with rfl | hu
    · rfl
    rcases List.mem_cons.1 hu with rfl | hu
    · rfl
    exact ih u hu
theorem cells_set : ∀ {L : List Cid} {k : Nat} (c : Cid), k < L.length → ((((cells L).set (k * 3) (.int .i64 c.v)).set (k * 3 + 1) (.int .i64 c.p)).set (k * 3 + 2) (.bool c.r)) = cells (L.set k c)
  | [], k, _, h => by simp at h
  | a :: L, 0, c, _ => rfl
  | a :: L, k + 1, c, h => by
    have e : (a :: L).set (k + 1) c = a :: L.set k c := rfl
    rw [e, cells_cons, cells_cons, show (k + 1) * 3 = k * 3 + 1 + 1 + 1 from by omega, ← cells_set c (by simpa using h)]
    rfl
theorem cells_setP : ∀ {L : List Cid} {k : Nat} (p : Int), k < L.length → (cells L).set (k * 3 + 1) (.int .i64 p) = cells (setP L k p)
  | [], k, _, h => by simp at h
  | a :: L, 0, p, _ => rfl
  | a :: L, k + 1, p, h => by
    have ih := cells_setP (L := L) (k := k) p (by simpa using h)
    have e : setP (a :: L) (k + 1) p = a :: setP L k p := rfl
    rw [e, cells_cons, cells_cons, show (k + 1) * 3 = k * 3 + 1 + 1 + 1 from by omega, ← ih]
    rfl
theorem cells_setR : ∀ {L : List Cid} {k : Nat}, k < L.length → (cells L).set (k * 3 + 2) (.bool true) = cells (setR L k)
  | [], k, h => by simp at h
  | a :: L, 0, _ => rfl
  | a :: L, k + 1, h => by
    have ih := cells_setR (L := L) (k := k) (by simpa using h)
    have e : setR (a :: L) (k + 1) = a :: setR L k := rfl
    rw [e, cells_cons, cells_cons, show (k + 1) * 3 = k * 3 + 1 + 1 + 1 from by omega, ← ih]
    rfl

/-- A slice of identifiers of our own, in a block from B on and below S. -/
def IdsIn (w : World) (B S : Nat) (A : Option Addr) (n c : Nat) (L : List Cid) : Prop := L.length = n ∧ RowIn 30 3 w B S A n c (cells L)

section
variable {w w' : World} {B S B' S' : Nat} {A : Option Addr} {n c : Nat} {L : List Cid}
theorem IdsIn.len (h : IdsIn w B S A n c L) : L.length = n := h.1
theorem IdsIn.cap (h : IdsIn w B S A n c L) : n ≤ c ∧ c ≤ maxLen := h.2.cap
theorem IdsIn.touch (h : IdsIn w B S A n c L) (t : Touch w w' B' S') (hd : S ≤ B' ∨ S' ≤ B) : IdsIn w' B S A n c L := ⟨h.1, h.2.touch t hd⟩
theorem IdsIn.below (h : IdsIn w B S A n c L) (hb : Below w.heap.size w w') : IdsIn w' B S A n c L := ⟨h.1, h.2.below hb⟩
theorem IdsIn.alloc (h : IdsIn w B S A n c L) (o : Obj) : IdsIn (w.alloc o) B S A n c L := ⟨h.1, h.2.alloc o⟩
theorem IdsIn.drew (h : IdsIn w B S A n c L) : IdsIn w.drew B S A n c L := h
theorem IdsIn.drewN (h : IdsIn w B S A n c L) (m : Nat) : IdsIn (w.drewN m) B S A n c L := h
theorem IdsIn.mono (h : IdsIn w B S A n c L) (h1 : B' ≤ B) (h2 : S ≤ S') : IdsIn w B' S' A n c L := ⟨h.1, h.2.mono h1 h2⟩
theorem IdsIn.empty {A : Option Addr} (w : World) (B S : Nat) : IdsIn w B S A 0 0 [] := ⟨rfl, RowIn.empty _ _ _ _ _⟩
/-- Where it lies, and what its cells hold. -/
theorem IdsIn.at_ (h : IdsIn w B S A n c L) (hn : 0 < n) : ∃ g, A = some ⟨g, 0, none⟩ ∧ B ≤ g ∧ g < S ∧ g < w.heap.size ∧ (∀ j, w.frozen? ⟨g, j, none⟩ = false) ∧
    ∀ i, i < n → w.cell? ⟨g, i * 3, none⟩ = some (.int .i64 (nth L i).v) ∧ w.cell? ⟨g, i * 3 + 1, none⟩ = some (.int .i64 (nth L i).p) ∧ w.cell? ⟨g, i * 3 + 2, none⟩ = some (.bool (nth L i).r) := by
  obtain ⟨g, rfl, hb, hs, hw, hc, hf⟩ := h.2.blk hn
  refine ⟨g, rfl, hb, hs, hw, hf, fun i hi => ?_⟩
  obtain ⟨e1, e2, e3⟩ := cells_at (L := L) (i := i) (by rw [h.1]; exact hi)
  exact ⟨(hc _ (by omega)).trans e1, (hc _ (by omega)).trans e2, (hc _ (by omega)).trans e3⟩
theorem IdsIn.of_own {v : Value} (h : w.ownsRow B 30 3 v n (cells L)) : ∃ A c, v = .slice A n c ∧ IdsIn w B w.heap.size A n c L := by
  obtain ⟨A, c, e, hr⟩ := RowIn.of_own h
  have hl := hr.1
  rw [cells_len] at hl
  exact ⟨A, c, e, by omega, hr⟩
theorem IdsIn.own (h : IdsIn w B S A n c L) (hn : 0 < n) : w.ownsRow B 30 3 (.slice A n c) n (cells L) := h.2.own hn
theorem IdsIn.storeP {g k : Nat} (h : IdsIn w B S (some ⟨g, 0, none⟩) n c L) (hk : k < n) (p : Int) : IdsIn (w.setCell ⟨g, k * 3 + 1, none⟩ (.int .i64 p)) B S (some ⟨g, 0, none⟩) n c (setP L k p) := by
  refine ⟨by rw [len_setP]; exact h.1, ?_⟩
  rw [← cells_setP p (by rw [h.1]; exact hk)]
  exact h.2.stored (by omega) _ _
theorem IdsIn.storeR {g k : Nat} (h : IdsIn w B S (some ⟨g, 0, none⟩) n c L) (hk : k < n) : IdsIn (w.setCell ⟨g, k * 3 + 2, none⟩ (.bool true)) B S (some ⟨g, 0, none⟩) n c (setR L k) := by
  refine ⟨by rw [len_setR]; exact h.1, ?_⟩
  rw [← cells_setR (by rw [h.1]; exact hk)]
  exact h.2.stored (by omega) _ _
theorem IdsIn.store {g k : Nat} (h : IdsIn w B S (some ⟨g, 0, none⟩) n c L) (hk : k < n) (x : Cid) :
    IdsIn (((w.setCell ⟨g, k * 3, none⟩ (.int .i64 x.v)).setCell ⟨g, k * 3 + 1, none⟩ (.int .i64 x.p)).setCell ⟨g, k * 3 + 2, none⟩ (.bool x.r)) B S (some ⟨g, 0, none⟩) n c (L.set k x) := by
  refine ⟨by rw [List.length_set]; exact h.1, ?_⟩
  rw [← cells_set x (by rw [h.1]; exact hk)]
  exact ((h.2.stored (by omega) _ _).stored (by omega) _ _).stored (by omega) _ _
end

/-- A slice of identifiers that came in, wherever it lies. -/
def LawIds (w : World) (A : Option Addr) (n : Nat) (L : List Cid) : Prop :=
  L.length = n ∧ (0 < n → ∃ b off, A = some ⟨b, off, none⟩ ∧ b < w.heap.size ∧ ∀ i, i < n → w.cell? ⟨b, off + i * 3, none⟩ = some (.int .i64 (nth L i).v) ∧ w.cell? ⟨b, off + i * 3 + 1, none⟩ = some (.int .i64 (nth L i).p) ∧ w.cell? ⟨b, off + i * 3 + 2, none⟩ = some (.bool (nth L i).r))
theorem LawIds.below {w w' : World} {A : Option Addr} {n : Nat} {L : List Cid} (h : LawIds w A n L) (hb : Below w.heap.size w w') : LawIds w' A n L :=
  ⟨h.1, fun hn => by
    obtain ⟨b, off, rfl, hlt, hc⟩ := h.2 hn
    refine ⟨b, off, rfl, Nat.lt_of_lt_of_le hlt hb.size, fun i hi => ?_⟩
    obtain ⟨h0, h1, h2⟩ := hc i hi
    exact ⟨(hb.cell (p := ⟨b, _, none⟩) hlt).trans h0, (hb.cell (p := ⟨b, _, none⟩) hlt).trans h1, (hb.cell (p := ⟨b, _, none⟩) hlt).trans h2⟩⟩

theorem cells_take_succ {L : List Cid} {k : Nat} (h : k < L.length) : cells (L.take k) ++ [.int .i64 (nth L k).v, .int .i64 (nth L k).p, .bool (nth L k).r] = cells (L.take (k + 1)) := by
  rw [List.take_succ_eq_append_getElem h, cells_append, ← nth_eq h]
  rfl

end Go.Proofs.Ytobeeakjfkokfab
