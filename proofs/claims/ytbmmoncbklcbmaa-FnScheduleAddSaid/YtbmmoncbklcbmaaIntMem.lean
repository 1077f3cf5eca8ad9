/- Rows of integers in memory: what is read (IntsAt), what is one's own (IntsIn); one is appended, one is stored. -/
import Derived.Test.YtbmmoncbklcbmaaRowMem
import Derived.Test.YtbmmoncbklcbmaaChecked
import Derived.KernelRfl
namespace Go.Proofs.Ytbmmoncbklcbmaa
open Go.RowKit

theorem info_int : (Try.prog.info? 3).map (fun i => (i.zero, i.size, i.bytes)) = some (some (.int .i64 0), 1, 8) := by kernel_rfl

def inth (xs : List Int) (i : Nat) : Int := xs.getD i 0
theorem inth_eq {xs : List Int} {i : Nat} (h : i < xs.length) : inth xs i = xs[i] := by
  unfold inth
  rw [List.getD_eq_getElem?_getD, List.getElem?_eq_getElem h]
  rfl
theorem inth_set (L : List Int) (k : Nat) (c : Int) (i : Nat) : inth (L.set k c) i = if i = k ∧ k < L.length then c else inth L i := by
  unfold inth
  rw [List.getD_eq_getElem?_getD, List.getElem?_set, List.getD_eq_getElem?_getD]
  by_cases h : k = i
  · subst h
    by_cases h2 : k < L.length
    · simp [h2]
    · simp [h2]
  · have : ¬ (i = k ∧ k < L.length) := by omega
    simp [h, this]

/-- The slice at A of n integers reads xs. -/
def IntsAt (w : World) (A : Option Addr) (n : Nat) (xs : List Int) : Prop :=
  xs.length = n ∧ (0 < n → ∃ b off, A = some ⟨b, off, none⟩ ∧ b < w.heap.size ∧ ∀ i, i < n → w.cell? ⟨b, off + i, none⟩ = some (.int .i64 (inth xs i)))
theorem IntsAt.below {w w' : World} {A : Option Addr} {n : Nat} {xs : List Int} (h : IntsAt w A n xs) (hb : Below w.heap.size w w') : IntsAt w' A n xs :=
  ⟨h.1, fun hn => by
    obtain ⟨b, off, rfl, hlt, hc⟩ := h.2 hn
    exact ⟨b, off, rfl, Nat.lt_of_lt_of_le hlt hb.size, fun i hi => (hb.cell (p := ⟨b, _, none⟩) hlt).trans (hc i hi)⟩⟩
theorem IntsAt.empty (w : World) (A : Option Addr) : IntsAt w A 0 [] := ⟨rfl, fun h => by omega⟩
theorem IntsAt.touch {w w' : World} {B S : Nat} {A : Option Addr} {n : Nat} {xs : List Int} (h : IntsAt w A n xs) (t : Touch w w' B S) (hd : ∀ b off, A = some ⟨b, off, none⟩ → b < B ∨ S ≤ b) : IntsAt w' A n xs :=
  ⟨h.1, fun hn => by
    obtain ⟨b, off, rfl, hlt, hc⟩ := h.2 hn
    exact ⟨b, off, rfl, Nat.lt_of_lt_of_le hlt t.size, fun i hi => (World.cell?_of_block (w := w) (a := ⟨b, off + i, none⟩) (t.block b hlt (hd b off rfl))).trans (hc i hi)⟩⟩

def icells (xs : List Int) : List Value := xs.map (Value.int .i64)
theorem icells_len (xs : List Int) : (icells xs).length = xs.length := by unfold icells; simp
theorem icells_at {xs : List Int} {i : Nat} (h : i < xs.length) : (icells xs)[i]? = some (.int .i64 (inth xs i)) := by
  unfold icells
  rw [List.getElem?_map, List.getElem?_eq_getElem h, inth_eq h]
  rfl
theorem icells_set (xs : List Int) (i : Nat) (v : Int) : (icells xs).set i (.int .i64 v) = icells (xs.set i v) := by unfold icells; rw [List.map_set]
theorem icells_one (xs : List Int) : ∀ u ∈ icells xs, u.oneCell' = true := by
  intro u hu
  obtain ⟨_, _, rfl⟩ := List.mem_map.1 hu
  rfl

/-- A slice of integers of our own, in a block from B on and below S. -/
def IntsIn (w : World) (B S : Nat) (A : Option Addr) (n c : Nat) (xs : List Int) : Prop := xs.length = n ∧ RowIn 3 1 w B S A n c (icells xs)

section
variable {w w' : World} {B S B' S' : Nat} {A : Option Addr} {n c : Nat} {xs : List Int}
theorem IntsIn.cap (h : IntsIn w B S A n c xs) : n ≤ c ∧ c ≤ maxLen := h.2.cap
theorem IntsIn.below (h : IntsIn w B S A n c xs) (hb : Below w.heap.size w w') : IntsIn w' B S A n c xs := ⟨h.1, h.2.below hb⟩
theorem IntsIn.touch (h : IntsIn w B S A n c xs) (t : Touch w w' B' S') (hd : S ≤ B' ∨ S' ≤ B) : IntsIn w' B S A n c xs := ⟨h.1, h.2.touch t hd⟩
theorem IntsIn.alloc (h : IntsIn w B S A n c xs) (o : Obj) : IntsIn (w.alloc o) B S A n c xs := ⟨h.1, h.2.alloc o⟩
theorem IntsIn.drew (h : IntsIn w B S A n c xs) : IntsIn w.drew B S A n c xs := h
theorem IntsIn.drewN (h : IntsIn w B S A n c xs) (m : Nat) : IntsIn (w.drewN m) B S A n c xs := h
theorem IntsIn.mono (h : IntsIn w B S A n c xs) (h1 : B' ≤ B) (h2 : S ≤ S') : IntsIn w B' S' A n c xs := ⟨h.1, h.2.mono h1 h2⟩
theorem IntsIn.empty (w : World) (B S : Nat) (A : Option Addr) : IntsIn w B S A 0 0 [] := ⟨rfl, RowIn.empty _ _ _ _ _⟩
theorem IntsIn.at_ (h : IntsIn w B S A n c xs) (hn : 0 < n) : ∃ g, A = some ⟨g, 0, none⟩ ∧ B ≤ g ∧ g < S ∧ g < w.heap.size ∧ (∀ j, w.frozen? ⟨g, j, none⟩ = false) ∧ ∀ i, i < n → w.cell? ⟨g, i, none⟩ = some (.int .i64 (inth xs i)) := by
  obtain ⟨g, rfl, hb, hs, hw, hc, hf⟩ := h.2.blk hn
  exact ⟨g, rfl, hb, hs, hw, hf, fun i hi => (hc i (by omega)).trans (icells_at (by rw [h.1]; exact hi))⟩
theorem IntsIn.reads (h : IntsIn w B S A n c xs) : IntsAt w A n xs :=
  ⟨h.1, fun hn => by
    obtain ⟨g, rfl, _, _, hw, _, hc⟩ := h.at_ hn
    exact ⟨g, 0, rfl, hw, fun i hi => by rw [Nat.zero_add]; exact hc i hi⟩⟩
theorem IntsIn.of_own {v : Value} (h : w.ownsRow B 3 1 v n (icells xs)) : ∃ A c, v = .slice A n c ∧ IntsIn w B w.heap.size A n c xs := by
  obtain ⟨A, c, e, hr⟩ := RowIn.of_own h
  have hl := hr.1
  rw [icells_len] at hl
  exact ⟨A, c, e, by omega, hr⟩
theorem IntsIn.store {g k : Nat} (h : IntsIn w B S (some ⟨g, 0, none⟩) n c xs) (hn : 0 < n) (v : Int) : IntsIn (w.setCell ⟨g, k, none⟩ (.int .i64 v)) B S (some ⟨g, 0, none⟩) n c (xs.set k v) := by
  refine ⟨by rw [List.length_set]; exact h.1, ?_⟩
  rw [← icells_set]
  exact h.2.stored hn _ _
end

section
variable {ops : Array Oper} {rest : List Oper} {o : Oper} {a : Act} {Q : Exit → Act → World → Prop}
/-- One integer is appended. -/
theorem wpList_snoc_ints (w : World) (hg : o.guard = none) (s x : Operand) (hop : o.op = Op.call { callee := Callee.builtin Builtin.append, args := #[s, x], argTypes := #[31, 31] })
    {B S n c gx : Nat} {A : Option Addr} {xs : List Int} (y : Int) (hs : a.eval s = .slice A n c) (h : IntsIn w B S A n c xs) (hB : B ≤ w.heap.size) (hn : n ≤ 2000000)
    (hx : a.eval x = .slice (some ⟨gx, 0, none⟩) 1 1) (hc0 : w.cell? ⟨gx, 0, none⟩ = some (.int .i64 y))
    (hK : ∀ A' c' w', IntsIn w' B w'.heap.size A' (n + 1) c' (xs ++ [y]) → Touch w w' B S → wpList Try.prog ops Q rest (a.put o.dst (.slice A' (n + 1) c')) w') :
    wpList Try.prog ops Q (o :: rest) a w := by
  obtain ⟨i0, hi0, hz0, hz1, hz2⟩ := info_parts info_int
  have hnews : ∀ j u, (icells [y])[j]? = some u → w.cell? ((⟨gx, 0, none⟩ : Addr).add j) = some u := by
    intro j u hj
    rw [Addr.add_lit, Nat.zero_add]
    have e : icells [y] = [.int .i64 y] := rfl
    rw [e] at hj
    match j, hj with
    | 0, hj => simp at hj; rw [hc0, hj]
    | j + 1, hj => simp at hj
  rcases h.2.2 with ⟨rfl, rfl⟩ | ⟨ho, g, rfl, h1, h2, h3⟩
  · obtain rfl : xs = [] := List.eq_nil_of_length_eq_zero h.1
    refine wpList_append_grows w hg s x _ hop 3 i0 (.int .i64 0) 1 8 Try.underlying31 hi0 hz0 hz1 hz2 rfl (by decide) A 0 0 [] hs (fun _ => ⟨rfl, rfl⟩) rfl (fun _ _ _ _ e => by simp at e) ⟨gx, 0, none⟩ 1 1 (icells [y]) hx rfl hnews (icells_one [y]) (by omega) (by unfold maxLen; omega) (by omega) fun v' w' hown' hgr => ?_
    obtain ⟨A', c', rfl, hr⟩ := IntsIn.of_own (n := 0 + 1) (xs := [y]) (by simpa using hown')
    exact hK _ _ _ (hr.mono hB (Nat.le_refl _)) ⟨hgr.os, hgr.tape, hgr.output, hgr.size, fun k hk _ => hgr.block k hk (by simp)⟩
  · refine wpList_append_own w hg s x _ hop B 3 i0 (.int .i64 0) 1 8 Try.underlying31 hi0 hz0 hz1 hz2 rfl (by decide) _ _ _ hs ho ⟨gx, 0, none⟩ 1 1 (icells [y]) hx rfl hnews (icells_one [y]) (by unfold maxLen; omega) (by omega) hB fun v' w' hown' hgr _ => ?_
    rw [show icells xs ++ icells [y] = icells (xs ++ [y]) from by unfold icells; simp] at hown'
    obtain ⟨A', c', rfl, hr⟩ := IntsIn.of_own hown'
    exact hK _ _ _ hr ⟨hgr.os, hgr.tape, hgr.output, hgr.size, fun k hk hb => hgr.block k hk (by simp [Value.ownBlock]; omega)⟩
end

end Go.Proofs.Ytbmmoncbklcbmaa
