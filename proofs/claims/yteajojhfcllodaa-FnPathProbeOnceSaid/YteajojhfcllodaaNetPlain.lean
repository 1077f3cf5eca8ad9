/- A path in five cells of a block, over draws, new blocks and stores; the bounds of a drawn path. -/
import Derived.Test.YteajojhfcllodaaDraw
import Derived.Test.YteajojhfcllodaaPathPlain
namespace Go.Proofs.Yteajojhfcllodaa
open Go.RowKit

/-- The fields of a drawn path are small. -/
def Bd (q : Pth) : Prop := (-1 ≤ q.s ∧ q.s ≤ 10000) ∧ (-1 ≤ q.t ∧ q.t ≤ 10000) ∧ (-1 ≤ q.r ∧ q.r ≤ 10000) ∧ (-1 ≤ q.x ∧ q.x ≤ 10000) ∧ (-1 ≤ q.d ∧ q.d ≤ 10000)

theorem bd_zero : Bd pzero := by unfold Bd pzero; simp

theorem bd_probe {p q : Pth} {b : Bool} {tok now tmo : Int} (hp : Bd p) (h : probe p tok now tmo = (q, b)) : Bd q := by
  unfold probe at h
  split at h
  · split at h
    · cases h
      unfold Bd at *
      dsimp only
      omega
    · cases h
      exact hp
  · cases h
    exact bd_zero
theorem bd_answer {p q : Pth} {b : Bool} {tok : Int} (hp : Bd p) (h : answer p tok = (q, b)) : Bd q := by
  unfold answer at h
  split at h
  · split at h
    · cases h
      unfold Bd at *
      dsimp only
      omega
    · cases h
      exact hp
  · cases h
    exact bd_zero
theorem bd_receive {p q : Pth} {b : Bool} {size : Int} (hp : Bd p) (h : receive p size = (q, b)) : Bd q := by
  unfold receive at h
  split at h
  · split at h
    · cases h
      exact hp
    · cases h
      unfold Bd at *
      dsimp only
      omega
  · cases h
    exact bd_zero
theorem allow_le (r x : Int) (v : Bool) : x + allow r x v ≤ 9999 ∨ allow r x v ≤ 0 := by
  unfold allow
  split
  · split <;> omega
  · omega
theorem bd_send {p q : Pth} {b : Bool} {size : Int} (hp : Bd p) (h : send p size = (q, b)) : Bd q := by
  unfold send at h
  split at h
  · rename_i hok
    have hk := ok_of (s := p.s) (t := p.t) (r := p.r) (x := p.x) (d := p.d) hok.1
    unfold Ok at hk
    have ha := allow_le p.r p.x (p.s == 2)
    split at h
    · cases h
      unfold Bd at *
      dsimp only
      omega
    · cases h
      exact hp
  · cases h
    exact bd_zero
theorem bd_tick {p q : Pth} {now : Int} (hp : Bd p) (h : tick p now = q) : Bd q := by
  unfold tick at h
  split at h
  · split at h
    · cases h
      unfold Bd at *
      dsimp only
      omega
    · cases h
      exact hp
  · cases h
    exact bd_zero

/-- Block b holds the path q in its first five cells. -/
def C5 (w : World) (b : Nat) (q : Pth) : Prop :=
  (w.cell? ⟨b, 0, none⟩ = some (.int .i64 q.s) ∧ w.cell? ⟨b, 1, none⟩ = some (.int .i64 q.t) ∧ w.cell? ⟨b, 2, none⟩ = some (.int .i64 q.r) ∧ w.cell? ⟨b, 3, none⟩ = some (.int .i64 q.x) ∧ w.cell? ⟨b, 4, none⟩ = some (.int .i64 q.d)) ∧
    ∀ j, w.frozen? ⟨b, j, none⟩ = false

section
variable {w w' : World} {b : Nat} {q : Pth}
theorem C5.lt (h : C5 w b q) : b < w.heap.size := World.block_lt_of_cell? w _ h.1.1
theorem C5.same (h : C5 w b q) (hb : w'.heap[b]? = w.heap[b]?) : C5 w' b q := by
  obtain ⟨⟨h0, h1, h2, h3, h4⟩, hf⟩ := h
  have e : ∀ j, w'.cell? ⟨b, j, none⟩ = w.cell? ⟨b, j, none⟩ := fun j => World.cell?_of_block (w := w) (a := ⟨b, j, none⟩) hb
  exact ⟨⟨(e 0).trans h0, (e 1).trans h1, (e 2).trans h2, (e 3).trans h3, (e 4).trans h4⟩, fun j => (World.frozen?_of_block (w := w) (a := ⟨b, j, none⟩) hb).trans (hf j)⟩
theorem C5.far {rb : Nat} (h : C5 w b q) (hg : w.grownBy w' (some rb)) (hne : b ≠ rb) : C5 w' b q := h.same (hg.block b h.lt (by intro e; injection e; omega))
theorem C5.alloc (h : C5 w b q) (o : Obj) : C5 (w.alloc o) b q := h.same (Below.heap_alloc w o b h.lt)
theorem C5.drew (h : C5 w b q) : C5 w.drew b q := h.same rfl
theorem C5.other (h : C5 w b q) {p : Addr} (hp : p.block ≠ b) (u : Value) : C5 (w.setCell p u) b q := h.same (Below.heap_setCell w p u b (fun e => hp e.symm))
theorem C5.made (w : World) (q : Pth) (t : TypeId) : C5 (w.alloc (.cells #[.int .i64 q.s, .int .i64 q.t, .int .i64 q.r, .int .i64 q.x, .int .i64 q.d] t)) w.heap.size q := by
  have h := heap_alloc_new w (.cells #[.int .i64 q.s, .int .i64 q.t, .int .i64 q.r, .int .i64 q.x, .int .i64 q.d] t)
  exact ⟨⟨cell_of_row _ _ 0 _ _ _ h, cell_of_row _ _ 1 _ _ _ h, cell_of_row _ _ 2 _ _ _ h, cell_of_row _ _ 3 _ _ _ h, cell_of_row _ _ 4 _ _ _ h⟩, fun j => frozen_of_row _ _ _ _ _ h⟩

theorem cell_set (w : World) (b j : Nat) (v u : Value) (h : w.cell? ⟨b, j, none⟩ = some u) (k : Nat) : (w.setCell ⟨b, j, none⟩ v).cell? ⟨b, k, none⟩ = if k = j then some v else w.cell? ⟨b, k, none⟩ := by
  split
  · rename_i e
    subst e
    exact World.cell?_setCell_same w ⟨b, k, none⟩ v h
  · rename_i e
    exact World.cell?_setCell_other w ⟨b, j, none⟩ ⟨b, k, none⟩ v (by intro x; injection x with x1 x2; exact e x2.symm)

theorem C5.set0 (h : C5 w b q) (n : Int) : C5 (w.setCell ⟨b, 0, none⟩ (.int .i64 n)) b { q with s := n } := by
  obtain ⟨⟨h0, h1, h2, h3, h4⟩, hf⟩ := h
  exact ⟨⟨cell_set w b 0 _ _ h0 0, (cell_set w b 0 _ _ h0 1).trans h1, (cell_set w b 0 _ _ h0 2).trans h2, (cell_set w b 0 _ _ h0 3).trans h3, (cell_set w b 0 _ _ h0 4).trans h4⟩, fun j => (World.frozen?_setCell _ _ _ _).trans (hf j)⟩
theorem C5.set1 (h : C5 w b q) (n : Int) : C5 (w.setCell ⟨b, 1, none⟩ (.int .i64 n)) b { q with t := n } := by
  obtain ⟨⟨h0, h1, h2, h3, h4⟩, hf⟩ := h
  exact ⟨⟨(cell_set w b 1 _ _ h1 0).trans h0, cell_set w b 1 _ _ h1 1, (cell_set w b 1 _ _ h1 2).trans h2, (cell_set w b 1 _ _ h1 3).trans h3, (cell_set w b 1 _ _ h1 4).trans h4⟩, fun j => (World.frozen?_setCell _ _ _ _).trans (hf j)⟩
theorem C5.set2 (h : C5 w b q) (n : Int) : C5 (w.setCell ⟨b, 2, none⟩ (.int .i64 n)) b { q with r := n } := by
  obtain ⟨⟨h0, h1, h2, h3, h4⟩, hf⟩ := h
  exact ⟨⟨(cell_set w b 2 _ _ h2 0).trans h0, (cell_set w b 2 _ _ h2 1).trans h1, cell_set w b 2 _ _ h2 2, (cell_set w b 2 _ _ h2 3).trans h3, (cell_set w b 2 _ _ h2 4).trans h4⟩, fun j => (World.frozen?_setCell _ _ _ _).trans (hf j)⟩
theorem C5.set3 (h : C5 w b q) (n : Int) : C5 (w.setCell ⟨b, 3, none⟩ (.int .i64 n)) b { q with x := n } := by
  obtain ⟨⟨h0, h1, h2, h3, h4⟩, hf⟩ := h
  exact ⟨⟨(cell_set w b 3 _ _ h3 0).trans h0, (cell_set w b 3 _ _ h3 1).trans h1, (cell_set w b 3 _ _ h3 2).trans h2, cell_set w b 3 _ _ h3 3, (cell_set w b 3 _ _ h3 4).trans h4⟩, fun j => (World.frozen?_setCell _ _ _ _).trans (hf j)⟩
theorem C5.set4 (h : C5 w b q) (n : Int) : C5 (w.setCell ⟨b, 4, none⟩ (.int .i64 n)) b { q with d := n } := by
  obtain ⟨⟨h0, h1, h2, h3, h4⟩, hf⟩ := h
  exact ⟨⟨(cell_set w b 4 _ _ h4 0).trans h0, (cell_set w b 4 _ _ h4 1).trans h1, (cell_set w b 4 _ _ h4 2).trans h2, (cell_set w b 4 _ _ h4 3).trans h3, cell_set w b 4 _ _ h4 4⟩, fun j => (World.frozen?_setCell _ _ _ _).trans (hf j)⟩
/-- A whole path stored. -/
theorem C5.set (h : C5 w b q) (p : Pth) :
    C5 (((((w.setCell ⟨b, 0, none⟩ (.int .i64 p.s)).setCell ⟨b, 1, none⟩ (.int .i64 p.t)).setCell ⟨b, 2, none⟩ (.int .i64 p.r)).setCell ⟨b, 3, none⟩ (.int .i64 p.x)).setCell ⟨b, 4, none⟩ (.int .i64 p.d)) b p :=
  ((((h.set0 p.s).set1 p.t).set2 p.r).set3 p.x).set4 p.d
end

end Go.Proofs.Yteajojhfcllodaa
