/- A code is opened; tokens, times, sizes are drawn. -/
import Derived.Test.YteajojhfcllodaaDraw
import Derived.Test.YteajojhfcllodaaRowKit
namespace Go.Proofs.Yteajojhfcllodaa
open Go.RowKit

/-- The reader that a code opens: block w.heap.size. -/
def Opened (B : Nat) (w : World) (e : Ending) (w' : World) : Prop :=
  ∃ o, e = .returned (.pointer (some ⟨w.heap.size, 0, none⟩)) ∧ w' = w.alloc o ∧ Rd w' B w.heap.size 0

theorem IsRow.alloc {k : IntKind} {w : World} {a : Option Addr} {len cap : Nat} {zs : List Int} (h : IsRow k w a len cap zs) (o : Obj) : IsRow k (w.alloc o) a len cap zs := by
  rcases h with h | ⟨x, rfl, hl, hm, hz, hc, hw⟩
  · exact .inl h
  · exact .inr ⟨x, rfl, hl, hm, hz, fun i hi => by
      have h1 := hc i hi
      rw [World.cell?_alloc_lt _ _ _ (World.block_lt_of_cell? w _ h1)]
      exact h1, hw⟩

/-- 'base' is the world in which the row came in: its blocks lie below. -/
theorem open_any (base w : World) (a : Option Addr) (len cap : Nat) (zs : List Int) (h0 : IsRow .u8 base a len cap zs) (h : IsRow .u8 w a len cap zs) (hbw : base.heap.size ≤ w.heap.size) :
    Calls Try.prog 30 #[.slice a len cap] w (Opened base.heap.size w) := by
  have lowest : ∀ x, a = some x → 0 < len → x.block < base.heap.size := by
    intro x hx hl0
    rcases h0 with ⟨rfl, _⟩ | ⟨y, rfl, hl, _, hz, hcell, _⟩
    · cases hx
    · cases hx
      have := World.block_lt_of_cell? base _ (hcell 0 (by omega))
      simpa [Addr.add] using this
  clear h0
  rcases h with ⟨rfl, rfl, rfl, rfl⟩ | ⟨x, rfl, hl, hm, hz, hcell, hwz⟩
  · clear lowest
    go_enter Try.func30, Try.ntmps30
    go_wp2
    go_returns
    exact ⟨_, rfl, rfl, none, 0, 0, 0, [], heap_alloc_new _ _, by omega, by omega, hbw, .inl rfl⟩
  · have hz' : ∀ i, 0 ≤ zs.getD i 0 ∧ zs.getD i 0 ≤ 255 := by
      intro i
      by_cases hi : i < zs.length
      · have hw := hwz (zs.getD i 0) (by rw [List.getD_eq_getElem?_getD, List.getElem?_eq_getElem hi]; exact List.getElem_mem hi)
        have h0 : IntKind.u8.min = 0 := rfl
        have h1 : IntKind.u8.max = 255 := rfl
        simp [Lit.wf, h0, h1] at hw
        rw [List.getD_eq_getElem?_getD]
        exact hw
      · simp [List.getD_eq_getElem?_getD, List.getElem?_eq_none (by omega : zs.length ≤ i)]
    have bytes : ∀ (l : Nat) (o : Obj), l ≤ len → BytesAt (w.alloc o) (some x) l base.heap.size zs := by
      intro l o hll
      by_cases h0 : l = 0
      · exact .inl h0
      · obtain ⟨b, off, spot⟩ := x
        have hc := hcell 0 (by omega)
        have hspot : spot = none := by simpa [Addr.add] using World.cell?_spot hc
        subst hspot
        have hlt := World.block_lt_of_cell? w _ hc
        simp [Addr.add] at hlt
        refine .inr ⟨b, off, rfl, lowest _ rfl (by omega), fun i hi => ?_, hz'⟩
        have := hcell i (by omega)
        rw [Addr.add_lit] at this
        rw [World.cell?_alloc_past _ _ _ hlt]
        exact this
    unfold maxLen at hm
    by_cases h2 : len ≤ 2000
    · have hb := Lib.hid bytes
      clear bytes hcell hwz hz' lowest
      go_enter Try.func30, Try.ntmps30
      go_wp2
      go_returns
      exact ⟨_, rfl, rfl, some x, len, cap, 0, zs, heap_alloc_new _ _, h2, by omega, hbw, hb.out len _ (Nat.le_refl _)⟩
    · have hb := Lib.hid bytes
      have h2' : 2000 < len := by omega
      clear bytes hcell hwz hz' lowest h2
      go_enter Try.func30, Try.ntmps30
      go_wp2
      go_returns
      exact ⟨_, rfl, rfl, some x, 2000, cap, 0, zs, heap_alloc_new _ _, by omega, by omega, hbw, hb.out 2000 _ (by omega)⟩

end Go.Proofs.Yteajojhfcllodaa
