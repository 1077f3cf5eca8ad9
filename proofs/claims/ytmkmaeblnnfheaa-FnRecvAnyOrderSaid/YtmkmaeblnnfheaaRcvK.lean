/- What the walk of the law on parts in any order carries. -/
import Derived.Test.YtmkmaeblnnfheaaRcvF
import Derived.Test.YtmkmaeblnnfheaaRcvJ
import Derived.Test.YtmkmaeblnnfheaaRcvP
namespace Go.Proofs.Ytmkmaeblnnfheaa
open Go.RowKit

theorem PcIn.none_cap {w : World} {B S : Nat} {A : Option Addr} {n c : Nat} {L : List Pc} (h : PcIn w B S A n c L) (e : A = none) : c = 0 := by
  rcases h.2.2 with ⟨_, e2⟩ | ⟨_, g, e2, _⟩
  · exact e2
  · rw [e] at e2; cases e2
/-- The variable that holds the receiving side. -/
structure RS (w wr : World) (xr : Nat) (A : Option Addr) (n c : Nat) (F : Int) : Prop where
  x : Own4 wr xr 0 A n c F 30
  b : Below w.heap.size w wr
  s : xr + 1 ≤ wr.heap.size
  wx : w.heap.size ≤ xr
/-- The pieces that were handed back, apart from the block xb. -/
structure QS (wr : World) (xr xb : Nat) (A : Option Addr) (n c lo hi : Nat) (L : List Pc) : Prop where
  p : PcIn wr lo hi A n c L
  glo : xr + 1 ≤ lo
  ghi : hi ≤ wr.heap.size
  far : hi ≤ xb ∨ xb + 1 ≤ lo
section
variable {w wr w' : World} {xr xb : Nat} {A : Option Addr} {n c lo hi : Nat} {F : Int} {L : List Pc}
theorem RS.grow (h : RS w wr xr A n c F) (hb : Below wr.heap.size wr w') : RS w w' xr A n c F := ⟨h.x.grow hb, h.b.trans (hb.mono h.b.size), Nat.le_trans h.s hb.size, h.wx⟩
theorem RS.alloc (h : RS w wr xr A n c F) (o : Obj) : RS w (wr.alloc o) xr A n c F := h.grow ((Below.refl _ wr).alloc (Nat.le_refl _) o)
theorem RS.drawnN (h : RS w wr xr A n c F) (j : Nat) : RS w { wr with drawn := j } xr A n c F := ⟨h.x, ⟨h.b.os, h.b.tape, h.b.output, h.b.size, h.b.block⟩, h.s, h.wx⟩
theorem RS.store4 (h : RS w wr xr A n c F) (hx : xr < xb) (v0 v1 v2 v3 : Value) : RS w ((((wr.setCell ⟨xb, 0, none⟩ v0).setCell ⟨xb, 1, none⟩ v1).setCell ⟨xb, 2, none⟩ v2).setCell ⟨xb, 3, none⟩ v3) xr A n c F := by
  have hw := h.wx
  refine ⟨h.x.touch (touch4 wr xb v0 v1 v2 v3) (by omega), ?_, by simpa [World.setCell] using h.s, h.wx⟩
  repeat refine Below.setCell ?_ (by dsimp only; omega) _
  exact h.b
theorem QS.grow (h : QS wr xr xb A n c lo hi L) (hb : Below wr.heap.size wr w') : QS w' xr xb A n c lo hi L := ⟨h.p.below hb, h.glo, Nat.le_trans h.ghi hb.size, h.far⟩
theorem QS.store4 (h : QS wr xr xb A n c lo hi L) (v0 v1 v2 v3 : Value) : QS ((((wr.setCell ⟨xb, 0, none⟩ v0).setCell ⟨xb, 1, none⟩ v1).setCell ⟨xb, 2, none⟩ v2).setCell ⟨xb, 3, none⟩ v3) xr xb A n c lo hi L :=
  ⟨h.p.touch (touch4 wr xb v0 v1 v2 v3) h.far, h.glo, by simpa [World.setCell] using h.ghi, h.far⟩
theorem QS.last4 (h : QS wr xr xb A n c lo hi L) (v0 v1 v2 v3 : Value) : PcIn ((((wr.setCell ⟨xr, 0, none⟩ v0).setCell ⟨xr, 1, none⟩ v1).setCell ⟨xr, 2, none⟩ v2).setCell ⟨xr, 3, none⟩ v3) (xr + 1) ((((wr.setCell ⟨xr, 0, none⟩ v0).setCell ⟨xr, 1, none⟩ v1).setCell ⟨xr, 2, none⟩ v2).setCell ⟨xr, 3, none⟩ v3).heap.size A n c L :=
  (h.p.touch (touch4 wr xr v0 v1 v2 v3) (.inr h.glo)).mono h.glo (by simpa [World.setCell] using h.ghi)
theorem RS.last4 (h : RS w wr xr A n c F) (A' : Option Addr) (n' c' : Nat) (F' : Int) : RS w ((((wr.setCell ⟨xr, 0, none⟩ (.int .i64 0)).setCell ⟨xr, 1, none⟩ (.slice A' n' c')).setCell ⟨xr, 2, none⟩ (.int .i64 F')).setCell ⟨xr, 3, none⟩ (.int .i64 30)) xr A' n' c' F' := by
  have hw := h.wx
  refine ⟨h.x.setAll 0 A' n' c' F' 30, ?_, by simpa [World.setCell] using h.s, h.wx⟩
  repeat refine Below.setCell ?_ (by dsimp only; omega) _
  exact h.b
end

end Go.Proofs.Ytmkmaeblnnfheaa
