/- What stands while a stream and a part are handed back. -/
import Derived.Test.YtmkmaeblnnfheaaSndP
import Derived.Test.YtmkmaeblnnfheaaSeq
namespace Go.Proofs.Ytmkmaeblnnfheaa
open Go.RowKit

structure Ret2 (w : World) (ob pb Sz LoA HiA LoB HiB : Nat) (d : ByteArray) (f : Bool) (l n : Int) (LA LB : List Rg) (A : Option Addr) (ca : Nat) (B : Option Addr) (cb : Nat) (o : Int) (dp : ByteArray) (fp : Bool) (w' : World) : Prop where
  x : Own6 w' ob d f l n A LA.length ca B LB.length cb
  p : Own3 w' pb o dp fp
  r : ∃ d f l n A na ca B nb cb, Own6 w' (w.heap.size + 1) d f l n A na ca B nb cb
  q : ∃ o d f, Own3 w' (w.heap.size + 1 + 1) o d f
  a : RngIn w' LoA HiA A LA.length ca LA
  b : RngIn w' LoB HiB B LB.length cb LB
  bel : Below w.heap.size w w'
  sz : Sz ≤ w'.heap.size
section
variable {w w' : World} {ob pb Sz LoA HiA LoB HiB : Nat} {d : ByteArray} {f : Bool} {l n : Int} {LA LB : List Rg} {A : Option Addr} {ca : Nat} {B : Option Addr} {cb : Nat} {o : Int} {dp : ByteArray} {fp : Bool}
theorem Ret2.drew (h : Ret2 w ob pb Sz LoA HiA LoB HiB d f l n LA LB A ca B cb o dp fp w') (m : Nat) : Ret2 w ob pb Sz LoA HiA LoB HiB d f l n LA LB A ca B cb o dp fp { w' with drawn := m } :=
  ⟨h.x, h.p, h.r, h.q, h.a, h.b, ⟨h.bel.os, h.bel.tape, h.bel.output, h.bel.size, h.bel.block⟩, h.sz⟩
theorem Ret2.store (h : Ret2 w ob pb Sz LoA HiA LoB HiB d f l n LA LB A ca B cb o dp fp w') (h1 : w.heap.size + 1 + 1 < LoA ∧ w.heap.size + 1 + 1 < LoB) (h2 : w.heap.size + 1 + 1 < ob ∧ w.heap.size + 1 + 1 < pb)
    (d' : ByteArray) (f' : Bool) (l' n' : Int) (A' : Option Addr) (na' ca' : Nat) (B' : Option Addr) (nb' cb' : Nat) :
    Ret2 w ob pb Sz LoA HiA LoB HiB d f l n LA LB A ca B cb o dp fp ((((((w'.setCell ⟨w.heap.size + 1, 0, none⟩ (.string d')).setCell ⟨w.heap.size + 1, 1, none⟩ (.bool f')).setCell ⟨w.heap.size + 1, 2, none⟩ (.int .i64 l')).setCell ⟨w.heap.size + 1, 3, none⟩ (.int .i64 n')).setCell ⟨w.heap.size + 1, 4, none⟩ (.slice A' na' ca')).setCell ⟨w.heap.size + 1, 5, none⟩ (.slice B' nb' cb')) := by
  obtain ⟨x1, x2, x3, x4, x5, x6, x7, x8, x9, x10, xr⟩ := h.r
  obtain ⟨y1, y2, y3, yq⟩ := h.q
  refine ⟨?_, ?_, ⟨_, _, _, _, _, _, _, _, _, _, xr.setAll d' f' l' n' A' na' ca' B' nb' cb'⟩, ⟨y1, y2, y3, ?_⟩, ?_, ?_, ?_, by simpa [World.setCell] using h.sz⟩
  · repeat refine Own6.other ?_ (by dsimp only; omega) _
    exact h.x
  · repeat refine Own3.other ?_ (by dsimp only; omega) _
    exact h.p
  · repeat refine Own3.other ?_ (by dsimp only; omega) _
    exact yq
  · repeat refine RngIn.setLow ?_ (by dsimp only; omega) _
    exact h.a
  · repeat refine RngIn.setLow ?_ (by dsimp only; omega) _
    exact h.b
  · repeat refine Below.setCell ?_ (by dsimp only; omega) _
    exact h.bel
theorem Ret2.store3 (h : Ret2 w ob pb Sz LoA HiA LoB HiB d f l n LA LB A ca B cb o dp fp w') (h1 : w.heap.size + 1 + 1 < LoA ∧ w.heap.size + 1 + 1 < LoB) (h2 : w.heap.size + 1 + 1 < ob ∧ w.heap.size + 1 + 1 < pb)
    (o' : Int) (d' : ByteArray) (f' : Bool) :
    Ret2 w ob pb Sz LoA HiA LoB HiB d f l n LA LB A ca B cb o dp fp (((w'.setCell ⟨w.heap.size + 1 + 1, 0, none⟩ (.int .i64 o')).setCell ⟨w.heap.size + 1 + 1, 1, none⟩ (.string d')).setCell ⟨w.heap.size + 1 + 1, 2, none⟩ (.bool f')) := by
  obtain ⟨x1, x2, x3, x4, x5, x6, x7, x8, x9, x10, xr⟩ := h.r
  obtain ⟨y1, y2, y3, yq⟩ := h.q
  refine ⟨?_, ?_, ⟨x1, x2, x3, x4, x5, x6, x7, x8, x9, x10, ?_⟩, ⟨_, _, _, yq.setAll o' d' f'⟩, ?_, ?_, ?_, by simpa [World.setCell] using h.sz⟩
  · repeat refine Own6.other ?_ (by dsimp only; omega) _
    exact h.x
  · repeat refine Own3.other ?_ (by dsimp only; omega) _
    exact h.p
  · repeat refine Own6.other ?_ (by dsimp only; omega) _
    exact xr
  · repeat refine RngIn.setLow ?_ (by dsimp only; omega) _
    exact h.a
  · repeat refine RngIn.setLow ?_ (by dsimp only; omega) _
    exact h.b
  · repeat refine Below.setCell ?_ (by dsimp only; omega) _
    exact h.bel
end

end Go.Proofs.Ytmkmaeblnnfheaa
