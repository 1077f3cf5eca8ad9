/- A stream's box that may be made at any time. -/
import Derived.Test.YtmkmaeblnnfheabFlt
import Derived.Test.YtmkmaeblnnfheabSndD
namespace Go.Proofs.Ytmkmaeblnnfheab
open Go.RowKit

theorem Own6.of_block {w w' : World} {b : Nat} {d : ByteArray} {f : Bool} {l n : Int} {A : Option Addr} {na ca : Nat} {B : Option Addr} {nb cb : Nat} (h : Own6 w b d f l n A na ca B nb cb) (e : w'.heap[b]? = w.heap[b]?) : Own6 w' b d f l n A na ca B nb cb :=
  ⟨h.1.of_cells fun j => World.cell?_of_block (w := w) (a := ⟨b, j, none⟩) e, fun j => (World.frozen?_of_block (w := w) (a := ⟨b, j, none⟩) e).trans (h.2 j)⟩
theorem Own3.of_block {w w' : World} {b : Nat} {o : Int} {d : ByteArray} {f : Bool} (h : Own3 w b o d f) (e : w'.heap[b]? = w.heap[b]?) : Own3 w' b o d f :=
  h.same (fun j => World.cell?_of_block (w := w) (a := ⟨b, j, none⟩) e) fun j => World.frozen?_of_block (w := w) (a := ⟨b, j, none⟩) e
theorem touch6 (w : World) (b : Nat) (v0 v1 v2 v3 v4 v5 : Value) :
    Touch w ((((((w.setCell ⟨b, 0, none⟩ v0).setCell ⟨b, 1, none⟩ v1).setCell ⟨b, 2, none⟩ v2).setCell ⟨b, 3, none⟩ v3).setCell ⟨b, 4, none⟩ v4).setCell ⟨b, 5, none⟩ v5) b (b + 1) := by
  repeat refine Touch.setCell ?_ (by dsimp only; omega) (by dsimp only; omega) _
  exact Touch.refl w b (b + 1)
theorem touch3 (w : World) (b : Nat) (v0 v1 v2 : Value) :
    Touch w (((w.setCell ⟨b, 0, none⟩ v0).setCell ⟨b, 1, none⟩ v1).setCell ⟨b, 2, none⟩ v2) b (b + 1) := by
  repeat refine Touch.setCell ?_ (by dsimp only; omega) (by dsimp only; omega) _
  exact Touch.refl w b (b + 1)

end Go.Proofs.Ytmkmaeblnnfheab
