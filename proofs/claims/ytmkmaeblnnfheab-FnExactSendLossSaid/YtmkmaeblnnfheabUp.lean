/- A region that draws its order, whose operations read what lay there before and whose callees only add to the memory, is walked once, in the order of the text. -/
import Derived.Test.YtmkmaeblnnfheabRngV
import Derived.Test.YtmkmaeblnnfheabRngB
import Derived.Deep.QuietTactic
import Derived.Deep.RegionWith
namespace Go.Proofs.Ytmkmaeblnnfheab
open Go.RowKit

/-- The worlds in which all that lies in W lies as it is in W. -/
def Up (W : World) : Type := {w' : World // Below W.heap.size W w'}
def Up.w {W : World} (x : Up W) : World := x.1
instance {W : World} : Nonempty (Up W) := ⟨⟨W, Below.refl _ _⟩⟩
theorem Up.b {W : World} (x : Up W) : Below W.heap.size W x.w := x.2
theorem Up.cell {W : World} {b j : Nat} {v : Value} (h : W.cell? ⟨b, j, none⟩ = some v) (x : Up W) : x.w.cell? ⟨b, j, none⟩ = some v := (x.b.cell (p := ⟨b, j, none⟩) (World.block_lt_of_cell? _ _ h)).trans h

theorem wp_region_up {P : Program} {l : List Oper} {id : Nat} {Q : Exit → Act → World → Prop} {a : Act} {W : World} (hm : P.follows .mixedOrders = true) (hB : Region.lexB .any l.toArray = true)
    (h : wpQuiet P l.toArray (fun w' => ∃ x : Up W, w' = x.w) (fun a' => ∀ w', Below W.heap.size W w' → Q .normal a' w') l a) : (Code.region id l.toArray true).wp P Q a W := by
  refine wp_region_quiet (C := fun w' => ∃ x : Up W, w' = x.w) hm hB ⟨⟨{ W with drawn := W.drawn + 1 }, ⟨rfl, rfl, rfl, Nat.le_refl _, fun _ _ => rfl⟩⟩, rfl⟩ ?_
  have e : (fun a' => ∀ w', (∃ x : Up W, w' = x.w) → Q .normal a' w') = (fun a' => ∀ w', Below W.heap.size W w' → Q .normal a' w') := by
    funext a'
    refine propext ⟨fun k w' hw => k w' ⟨⟨w', hw⟩, rfl⟩, fun k w' hw => ?_⟩
    obtain ⟨x, rfl⟩ := hw
    exact k _ x.b
  rw [e]
  simpa using h
theorem up_same {P : Program} {W : World} {f : FuncId} {args : Array Value} {v : Value} {x : Up W} (h : Calls P f args x.w fun e w' => e = .returned v ∧ x.w = w') :
    Calls P f args x.w fun e w'' => e = .returned v ∧ ∃ y : Up W, w'' = y.w := h.mono fun _ _ ⟨he, hw⟩ => ⟨he, x, hw.symm⟩
theorem up_of {P : Program} {W : World} {f : FuncId} {args : Array Value} {v : Value} {x : Up W} (h : ∀ w', Below W.heap.size W w' → Calls P f args w' fun e w'' => e = .returned v ∧ Below w'.heap.size w' w'') :
    Calls P f args x.w fun e w'' => e = .returned v ∧ ∃ y : Up W, w'' = y.w :=
  (h x.w x.b).mono fun _ w' ⟨he, hw⟩ => ⟨he, ⟨w', x.b.trans (hw.mono x.b.size)⟩, rfl⟩

end Go.Proofs.Ytmkmaeblnnfheab
