/- A part for the exact laws: measured, copied in, compared. -/
import Derived.Test.YtmkmaeblnnfheaaSendX
namespace Go.Proofs.Ytmkmaeblnnfheaa
open Go.RowKit
attribute [local irreducible] Go.wpQuiet

set_option maxHeartbeats 1000000 in
theorem eqPart_any (o : Int) (d : ByteArray) (f : Bool) (w : World) :
    Calls Try.prog 38 #[.agg #[.int .i64 o, .string d, .bool f], .agg #[.int .i64 o, .string d, .bool f]] w fun e w' => e = .returned (.bool true) ∧ Below w.heap.size w w' := by
  have z := (Own3.newT (o := o) (d := d) (f := f) w 27).alloc (.cells #[.int .i64 o, .string d, .bool f] 27)
  have y := Own3.newT (o := o) (d := d) (f := f) (w.alloc (.cells #[.int .i64 o, .string d, .bool f] 27)) 27
  rw [show (w.alloc (.cells #[.int .i64 o, .string d, .bool f] 27)).heap.size = w.heap.size + 1 from by simp] at y
  obtain ⟨⟨z0, z1, z2⟩, zf⟩ := z
  obtain ⟨⟨y0, y1, y2⟩, yf⟩ := y
  go_enter Try.func38, Try.ntmps38
  go_wp2_with fail
  go_ret
  exact ⟨rfl, by go_grown⟩

end Go.Proofs.Ytmkmaeblnnfheaa
