/- A stream and a mark. -/
import Derived.Test.YtmkmaeblnnfheabSndP
import Derived.Test.YtmkmaeblnnfheabSendLaws2
namespace Go.Proofs.Ytmkmaeblnnfheab
open Go.RowKit
attribute [local irreducible] Go.wpQuiet

/-- A stream in new memory and a mark were handed back. -/
def GotSb (w : World) (r : Sd × Bool) (e : Ending) (w' : World) : Prop := (∃ v, e = .returned (.tuple #[v, .bool r.2]) ∧ GotSd w r.1 v w') ∧ Below w.heap.size w w'
noncomputable def sendWrite (s : Sd) (b : ByteArray) : Sd × Bool := if okS s = true then write s b else (sd0, false)
noncomputable def sendGrant (s : Sd) (m : Int) : Sd × Bool := if okS s = true ∧ decide (0 ≤ m ∧ m ≤ 30) = true then (if m < s.l then (s, false) else ({ s with l := m }, true)) else (sd0, false)

end Go.Proofs.Ytmkmaeblnnfheab
