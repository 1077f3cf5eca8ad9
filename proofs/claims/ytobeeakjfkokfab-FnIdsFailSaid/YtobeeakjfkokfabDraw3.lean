/- Tokens, times and sizes are drawn: a number in a small range; the reader alone has turned. -/
import Derived.Test.YtobeeakjfkokfabDraw2
namespace Go.Proofs.Ytobeeakjfkokfab
open Go.RowKit
variable {B : Nat}

/-- A block that is not the reader's keeps its cells over a pick. -/
theorem far_cell {w w1 : World} {rb b j : Nat} {v : Value} (hg : w.grownBy w1 (some rb)) (h : w.cell? ⟨b, j, none⟩ = some v) (hne : b ≠ rb) : w1.cell? ⟨b, j, none⟩ = some v :=
  hg.cell h (by intro e; injection e with e; exact hne e)

end Go.Proofs.Ytobeeakjfkokfab
