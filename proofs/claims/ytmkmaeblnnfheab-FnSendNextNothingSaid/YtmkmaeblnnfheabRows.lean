/-
  No cell of these rows narrows 'for every input' (looked for: loops, veiled, ifaces, maps, wideKeys, modest, calm, conditions, laid).
  DERIVED. THE GIVEN ROWS OF THIS SEAT. 10 by the template 'for every input the law returns true; each argument reads behind the call as it read before'; 0 by the template 'total and deterministic' (their statements: YtmkmaeblnnfheabTotals.lean).
  GIVEN WITH THE SEED: the statements are not yours to turn. If you find one false, say at which input.
  Laid BY PROGRAM, IN A SANDBOX (cutbox-rows.mjs): the forced cells as the released guide's own fill.sh prints them over the translation 499b476fc957c3b2… (all of the seat's roots in one cut). By AI agents, Wed Nov 11 2026. No macro, syntax, notation, axiom, sorry.
-/
import Derived.Test.YtmkmaeblnnfheabChecked
import GoSem.Claim
import GoSem.ClaimJoined
import GoSem.ClaimMapViews
import Derived.JoinedTies
import Derived.KernelRfl
namespace Go.Proofs.Ytmkmaeblnnfheab
/- THE CELL 'sum', in the pinned program and in every row, IS THE sha256 OF THE DUMP (.gsa) THAT YtmkmaeblnnfheabProg.lean LOADS. Nothing in Lean hashes anything: it is a label: what it is worth is what the hold of that sum in a sandbox is worth. -/
noncomputable def Try.pinned : Pinned := { name := "ytmkmaeblnnfheab", sum := "499b476fc957c3b29c4963733220f07cd4b9561df0b2151417c0e7434c44b195", checked := Try.checked }
namespace Rows
def none {H : Type} : Left H := { results := [], args := [] }

/-- 'laws.FnSendNextNothing': WHATEVER THE INPUT: true; the input reads as it did. -/
def fnSendNextNothingSpec : ChangeSpec := { name := "fnSendNextNothing", fn := fun _ => fun
  | [d] => { results := [.lit (.bool true)], args := [d] }
  | _ => none }
def fnSendNextNothingRow : OpenClaim := { program := "ytmkmaeblnnfheab", sum := "499b476fc957c3b29c4963733220f07cd4b9561df0b2151417c0e7434c44b195", func := "loop.example/multipathtransport/laws.FnSendNextNothing", spec := "fnSendNextNothing", unfollowed := true, recurses := true, apart := false }
def FnSendNextNothingSaid : Prop := fnSendNextNothingRow.holds Try.pinned (OpenSpec.ofChange fnSendNextNothingSpec)

/-- ITS FALSE NEIGHBOUR: 'it returns false'. Refute it at one input. -/
def fnSendNextNothingWrong : ChangeSpec := { name := "fnSendNextNothing", fn := fun _ => fun
  | [d] => { results := [.lit (.bool false)], args := [d] }
  | _ => none }
def FnSendNextNothingWrongFalsely : Prop := fnSendNextNothingRow.holds Try.pinned (OpenSpec.ofChange fnSendNextNothingWrong)

/-- 'laws.FnExactSendLoss': WHATEVER THE INPUT: true; the input reads as it did. -/
def fnExactSendLossSpec : ChangeSpec := { name := "fnExactSendLoss", fn := fun _ => fun
  | [d1, d2] => { results := [.lit (.bool true)], args := [d1, d2] }
  | _ => none }
def fnExactSendLossRow : OpenClaim := { program := "ytmkmaeblnnfheab", sum := "499b476fc957c3b29c4963733220f07cd4b9561df0b2151417c0e7434c44b195", func := "loop.example/multipathtransport/laws.FnExactSendLoss", spec := "fnExactSendLoss", unfollowed := true, recurses := true, apart := false }
def FnExactSendLossSaid : Prop := fnExactSendLossRow.holds Try.pinned (OpenSpec.ofChange fnExactSendLossSpec)

/-- ITS FALSE NEIGHBOUR: 'it returns false'. Refute it at one input. -/
def fnExactSendLossWrong : ChangeSpec := { name := "fnExactSendLoss", fn := fun _ => fun
  | [d1, d2] => { results := [.lit (.bool false)], args := [d1, d2] }
  | _ => none }
def FnExactSendLossWrongFalsely : Prop := fnExactSendLossRow.holds Try.pinned (OpenSpec.ofChange fnExactSendLossWrong)

/-- 'laws.FnSendNextNew': WHATEVER THE INPUT: true; the input reads as it did. -/
def fnSendNextNewSpec : ChangeSpec := { name := "fnSendNextNew", fn := fun _ => fun
  | [d] => { results := [.lit (.bool true)], args := [d] }
  | _ => none }
def fnSendNextNewRow : OpenClaim := { program := "ytmkmaeblnnfheab", sum := "499b476fc957c3b29c4963733220f07cd4b9561df0b2151417c0e7434c44b195", func := "loop.example/multipathtransport/laws.FnSendNextNew", spec := "fnSendNextNew", unfollowed := true, recurses := true, apart := false }
def FnSendNextNewSaid : Prop := fnSendNextNewRow.holds Try.pinned (OpenSpec.ofChange fnSendNextNewSpec)

/-- ITS FALSE NEIGHBOUR: 'it returns false'. Refute it at one input. -/
def fnSendNextNewWrong : ChangeSpec := { name := "fnSendNextNew", fn := fun _ => fun
  | [d] => { results := [.lit (.bool false)], args := [d] }
  | _ => none }
def FnSendNextNewWrongFalsely : Prop := fnSendNextNewRow.holds Try.pinned (OpenSpec.ofChange fnSendNextNewWrong)

/-- 'laws.FnSendNextLost': WHATEVER THE INPUT: true; the input reads as it did. -/
def fnSendNextLostSpec : ChangeSpec := { name := "fnSendNextLost", fn := fun _ => fun
  | [d] => { results := [.lit (.bool true)], args := [d] }
  | _ => none }
def fnSendNextLostRow : OpenClaim := { program := "ytmkmaeblnnfheab", sum := "499b476fc957c3b29c4963733220f07cd4b9561df0b2151417c0e7434c44b195", func := "loop.example/multipathtransport/laws.FnSendNextLost", spec := "fnSendNextLost", unfollowed := true, recurses := true, apart := false }
def FnSendNextLostSaid : Prop := fnSendNextLostRow.holds Try.pinned (OpenSpec.ofChange fnSendNextLostSpec)

/-- ITS FALSE NEIGHBOUR: 'it returns false'. Refute it at one input. -/
def fnSendNextLostWrong : ChangeSpec := { name := "fnSendNextLost", fn := fun _ => fun
  | [d] => { results := [.lit (.bool false)], args := [d] }
  | _ => none }
def FnSendNextLostWrongFalsely : Prop := fnSendNextLostRow.holds Try.pinned (OpenSpec.ofChange fnSendNextLostWrong)

/-- 'laws.FnSendGrant': WHATEVER THE INPUT: true; the input reads as it did. -/
def fnSendGrantSpec : ChangeSpec := { name := "fnSendGrant", fn := fun _ => fun
  | [d] => { results := [.lit (.bool true)], args := [d] }
  | _ => none }
def fnSendGrantRow : OpenClaim := { program := "ytmkmaeblnnfheab", sum := "499b476fc957c3b29c4963733220f07cd4b9561df0b2151417c0e7434c44b195", func := "loop.example/multipathtransport/laws.FnSendGrant", spec := "fnSendGrant", unfollowed := true, recurses := true, apart := false }
def FnSendGrantSaid : Prop := fnSendGrantRow.holds Try.pinned (OpenSpec.ofChange fnSendGrantSpec)

/-- ITS FALSE NEIGHBOUR: 'it returns false'. Refute it at one input. -/
def fnSendGrantWrong : ChangeSpec := { name := "fnSendGrant", fn := fun _ => fun
  | [d] => { results := [.lit (.bool false)], args := [d] }
  | _ => none }
def FnSendGrantWrongFalsely : Prop := fnSendGrantRow.holds Try.pinned (OpenSpec.ofChange fnSendGrantWrong)

/-- 'laws.FnSendNextPart': WHATEVER THE INPUT: true; the input reads as it did. -/
def fnSendNextPartSpec : ChangeSpec := { name := "fnSendNextPart", fn := fun _ => fun
  | [d] => { results := [.lit (.bool true)], args := [d] }
  | _ => none }
def fnSendNextPartRow : OpenClaim := { program := "ytmkmaeblnnfheab", sum := "499b476fc957c3b29c4963733220f07cd4b9561df0b2151417c0e7434c44b195", func := "loop.example/multipathtransport/laws.FnSendNextPart", spec := "fnSendNextPart", unfollowed := true, recurses := true, apart := false }
def FnSendNextPartSaid : Prop := fnSendNextPartRow.holds Try.pinned (OpenSpec.ofChange fnSendNextPartSpec)

/-- ITS FALSE NEIGHBOUR: 'it returns false'. Refute it at one input. -/
def fnSendNextPartWrong : ChangeSpec := { name := "fnSendNextPart", fn := fun _ => fun
  | [d] => { results := [.lit (.bool false)], args := [d] }
  | _ => none }
def FnSendNextPartWrongFalsely : Prop := fnSendNextPartRow.holds Try.pinned (OpenSpec.ofChange fnSendNextPartWrong)

/-- 'laws.FnExactSendAck': WHATEVER THE INPUT: true; the input reads as it did. -/
def fnExactSendAckSpec : ChangeSpec := { name := "fnExactSendAck", fn := fun _ => fun
  | [d1, d2] => { results := [.lit (.bool true)], args := [d1, d2] }
  | _ => none }
def fnExactSendAckRow : OpenClaim := { program := "ytmkmaeblnnfheab", sum := "499b476fc957c3b29c4963733220f07cd4b9561df0b2151417c0e7434c44b195", func := "loop.example/multipathtransport/laws.FnExactSendAck", spec := "fnExactSendAck", unfollowed := true, recurses := true, apart := false }
def FnExactSendAckSaid : Prop := fnExactSendAckRow.holds Try.pinned (OpenSpec.ofChange fnExactSendAckSpec)

/-- ITS FALSE NEIGHBOUR: 'it returns false'. Refute it at one input. -/
def fnExactSendAckWrong : ChangeSpec := { name := "fnExactSendAck", fn := fun _ => fun
  | [d1, d2] => { results := [.lit (.bool false)], args := [d1, d2] }
  | _ => none }
def FnExactSendAckWrongFalsely : Prop := fnExactSendAckRow.holds Try.pinned (OpenSpec.ofChange fnExactSendAckWrong)

/-- 'laws.FnSendAll': WHATEVER THE INPUT: true; the input reads as it did. -/
def fnSendAllSpec : ChangeSpec := { name := "fnSendAll", fn := fun _ => fun
  | [d1, d2] => { results := [.lit (.bool true)], args := [d1, d2] }
  | _ => none }
def fnSendAllRow : OpenClaim := { program := "ytmkmaeblnnfheab", sum := "499b476fc957c3b29c4963733220f07cd4b9561df0b2151417c0e7434c44b195", func := "loop.example/multipathtransport/laws.FnSendAll", spec := "fnSendAll", unfollowed := true, recurses := true, apart := false }
def FnSendAllSaid : Prop := fnSendAllRow.holds Try.pinned (OpenSpec.ofChange fnSendAllSpec)

/-- ITS FALSE NEIGHBOUR: 'it returns false'. Refute it at one input. -/
def fnSendAllWrong : ChangeSpec := { name := "fnSendAll", fn := fun _ => fun
  | [d1, d2] => { results := [.lit (.bool false)], args := [d1, d2] }
  | _ => none }
def FnSendAllWrongFalsely : Prop := fnSendAllRow.holds Try.pinned (OpenSpec.ofChange fnSendAllWrong)

/-- 'laws.FnSendAckOrder': WHATEVER THE INPUT: true; the input reads as it did. -/
def fnSendAckOrderSpec : ChangeSpec := { name := "fnSendAckOrder", fn := fun _ => fun
  | [d1, d2] => { results := [.lit (.bool true)], args := [d1, d2] }
  | _ => none }
def fnSendAckOrderRow : OpenClaim := { program := "ytmkmaeblnnfheab", sum := "499b476fc957c3b29c4963733220f07cd4b9561df0b2151417c0e7434c44b195", func := "loop.example/multipathtransport/laws.FnSendAckOrder", spec := "fnSendAckOrder", unfollowed := true, recurses := true, apart := false }
def FnSendAckOrderSaid : Prop := fnSendAckOrderRow.holds Try.pinned (OpenSpec.ofChange fnSendAckOrderSpec)

/-- ITS FALSE NEIGHBOUR: 'it returns false'. Refute it at one input. -/
def fnSendAckOrderWrong : ChangeSpec := { name := "fnSendAckOrder", fn := fun _ => fun
  | [d1, d2] => { results := [.lit (.bool false)], args := [d1, d2] }
  | _ => none }
def FnSendAckOrderWrongFalsely : Prop := fnSendAckOrderRow.holds Try.pinned (OpenSpec.ofChange fnSendAckOrderWrong)

/-- 'laws.FnSendLossSet': WHATEVER THE INPUT: true; the input reads as it did. -/
def fnSendLossSetSpec : ChangeSpec := { name := "fnSendLossSet", fn := fun _ => fun
  | [d] => { results := [.lit (.bool true)], args := [d] }
  | _ => none }
def fnSendLossSetRow : OpenClaim := { program := "ytmkmaeblnnfheab", sum := "499b476fc957c3b29c4963733220f07cd4b9561df0b2151417c0e7434c44b195", func := "loop.example/multipathtransport/laws.FnSendLossSet", spec := "fnSendLossSet", unfollowed := true, recurses := true, apart := false }
def FnSendLossSetSaid : Prop := fnSendLossSetRow.holds Try.pinned (OpenSpec.ofChange fnSendLossSetSpec)

/-- ITS FALSE NEIGHBOUR: 'it returns false'. Refute it at one input. -/
def fnSendLossSetWrong : ChangeSpec := { name := "fnSendLossSet", fn := fun _ => fun
  | [d] => { results := [.lit (.bool false)], args := [d] }
  | _ => none }
def FnSendLossSetWrongFalsely : Prop := fnSendLossSetRow.holds Try.pinned (OpenSpec.ofChange fnSendLossSetWrong)

/- THE SECOND FORM. 'bulk': how many values and letters a reading holds, each counted each time it is reached (what is shared counts as often as it is met; a slice's spare places count too). A statement '..UptoSaid' is the law's where the arguments, and the package variables that the reading takes, are together of bulk at most 1048576: NARROWER than '..Said'. Prove '..Said' where nothing that the law and all that it calls make is longer than what came in: it says more and counts as full. Else prove '..UptoSaid'. A law counts once. -/
mutual
def uptoBulk {H : Type} : DataW H → Nat
  | .lit (.string bytes) => bytes.length + 1
  | .lit _ => 1
  | .nil => 1
  | .ptr d => uptoBulk d + 1
  | .slice elems spare => uptoBulkAll elems + uptoBulkAll spare + 1
  | .agg parts => uptoBulkAll parts + 1
  | .iface _ d => uptoBulk d + 1
  | .map entries => uptoBulkEntries entries + 1
  | .held _ => 1
def uptoBulkAll {H : Type} : List (DataW H) → Nat
  | [] => 0
  | d :: r => uptoBulk d + uptoBulkAll r
def uptoBulkEntries {H : Type} : List (Lit × DataW H) → Nat
  | [] => 0
  | x :: r => uptoBulkEntry x + uptoBulkEntries r
def uptoBulkEntry {H : Type} : Lit × DataW H → Nat
  | (.string bytes, d) => bytes.length + uptoBulk d + 1
  | (_, d) => uptoBulk d + 1
 end
def uptoSmall : (H : Type) → List (DataW H) → Bool := fun _ ds => decide (uptoBulkAll ds ≤ 1048576)
def OpenSpec.upto (s : _root_.Go.ChangeSpec) : _root_.Go.OpenSpec := { _root_.Go.OpenSpec.ofChange s with cond := some uptoSmall }

/-- 'laws.FnSendNextNothing', WHERE WHAT IT READS IS OF BULK AT MOST 1048576: true; the input reads as it did. -/
def fnSendNextNothingUptoRow : OpenClaim := { program := "ytmkmaeblnnfheab", sum := "499b476fc957c3b29c4963733220f07cd4b9561df0b2151417c0e7434c44b195", func := "loop.example/multipathtransport/laws.FnSendNextNothing", spec := "fnSendNextNothing", unfollowed := true, recurses := true, apart := false, narrowed := true }
def FnSendNextNothingUptoSaid : Prop := fnSendNextNothingUptoRow.holds Try.pinned (OpenSpec.upto fnSendNextNothingSpec)

/-- 'laws.FnExactSendLoss', WHERE WHAT IT READS IS OF BULK AT MOST 1048576: true; the input reads as it did. -/
def fnExactSendLossUptoRow : OpenClaim := { program := "ytmkmaeblnnfheab", sum := "499b476fc957c3b29c4963733220f07cd4b9561df0b2151417c0e7434c44b195", func := "loop.example/multipathtransport/laws.FnExactSendLoss", spec := "fnExactSendLoss", unfollowed := true, recurses := true, apart := false, narrowed := true }
def FnExactSendLossUptoSaid : Prop := fnExactSendLossUptoRow.holds Try.pinned (OpenSpec.upto fnExactSendLossSpec)

/-- 'laws.FnSendNextNew', WHERE WHAT IT READS IS OF BULK AT MOST 1048576: true; the input reads as it did. -/
def fnSendNextNewUptoRow : OpenClaim := { program := "ytmkmaeblnnfheab", sum := "499b476fc957c3b29c4963733220f07cd4b9561df0b2151417c0e7434c44b195", func := "loop.example/multipathtransport/laws.FnSendNextNew", spec := "fnSendNextNew", unfollowed := true, recurses := true, apart := false, narrowed := true }
def FnSendNextNewUptoSaid : Prop := fnSendNextNewUptoRow.holds Try.pinned (OpenSpec.upto fnSendNextNewSpec)

/-- 'laws.FnSendNextLost', WHERE WHAT IT READS IS OF BULK AT MOST 1048576: true; the input reads as it did. -/
def fnSendNextLostUptoRow : OpenClaim := { program := "ytmkmaeblnnfheab", sum := "499b476fc957c3b29c4963733220f07cd4b9561df0b2151417c0e7434c44b195", func := "loop.example/multipathtransport/laws.FnSendNextLost", spec := "fnSendNextLost", unfollowed := true, recurses := true, apart := false, narrowed := true }
def FnSendNextLostUptoSaid : Prop := fnSendNextLostUptoRow.holds Try.pinned (OpenSpec.upto fnSendNextLostSpec)

/-- 'laws.FnSendGrant', WHERE WHAT IT READS IS OF BULK AT MOST 1048576: true; the input reads as it did. -/
def fnSendGrantUptoRow : OpenClaim := { program := "ytmkmaeblnnfheab", sum := "499b476fc957c3b29c4963733220f07cd4b9561df0b2151417c0e7434c44b195", func := "loop.example/multipathtransport/laws.FnSendGrant", spec := "fnSendGrant", unfollowed := true, recurses := true, apart := false, narrowed := true }
def FnSendGrantUptoSaid : Prop := fnSendGrantUptoRow.holds Try.pinned (OpenSpec.upto fnSendGrantSpec)

/-- 'laws.FnSendNextPart', WHERE WHAT IT READS IS OF BULK AT MOST 1048576: true; the input reads as it did. -/
def fnSendNextPartUptoRow : OpenClaim := { program := "ytmkmaeblnnfheab", sum := "499b476fc957c3b29c4963733220f07cd4b9561df0b2151417c0e7434c44b195", func := "loop.example/multipathtransport/laws.FnSendNextPart", spec := "fnSendNextPart", unfollowed := true, recurses := true, apart := false, narrowed := true }
def FnSendNextPartUptoSaid : Prop := fnSendNextPartUptoRow.holds Try.pinned (OpenSpec.upto fnSendNextPartSpec)

/-- 'laws.FnExactSendAck', WHERE WHAT IT READS IS OF BULK AT MOST 1048576: true; the input reads as it did. -/
def fnExactSendAckUptoRow : OpenClaim := { program := "ytmkmaeblnnfheab", sum := "499b476fc957c3b29c4963733220f07cd4b9561df0b2151417c0e7434c44b195", func := "loop.example/multipathtransport/laws.FnExactSendAck", spec := "fnExactSendAck", unfollowed := true, recurses := true, apart := false, narrowed := true }
def FnExactSendAckUptoSaid : Prop := fnExactSendAckUptoRow.holds Try.pinned (OpenSpec.upto fnExactSendAckSpec)

/-- 'laws.FnSendAll', WHERE WHAT IT READS IS OF BULK AT MOST 1048576: true; the input reads as it did. -/
def fnSendAllUptoRow : OpenClaim := { program := "ytmkmaeblnnfheab", sum := "499b476fc957c3b29c4963733220f07cd4b9561df0b2151417c0e7434c44b195", func := "loop.example/multipathtransport/laws.FnSendAll", spec := "fnSendAll", unfollowed := true, recurses := true, apart := false, narrowed := true }
def FnSendAllUptoSaid : Prop := fnSendAllUptoRow.holds Try.pinned (OpenSpec.upto fnSendAllSpec)

/-- 'laws.FnSendAckOrder', WHERE WHAT IT READS IS OF BULK AT MOST 1048576: true; the input reads as it did. -/
def fnSendAckOrderUptoRow : OpenClaim := { program := "ytmkmaeblnnfheab", sum := "499b476fc957c3b29c4963733220f07cd4b9561df0b2151417c0e7434c44b195", func := "loop.example/multipathtransport/laws.FnSendAckOrder", spec := "fnSendAckOrder", unfollowed := true, recurses := true, apart := false, narrowed := true }
def FnSendAckOrderUptoSaid : Prop := fnSendAckOrderUptoRow.holds Try.pinned (OpenSpec.upto fnSendAckOrderSpec)

/-- 'laws.FnSendLossSet', WHERE WHAT IT READS IS OF BULK AT MOST 1048576: true; the input reads as it did. -/
def fnSendLossSetUptoRow : OpenClaim := { program := "ytmkmaeblnnfheab", sum := "499b476fc957c3b29c4963733220f07cd4b9561df0b2151417c0e7434c44b195", func := "loop.example/multipathtransport/laws.FnSendLossSet", spec := "fnSendLossSet", unfollowed := true, recurses := true, apart := false, narrowed := true }
def FnSendLossSetUptoSaid : Prop := fnSendLossSetUptoRow.holds Try.pinned (OpenSpec.upto fnSendLossSetSpec)

end Rows
end Go.Proofs.Ytmkmaeblnnfheab
