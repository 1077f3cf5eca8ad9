/-
  No cell of these rows narrows 'for every input' (looked for: loops, veiled, ifaces, maps, wideKeys, modest, calm, conditions, laid).
  DERIVED. THE GIVEN ROWS OF THIS SEAT. 8 by the template 'for every input the law returns true; each argument reads behind the call as it read before'; 0 by the template 'total and deterministic' (their statements: YteajojhfcllodaaTotals.lean).
  GIVEN WITH THE SEED: the statements are not yours to turn. If you find one false, say at which input.
  Laid BY PROGRAM, IN A SANDBOX (cutbox-rows.mjs): the forced cells as the released guide's own fill.sh prints them over the translation 7cfe1cda08504b7c… (all of the seat's roots in one cut). By AI agents, Wed Nov 11 2026. No macro, syntax, notation, axiom, sorry.
-/
import Derived.Test.YteajojhfcllodaaChecked
import GoSem.Claim
import GoSem.ClaimJoined
import GoSem.ClaimMapViews
import Derived.JoinedTies
import Derived.KernelRfl
namespace Go.Proofs.Yteajojhfcllodaa
/- THE CELL 'sum', in the pinned program and in every row, IS THE sha256 OF THE DUMP (.gsa) THAT YteajojhfcllodaaProg.lean LOADS. Nothing in Lean hashes anything: it is a label: what it is worth is what the hold of that sum in a sandbox is worth. -/
noncomputable def Try.pinned : Pinned := { name := "yteajojhfcllodaa", sum := "7cfe1cda08504b7c0f9ea9694e7d35df603eaddcd11d230b2e8ee32b39d0dfa6", checked := Try.checked }
namespace Rows
def none {H : Type} : Left H := { results := [], args := [] }

/-- 'laws.FnPathProbeOnce': WHATEVER THE INPUT: true; the input reads as it did. -/
def fnPathProbeOnceSpec : ChangeSpec := { name := "fnPathProbeOnce", fn := fun _ => fun
  | [d] => { results := [.lit (.bool true)], args := [d] }
  | _ => none }
def fnPathProbeOnceRow : OpenClaim := { program := "yteajojhfcllodaa", sum := "7cfe1cda08504b7c0f9ea9694e7d35df603eaddcd11d230b2e8ee32b39d0dfa6", func := "loop.example/multipathtransport/laws.FnPathProbeOnce", spec := "fnPathProbeOnce", apart := false }
def FnPathProbeOnceSaid : Prop := fnPathProbeOnceRow.holds Try.pinned (OpenSpec.ofChange fnPathProbeOnceSpec)

/-- ITS FALSE NEIGHBOUR: 'it returns false'. Refute it at one input. -/
def fnPathProbeOnceWrong : ChangeSpec := { name := "fnPathProbeOnce", fn := fun _ => fun
  | [d] => { results := [.lit (.bool false)], args := [d] }
  | _ => none }
def FnPathProbeOnceWrongFalsely : Prop := fnPathProbeOnceRow.holds Try.pinned (OpenSpec.ofChange fnPathProbeOnceWrong)

/-- 'laws.FnPathTick': WHATEVER THE INPUT: true; the input reads as it did. -/
def fnPathTickSpec : ChangeSpec := { name := "fnPathTick", fn := fun _ => fun
  | [d] => { results := [.lit (.bool true)], args := [d] }
  | _ => none }
def fnPathTickRow : OpenClaim := { program := "yteajojhfcllodaa", sum := "7cfe1cda08504b7c0f9ea9694e7d35df603eaddcd11d230b2e8ee32b39d0dfa6", func := "loop.example/multipathtransport/laws.FnPathTick", spec := "fnPathTick", apart := false }
def FnPathTickSaid : Prop := fnPathTickRow.holds Try.pinned (OpenSpec.ofChange fnPathTickSpec)

/-- ITS FALSE NEIGHBOUR: 'it returns false'. Refute it at one input. -/
def fnPathTickWrong : ChangeSpec := { name := "fnPathTick", fn := fun _ => fun
  | [d] => { results := [.lit (.bool false)], args := [d] }
  | _ => none }
def FnPathTickWrongFalsely : Prop := fnPathTickRow.holds Try.pinned (OpenSpec.ofChange fnPathTickWrong)

/-- 'laws.FnPathReceive': WHATEVER THE INPUT: true; the input reads as it did. -/
def fnPathReceiveSpec : ChangeSpec := { name := "fnPathReceive", fn := fun _ => fun
  | [d] => { results := [.lit (.bool true)], args := [d] }
  | _ => none }
def fnPathReceiveRow : OpenClaim := { program := "yteajojhfcllodaa", sum := "7cfe1cda08504b7c0f9ea9694e7d35df603eaddcd11d230b2e8ee32b39d0dfa6", func := "loop.example/multipathtransport/laws.FnPathReceive", spec := "fnPathReceive", apart := false }
def FnPathReceiveSaid : Prop := fnPathReceiveRow.holds Try.pinned (OpenSpec.ofChange fnPathReceiveSpec)

/-- ITS FALSE NEIGHBOUR: 'it returns false'. Refute it at one input. -/
def fnPathReceiveWrong : ChangeSpec := { name := "fnPathReceive", fn := fun _ => fun
  | [d] => { results := [.lit (.bool false)], args := [d] }
  | _ => none }
def FnPathReceiveWrongFalsely : Prop := fnPathReceiveRow.holds Try.pinned (OpenSpec.ofChange fnPathReceiveWrong)

/-- 'laws.FnPathActive': WHATEVER THE INPUT: true; the input reads as it did. -/
def fnPathActiveSpec : ChangeSpec := { name := "fnPathActive", fn := fun _ => fun
  | [d1, d2] => { results := [.lit (.bool true)], args := [d1, d2] }
  | _ => none }
def fnPathActiveRow : OpenClaim := { program := "yteajojhfcllodaa", sum := "7cfe1cda08504b7c0f9ea9694e7d35df603eaddcd11d230b2e8ee32b39d0dfa6", func := "loop.example/multipathtransport/laws.FnPathActive", spec := "fnPathActive", apart := false }
def FnPathActiveSaid : Prop := fnPathActiveRow.holds Try.pinned (OpenSpec.ofChange fnPathActiveSpec)

/-- ITS FALSE NEIGHBOUR: 'it returns false'. Refute it at one input. -/
def fnPathActiveWrong : ChangeSpec := { name := "fnPathActive", fn := fun _ => fun
  | [d1, d2] => { results := [.lit (.bool false)], args := [d1, d2] }
  | _ => none }
def FnPathActiveWrongFalsely : Prop := fnPathActiveRow.holds Try.pinned (OpenSpec.ofChange fnPathActiveWrong)

/-- 'laws.FnPathAmplify': WHATEVER THE INPUT: true; the input reads as it did. -/
def fnPathAmplifySpec : ChangeSpec := { name := "fnPathAmplify", fn := fun _ => fun
  | [d] => { results := [.lit (.bool true)], args := [d] }
  | _ => none }
def fnPathAmplifyRow : OpenClaim := { program := "yteajojhfcllodaa", sum := "7cfe1cda08504b7c0f9ea9694e7d35df603eaddcd11d230b2e8ee32b39d0dfa6", func := "loop.example/multipathtransport/laws.FnPathAmplify", spec := "fnPathAmplify", apart := false }
def FnPathAmplifySaid : Prop := fnPathAmplifyRow.holds Try.pinned (OpenSpec.ofChange fnPathAmplifySpec)

/-- ITS FALSE NEIGHBOUR: 'it returns false'. Refute it at one input. -/
def fnPathAmplifyWrong : ChangeSpec := { name := "fnPathAmplify", fn := fun _ => fun
  | [d] => { results := [.lit (.bool false)], args := [d] }
  | _ => none }
def FnPathAmplifyWrongFalsely : Prop := fnPathAmplifyRow.holds Try.pinned (OpenSpec.ofChange fnPathAmplifyWrong)

/-- 'laws.FnPathSendFail': WHATEVER THE INPUT: true; the input reads as it did. -/
def fnPathSendFailSpec : ChangeSpec := { name := "fnPathSendFail", fn := fun _ => fun
  | [d] => { results := [.lit (.bool true)], args := [d] }
  | _ => none }
def fnPathSendFailRow : OpenClaim := { program := "yteajojhfcllodaa", sum := "7cfe1cda08504b7c0f9ea9694e7d35df603eaddcd11d230b2e8ee32b39d0dfa6", func := "loop.example/multipathtransport/laws.FnPathSendFail", spec := "fnPathSendFail", apart := false }
def FnPathSendFailSaid : Prop := fnPathSendFailRow.holds Try.pinned (OpenSpec.ofChange fnPathSendFailSpec)

/-- ITS FALSE NEIGHBOUR: 'it returns false'. Refute it at one input. -/
def fnPathSendFailWrong : ChangeSpec := { name := "fnPathSendFail", fn := fun _ => fun
  | [d] => { results := [.lit (.bool false)], args := [d] }
  | _ => none }
def FnPathSendFailWrongFalsely : Prop := fnPathSendFailRow.holds Try.pinned (OpenSpec.ofChange fnPathSendFailWrong)

/-- 'laws.FnPathFailed': WHATEVER THE INPUT: true; the input reads as it did. -/
def fnPathFailedSpec : ChangeSpec := { name := "fnPathFailed", fn := fun _ => fun
  | [d] => { results := [.lit (.bool true)], args := [d] }
  | _ => none }
def fnPathFailedRow : OpenClaim := { program := "yteajojhfcllodaa", sum := "7cfe1cda08504b7c0f9ea9694e7d35df603eaddcd11d230b2e8ee32b39d0dfa6", func := "loop.example/multipathtransport/laws.FnPathFailed", spec := "fnPathFailed", apart := false }
def FnPathFailedSaid : Prop := fnPathFailedRow.holds Try.pinned (OpenSpec.ofChange fnPathFailedSpec)

/-- ITS FALSE NEIGHBOUR: 'it returns false'. Refute it at one input. -/
def fnPathFailedWrong : ChangeSpec := { name := "fnPathFailed", fn := fun _ => fun
  | [d] => { results := [.lit (.bool false)], args := [d] }
  | _ => none }
def FnPathFailedWrongFalsely : Prop := fnPathFailedRow.holds Try.pinned (OpenSpec.ofChange fnPathFailedWrong)

/-- 'laws.FnPathClosed': WHATEVER THE INPUT: true; the input reads as it did. -/
def fnPathClosedSpec : ChangeSpec := { name := "fnPathClosed", fn := fun _ => fun
  | [d] => { results := [.lit (.bool true)], args := [d] }
  | _ => none }
def fnPathClosedRow : OpenClaim := { program := "yteajojhfcllodaa", sum := "7cfe1cda08504b7c0f9ea9694e7d35df603eaddcd11d230b2e8ee32b39d0dfa6", func := "loop.example/multipathtransport/laws.FnPathClosed", spec := "fnPathClosed", apart := false }
def FnPathClosedSaid : Prop := fnPathClosedRow.holds Try.pinned (OpenSpec.ofChange fnPathClosedSpec)

/-- ITS FALSE NEIGHBOUR: 'it returns false'. Refute it at one input. -/
def fnPathClosedWrong : ChangeSpec := { name := "fnPathClosed", fn := fun _ => fun
  | [d] => { results := [.lit (.bool false)], args := [d] }
  | _ => none }
def FnPathClosedWrongFalsely : Prop := fnPathClosedRow.holds Try.pinned (OpenSpec.ofChange fnPathClosedWrong)

/- THE SECOND FORM. 'bulk': how many values and letters a reading holds, each counted each time it is reached (what is shared counts as often as it is met; a slice's spare places count too). A statement '..UptoSaid' is the law's where the arguments, and the package variables that the reading takes, are together of bulk at most 1048576: NARROWER than '..Said'. Prove '..Said' where nothing that the law and all that it calls make is longer than what came in: it says more and counts as full. Else prove '..UptoSaid'. A law counts once. -/
mutual
def uptoBulk {H : Type} : DataW H → Nat
  | .lit (.string bytes) => bytes.length + 1
  | .lit _ => 1
  | .nil => 1
  | .ptr d => uptoBulk d + 1
  | .slice elems spare => uptoBulkAll elems + uptoBulkAll spare + 1
  | .agg parts => uptoBulkAll parts + 1
  | .iface _ d => uptoBulk d + 1
  | .map entries => uptoBulkEntries entries + 1
  | .held _ => 1
def uptoBulkAll {H : Type} : List (DataW H) → Nat
  | [] => 0
  | d :: r => uptoBulk d + uptoBulkAll r
def uptoBulkEntries {H : Type} : List (Lit × DataW H) → Nat
  | [] => 0
  | x :: r => uptoBulkEntry x + uptoBulkEntries r
def uptoBulkEntry {H : Type} : Lit × DataW H → Nat
  | (.string bytes, d) => bytes.length + uptoBulk d + 1
  | (_, d) => uptoBulk d + 1
 end
def uptoSmall : (H : Type) → List (DataW H) → Bool := fun _ ds => decide (uptoBulkAll ds ≤ 1048576)
def OpenSpec.upto (s : _root_.Go.ChangeSpec) : _root_.Go.OpenSpec := { _root_.Go.OpenSpec.ofChange s with cond := some uptoSmall }

/-- 'laws.FnPathProbeOnce', WHERE WHAT IT READS IS OF BULK AT MOST 1048576: true; the input reads as it did. -/
def fnPathProbeOnceUptoRow : OpenClaim := { program := "yteajojhfcllodaa", sum := "7cfe1cda08504b7c0f9ea9694e7d35df603eaddcd11d230b2e8ee32b39d0dfa6", func := "loop.example/multipathtransport/laws.FnPathProbeOnce", spec := "fnPathProbeOnce", apart := false, narrowed := true }
def FnPathProbeOnceUptoSaid : Prop := fnPathProbeOnceUptoRow.holds Try.pinned (OpenSpec.upto fnPathProbeOnceSpec)

/-- 'laws.FnPathTick', WHERE WHAT IT READS IS OF BULK AT MOST 1048576: true; the input reads as it did. -/
def fnPathTickUptoRow : OpenClaim := { program := "yteajojhfcllodaa", sum := "7cfe1cda08504b7c0f9ea9694e7d35df603eaddcd11d230b2e8ee32b39d0dfa6", func := "loop.example/multipathtransport/laws.FnPathTick", spec := "fnPathTick", apart := false, narrowed := true }
def FnPathTickUptoSaid : Prop := fnPathTickUptoRow.holds Try.pinned (OpenSpec.upto fnPathTickSpec)

/-- 'laws.FnPathReceive', WHERE WHAT IT READS IS OF BULK AT MOST 1048576: true; the input reads as it did. -/
def fnPathReceiveUptoRow : OpenClaim := { program := "yteajojhfcllodaa", sum := "7cfe1cda08504b7c0f9ea9694e7d35df603eaddcd11d230b2e8ee32b39d0dfa6", func := "loop.example/multipathtransport/laws.FnPathReceive", spec := "fnPathReceive", apart := false, narrowed := true }
def FnPathReceiveUptoSaid : Prop := fnPathReceiveUptoRow.holds Try.pinned (OpenSpec.upto fnPathReceiveSpec)

/-- 'laws.FnPathActive', WHERE WHAT IT READS IS OF BULK AT MOST 1048576: true; the input reads as it did. -/
def fnPathActiveUptoRow : OpenClaim := { program := "yteajojhfcllodaa", sum := "7cfe1cda08504b7c0f9ea9694e7d35df603eaddcd11d230b2e8ee32b39d0dfa6", func := "loop.example/multipathtransport/laws.FnPathActive", spec := "fnPathActive", apart := false, narrowed := true }
def FnPathActiveUptoSaid : Prop := fnPathActiveUptoRow.holds Try.pinned (OpenSpec.upto fnPathActiveSpec)

/-- 'laws.FnPathAmplify', WHERE WHAT IT READS IS OF BULK AT MOST 1048576: true; the input reads as it did. -/
def fnPathAmplifyUptoRow : OpenClaim := { program := "yteajojhfcllodaa", sum := "7cfe1cda08504b7c0f9ea9694e7d35df603eaddcd11d230b2e8ee32b39d0dfa6", func := "loop.example/multipathtransport/laws.FnPathAmplify", spec := "fnPathAmplify", apart := false, narrowed := true }
def FnPathAmplifyUptoSaid : Prop := fnPathAmplifyUptoRow.holds Try.pinned (OpenSpec.upto fnPathAmplifySpec)

/-- 'laws.FnPathSendFail', WHERE WHAT IT READS IS OF BULK AT MOST 1048576: true; the input reads as it did. -/
def fnPathSendFailUptoRow : OpenClaim := { program := "yteajojhfcllodaa", sum := "7cfe1cda08504b7c0f9ea9694e7d35df603eaddcd11d230b2e8ee32b39d0dfa6", func := "loop.example/multipathtransport/laws.FnPathSendFail", spec := "fnPathSendFail", apart := false, narrowed := true }
def FnPathSendFailUptoSaid : Prop := fnPathSendFailUptoRow.holds Try.pinned (OpenSpec.upto fnPathSendFailSpec)

/-- 'laws.FnPathFailed', WHERE WHAT IT READS IS OF BULK AT MOST 1048576: true; the input reads as it did. -/
def fnPathFailedUptoRow : OpenClaim := { program := "yteajojhfcllodaa", sum := "7cfe1cda08504b7c0f9ea9694e7d35df603eaddcd11d230b2e8ee32b39d0dfa6", func := "loop.example/multipathtransport/laws.FnPathFailed", spec := "fnPathFailed", apart := false, narrowed := true }
def FnPathFailedUptoSaid : Prop := fnPathFailedUptoRow.holds Try.pinned (OpenSpec.upto fnPathFailedSpec)

/-- 'laws.FnPathClosed', WHERE WHAT IT READS IS OF BULK AT MOST 1048576: true; the input reads as it did. -/
def fnPathClosedUptoRow : OpenClaim := { program := "yteajojhfcllodaa", sum := "7cfe1cda08504b7c0f9ea9694e7d35df603eaddcd11d230b2e8ee32b39d0dfa6", func := "loop.example/multipathtransport/laws.FnPathClosed", spec := "fnPathClosed", apart := false, narrowed := true }
def FnPathClosedUptoSaid : Prop := fnPathClosedUptoRow.holds Try.pinned (OpenSpec.upto fnPathClosedSpec)

end Rows
end Go.Proofs.Yteajojhfcllodaa
