/-
  No cell of these rows narrows 'for every input' (looked for: loops, veiled, ifaces, maps, wideKeys, modest, calm, conditions, laid).
  DERIVED. THE GIVEN ROWS OF THIS SEAT. 9 by the template 'for every input the law returns true; each argument reads behind the call as it read before'; 0 by the template 'total and deterministic' (their statements: YtnnpabldpjohfaaTotals.lean).
  GIVEN WITH THE SEED: the statements are not yours to turn. If you find one false, say at which input.
  Laid BY PROGRAM, IN A SANDBOX (cutbox-rows.mjs): the forced cells as the released guide's own fill.sh prints them over the translation ff82e242c4555db0… (all of the seat's roots in one cut). By AI agents, Wed Nov 11 2026. No macro, syntax, notation, axiom, sorry.
-/
import Derived.Test.YtnnpabldpjohfaaChecked
import GoSem.Claim
import GoSem.ClaimJoined
import GoSem.ClaimMapViews
import Derived.JoinedTies
import Derived.KernelRfl
namespace Go.Proofs.Ytnnpabldpjohfaa
/- THE CELL 'sum', in the pinned program and in every row, IS THE sha256 OF THE DUMP (.gsa) THAT YtnnpabldpjohfaaProg.lean LOADS. Nothing in Lean hashes anything: it is a label: what it is worth is what the hold of that sum in a sandbox is worth. -/
noncomputable def Try.pinned : Pinned := { name := "ytnnpabldpjohfaa", sum := "ff82e242c4555db05ce8a665a9ffa15aeae127daa955f765c3ff06717ab323bb", checked := Try.checked }
namespace Rows
def none {H : Type} : Left H := { results := [], args := [] }

/-- 'laws.FnExactPathValid': WHATEVER THE INPUT: true; the input reads as it did. -/
def fnExactPathValidSpec : ChangeSpec := { name := "fnExactPathValid", fn := fun _ => fun
  | [d] => { results := [.lit (.bool true)], args := [d] }
  | _ => none }
def fnExactPathValidRow : OpenClaim := { program := "ytnnpabldpjohfaa", sum := "ff82e242c4555db05ce8a665a9ffa15aeae127daa955f765c3ff06717ab323bb", func := "loop.example/multipathtransport/laws.FnExactPathValid", spec := "fnExactPathValid", apart := false }
def FnExactPathValidSaid : Prop := fnExactPathValidRow.holds Try.pinned (OpenSpec.ofChange fnExactPathValidSpec)

/-- ITS FALSE NEIGHBOUR: 'it returns false'. Refute it at one input. -/
def fnExactPathValidWrong : ChangeSpec := { name := "fnExactPathValid", fn := fun _ => fun
  | [d] => { results := [.lit (.bool false)], args := [d] }
  | _ => none }
def FnExactPathValidWrongFalsely : Prop := fnExactPathValidRow.holds Try.pinned (OpenSpec.ofChange fnExactPathValidWrong)

/-- 'laws.FnExactPathClose': WHATEVER THE INPUT: true; the input reads as it did. -/
def fnExactPathCloseSpec : ChangeSpec := { name := "fnExactPathClose", fn := fun _ => fun
  | [d] => { results := [.lit (.bool true)], args := [d] }
  | _ => none }
def fnExactPathCloseRow : OpenClaim := { program := "ytnnpabldpjohfaa", sum := "ff82e242c4555db05ce8a665a9ffa15aeae127daa955f765c3ff06717ab323bb", func := "loop.example/multipathtransport/laws.FnExactPathClose", spec := "fnExactPathClose", apart := false }
def FnExactPathCloseSaid : Prop := fnExactPathCloseRow.holds Try.pinned (OpenSpec.ofChange fnExactPathCloseSpec)

/-- ITS FALSE NEIGHBOUR: 'it returns false'. Refute it at one input. -/
def fnExactPathCloseWrong : ChangeSpec := { name := "fnExactPathClose", fn := fun _ => fun
  | [d] => { results := [.lit (.bool false)], args := [d] }
  | _ => none }
def FnExactPathCloseWrongFalsely : Prop := fnExactPathCloseRow.holds Try.pinned (OpenSpec.ofChange fnExactPathCloseWrong)

/-- 'laws.FnExactPathProbe': WHATEVER THE INPUT: true; the input reads as it did. -/
def fnExactPathProbeSpec : ChangeSpec := { name := "fnExactPathProbe", fn := fun _ => fun
  | [d1, d2, d3, d4] => { results := [.lit (.bool true)], args := [d1, d2, d3, d4] }
  | _ => none }
def fnExactPathProbeRow : OpenClaim := { program := "ytnnpabldpjohfaa", sum := "ff82e242c4555db05ce8a665a9ffa15aeae127daa955f765c3ff06717ab323bb", func := "loop.example/multipathtransport/laws.FnExactPathProbe", spec := "fnExactPathProbe", apart := false }
def FnExactPathProbeSaid : Prop := fnExactPathProbeRow.holds Try.pinned (OpenSpec.ofChange fnExactPathProbeSpec)

/-- ITS FALSE NEIGHBOUR: 'it returns false'. Refute it at one input. -/
def fnExactPathProbeWrong : ChangeSpec := { name := "fnExactPathProbe", fn := fun _ => fun
  | [d1, d2, d3, d4] => { results := [.lit (.bool false)], args := [d1, d2, d3, d4] }
  | _ => none }
def FnExactPathProbeWrongFalsely : Prop := fnExactPathProbeRow.holds Try.pinned (OpenSpec.ofChange fnExactPathProbeWrong)

/-- 'laws.FnExactPathTick': WHATEVER THE INPUT: true; the input reads as it did. -/
def fnExactPathTickSpec : ChangeSpec := { name := "fnExactPathTick", fn := fun _ => fun
  | [d1, d2] => { results := [.lit (.bool true)], args := [d1, d2] }
  | _ => none }
def fnExactPathTickRow : OpenClaim := { program := "ytnnpabldpjohfaa", sum := "ff82e242c4555db05ce8a665a9ffa15aeae127daa955f765c3ff06717ab323bb", func := "loop.example/multipathtransport/laws.FnExactPathTick", spec := "fnExactPathTick", apart := false }
def FnExactPathTickSaid : Prop := fnExactPathTickRow.holds Try.pinned (OpenSpec.ofChange fnExactPathTickSpec)

/-- ITS FALSE NEIGHBOUR: 'it returns false'. Refute it at one input. -/
def fnExactPathTickWrong : ChangeSpec := { name := "fnExactPathTick", fn := fun _ => fun
  | [d1, d2] => { results := [.lit (.bool false)], args := [d1, d2] }
  | _ => none }
def FnExactPathTickWrongFalsely : Prop := fnExactPathTickRow.holds Try.pinned (OpenSpec.ofChange fnExactPathTickWrong)

/-- 'laws.FnExactPathReceive': WHATEVER THE INPUT: true; the input reads as it did. -/
def fnExactPathReceiveSpec : ChangeSpec := { name := "fnExactPathReceive", fn := fun _ => fun
  | [d1, d2] => { results := [.lit (.bool true)], args := [d1, d2] }
  | _ => none }
def fnExactPathReceiveRow : OpenClaim := { program := "ytnnpabldpjohfaa", sum := "ff82e242c4555db05ce8a665a9ffa15aeae127daa955f765c3ff06717ab323bb", func := "loop.example/multipathtransport/laws.FnExactPathReceive", spec := "fnExactPathReceive", apart := false }
def FnExactPathReceiveSaid : Prop := fnExactPathReceiveRow.holds Try.pinned (OpenSpec.ofChange fnExactPathReceiveSpec)

/-- ITS FALSE NEIGHBOUR: 'it returns false'. Refute it at one input. -/
def fnExactPathReceiveWrong : ChangeSpec := { name := "fnExactPathReceive", fn := fun _ => fun
  | [d1, d2] => { results := [.lit (.bool false)], args := [d1, d2] }
  | _ => none }
def FnExactPathReceiveWrongFalsely : Prop := fnExactPathReceiveRow.holds Try.pinned (OpenSpec.ofChange fnExactPathReceiveWrong)

/-- 'laws.FnExactPathAnswer': WHATEVER THE INPUT: true; the input reads as it did. -/
def fnExactPathAnswerSpec : ChangeSpec := { name := "fnExactPathAnswer", fn := fun _ => fun
  | [d1, d2] => { results := [.lit (.bool true)], args := [d1, d2] }
  | _ => none }
def fnExactPathAnswerRow : OpenClaim := { program := "ytnnpabldpjohfaa", sum := "ff82e242c4555db05ce8a665a9ffa15aeae127daa955f765c3ff06717ab323bb", func := "loop.example/multipathtransport/laws.FnExactPathAnswer", spec := "fnExactPathAnswer", apart := false }
def FnExactPathAnswerSaid : Prop := fnExactPathAnswerRow.holds Try.pinned (OpenSpec.ofChange fnExactPathAnswerSpec)

/-- ITS FALSE NEIGHBOUR: 'it returns false'. Refute it at one input. -/
def fnExactPathAnswerWrong : ChangeSpec := { name := "fnExactPathAnswer", fn := fun _ => fun
  | [d1, d2] => { results := [.lit (.bool false)], args := [d1, d2] }
  | _ => none }
def FnExactPathAnswerWrongFalsely : Prop := fnExactPathAnswerRow.holds Try.pinned (OpenSpec.ofChange fnExactPathAnswerWrong)

/-- 'laws.FnExactPathSend': WHATEVER THE INPUT: true; the input reads as it did. -/
def fnExactPathSendSpec : ChangeSpec := { name := "fnExactPathSend", fn := fun _ => fun
  | [d1, d2] => { results := [.lit (.bool true)], args := [d1, d2] }
  | _ => none }
def fnExactPathSendRow : OpenClaim := { program := "ytnnpabldpjohfaa", sum := "ff82e242c4555db05ce8a665a9ffa15aeae127daa955f765c3ff06717ab323bb", func := "loop.example/multipathtransport/laws.FnExactPathSend", spec := "fnExactPathSend", apart := false }
def FnExactPathSendSaid : Prop := fnExactPathSendRow.holds Try.pinned (OpenSpec.ofChange fnExactPathSendSpec)

/-- ITS FALSE NEIGHBOUR: 'it returns false'. Refute it at one input. -/
def fnExactPathSendWrong : ChangeSpec := { name := "fnExactPathSend", fn := fun _ => fun
  | [d1, d2] => { results := [.lit (.bool false)], args := [d1, d2] }
  | _ => none }
def FnExactPathSendWrongFalsely : Prop := fnExactPathSendRow.holds Try.pinned (OpenSpec.ofChange fnExactPathSendWrong)

/-- 'laws.FnPathValid': WHATEVER THE INPUT: true; the input reads as it did. -/
def fnPathValidSpec : ChangeSpec := { name := "fnPathValid", fn := fun _ => fun
  | [d] => { results := [.lit (.bool true)], args := [d] }
  | _ => none }
def fnPathValidRow : OpenClaim := { program := "ytnnpabldpjohfaa", sum := "ff82e242c4555db05ce8a665a9ffa15aeae127daa955f765c3ff06717ab323bb", func := "loop.example/multipathtransport/laws.FnPathValid", spec := "fnPathValid", apart := false }
def FnPathValidSaid : Prop := fnPathValidRow.holds Try.pinned (OpenSpec.ofChange fnPathValidSpec)

/-- ITS FALSE NEIGHBOUR: 'it returns false'. Refute it at one input. -/
def fnPathValidWrong : ChangeSpec := { name := "fnPathValid", fn := fun _ => fun
  | [d] => { results := [.lit (.bool false)], args := [d] }
  | _ => none }
def FnPathValidWrongFalsely : Prop := fnPathValidRow.holds Try.pinned (OpenSpec.ofChange fnPathValidWrong)

/-- 'laws.FnPathAnswer': WHATEVER THE INPUT: true; the input reads as it did. -/
def fnPathAnswerSpec : ChangeSpec := { name := "fnPathAnswer", fn := fun _ => fun
  | [d] => { results := [.lit (.bool true)], args := [d] }
  | _ => none }
def fnPathAnswerRow : OpenClaim := { program := "ytnnpabldpjohfaa", sum := "ff82e242c4555db05ce8a665a9ffa15aeae127daa955f765c3ff06717ab323bb", func := "loop.example/multipathtransport/laws.FnPathAnswer", spec := "fnPathAnswer", apart := false }
def FnPathAnswerSaid : Prop := fnPathAnswerRow.holds Try.pinned (OpenSpec.ofChange fnPathAnswerSpec)

/-- ITS FALSE NEIGHBOUR: 'it returns false'. Refute it at one input. -/
def fnPathAnswerWrong : ChangeSpec := { name := "fnPathAnswer", fn := fun _ => fun
  | [d] => { results := [.lit (.bool false)], args := [d] }
  | _ => none }
def FnPathAnswerWrongFalsely : Prop := fnPathAnswerRow.holds Try.pinned (OpenSpec.ofChange fnPathAnswerWrong)

/- THE SECOND FORM. 'bulk': how many values and letters a reading holds, each counted each time it is reached (what is shared counts as often as it is met; a slice's spare places count too). A statement '..UptoSaid' is the law's where the arguments, and the package variables that the reading takes, are together of bulk at most 1048576: NARROWER than '..Said'. Prove '..Said' where nothing that the law and all that it calls make is longer than what came in: it says more and counts as full. Else prove '..UptoSaid'. A law counts once. -/
mutual
def uptoBulk {H : Type} : DataW H → Nat
  | .lit (.string bytes) => bytes.length + 1
  | .lit _ => 1
  | .nil => 1
  | .ptr d => uptoBulk d + 1
  | .slice elems spare => uptoBulkAll elems + uptoBulkAll spare + 1
  | .agg parts => uptoBulkAll parts + 1
  | .iface _ d => uptoBulk d + 1
  | .map entries => uptoBulkEntries entries + 1
  | .held _ => 1
def uptoBulkAll {H : Type} : List (DataW H) → Nat
  | [] => 0
  | d :: r => uptoBulk d + uptoBulkAll r
def uptoBulkEntries {H : Type} : List (Lit × DataW H) → Nat
  | [] => 0
  | x :: r => uptoBulkEntry x + uptoBulkEntries r
def uptoBulkEntry {H : Type} : Lit × DataW H → Nat
  | (.string bytes, d) => bytes.length + uptoBulk d + 1
  | (_, d) => uptoBulk d + 1
 end
def uptoSmall : (H : Type) → List (DataW H) → Bool := fun _ ds => decide (uptoBulkAll ds ≤ 1048576)
def OpenSpec.upto (s : _root_.Go.ChangeSpec) : _root_.Go.OpenSpec := { _root_.Go.OpenSpec.ofChange s with cond := some uptoSmall }

/-- 'laws.FnExactPathValid', WHERE WHAT IT READS IS OF BULK AT MOST 1048576: true; the input reads as it did. -/
def fnExactPathValidUptoRow : OpenClaim := { program := "ytnnpabldpjohfaa", sum := "ff82e242c4555db05ce8a665a9ffa15aeae127daa955f765c3ff06717ab323bb", func := "loop.example/multipathtransport/laws.FnExactPathValid", spec := "fnExactPathValid", apart := false, narrowed := true }
def FnExactPathValidUptoSaid : Prop := fnExactPathValidUptoRow.holds Try.pinned (OpenSpec.upto fnExactPathValidSpec)

/-- 'laws.FnExactPathClose', WHERE WHAT IT READS IS OF BULK AT MOST 1048576: true; the input reads as it did. -/
def fnExactPathCloseUptoRow : OpenClaim := { program := "ytnnpabldpjohfaa", sum := "ff82e242c4555db05ce8a665a9ffa15aeae127daa955f765c3ff06717ab323bb", func := "loop.example/multipathtransport/laws.FnExactPathClose", spec := "fnExactPathClose", apart := false, narrowed := true }
def FnExactPathCloseUptoSaid : Prop := fnExactPathCloseUptoRow.holds Try.pinned (OpenSpec.upto fnExactPathCloseSpec)

/-- 'laws.FnExactPathProbe', WHERE WHAT IT READS IS OF BULK AT MOST 1048576: true; the input reads as it did. -/
def fnExactPathProbeUptoRow : OpenClaim := { program := "ytnnpabldpjohfaa", sum := "ff82e242c4555db05ce8a665a9ffa15aeae127daa955f765c3ff06717ab323bb", func := "loop.example/multipathtransport/laws.FnExactPathProbe", spec := "fnExactPathProbe", apart := false, narrowed := true }
def FnExactPathProbeUptoSaid : Prop := fnExactPathProbeUptoRow.holds Try.pinned (OpenSpec.upto fnExactPathProbeSpec)

/-- 'laws.FnExactPathTick', WHERE WHAT IT READS IS OF BULK AT MOST 1048576: true; the input reads as it did. -/
def fnExactPathTickUptoRow : OpenClaim := { program := "ytnnpabldpjohfaa", sum := "ff82e242c4555db05ce8a665a9ffa15aeae127daa955f765c3ff06717ab323bb", func := "loop.example/multipathtransport/laws.FnExactPathTick", spec := "fnExactPathTick", apart := false, narrowed := true }
def FnExactPathTickUptoSaid : Prop := fnExactPathTickUptoRow.holds Try.pinned (OpenSpec.upto fnExactPathTickSpec)

/-- 'laws.FnExactPathReceive', WHERE WHAT IT READS IS OF BULK AT MOST 1048576: true; the input reads as it did. -/
def fnExactPathReceiveUptoRow : OpenClaim := { program := "ytnnpabldpjohfaa", sum := "ff82e242c4555db05ce8a665a9ffa15aeae127daa955f765c3ff06717ab323bb", func := "loop.example/multipathtransport/laws.FnExactPathReceive", spec := "fnExactPathReceive", apart := false, narrowed := true }
def FnExactPathReceiveUptoSaid : Prop := fnExactPathReceiveUptoRow.holds Try.pinned (OpenSpec.upto fnExactPathReceiveSpec)

/-- 'laws.FnExactPathAnswer', WHERE WHAT IT READS IS OF BULK AT MOST 1048576: true; the input reads as it did. -/
def fnExactPathAnswerUptoRow : OpenClaim := { program := "ytnnpabldpjohfaa", sum := "ff82e242c4555db05ce8a665a9ffa15aeae127daa955f765c3ff06717ab323bb", func := "loop.example/multipathtransport/laws.FnExactPathAnswer", spec := "fnExactPathAnswer", apart := false, narrowed := true }
def FnExactPathAnswerUptoSaid : Prop := fnExactPathAnswerUptoRow.holds Try.pinned (OpenSpec.upto fnExactPathAnswerSpec)

/-- 'laws.FnExactPathSend', WHERE WHAT IT READS IS OF BULK AT MOST 1048576: true; the input reads as it did. -/
def fnExactPathSendUptoRow : OpenClaim := { program := "ytnnpabldpjohfaa", sum := "ff82e242c4555db05ce8a665a9ffa15aeae127daa955f765c3ff06717ab323bb", func := "loop.example/multipathtransport/laws.FnExactPathSend", spec := "fnExactPathSend", apart := false, narrowed := true }
def FnExactPathSendUptoSaid : Prop := fnExactPathSendUptoRow.holds Try.pinned (OpenSpec.upto fnExactPathSendSpec)

/-- 'laws.FnPathValid', WHERE WHAT IT READS IS OF BULK AT MOST 1048576: true; the input reads as it did. -/
def fnPathValidUptoRow : OpenClaim := { program := "ytnnpabldpjohfaa", sum := "ff82e242c4555db05ce8a665a9ffa15aeae127daa955f765c3ff06717ab323bb", func := "loop.example/multipathtransport/laws.FnPathValid", spec := "fnPathValid", apart := false, narrowed := true }
def FnPathValidUptoSaid : Prop := fnPathValidUptoRow.holds Try.pinned (OpenSpec.upto fnPathValidSpec)

/-- 'laws.FnPathAnswer', WHERE WHAT IT READS IS OF BULK AT MOST 1048576: true; the input reads as it did. -/
def fnPathAnswerUptoRow : OpenClaim := { program := "ytnnpabldpjohfaa", sum := "ff82e242c4555db05ce8a665a9ffa15aeae127daa955f765c3ff06717ab323bb", func := "loop.example/multipathtransport/laws.FnPathAnswer", spec := "fnPathAnswer", apart := false, narrowed := true }
def FnPathAnswerUptoSaid : Prop := fnPathAnswerUptoRow.holds Try.pinned (OpenSpec.upto fnPathAnswerSpec)

end Rows
end Go.Proofs.Ytnnpabldpjohfaa
