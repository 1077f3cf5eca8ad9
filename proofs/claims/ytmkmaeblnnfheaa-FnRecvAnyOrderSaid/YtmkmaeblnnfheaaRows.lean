/-
  No cell of these rows narrows 'for every input' (looked for: loops, veiled, ifaces, maps, wideKeys, modest, calm, conditions, laid).
  DERIVED. THE GIVEN ROWS OF THIS SEAT. 10 by the template 'for every input the law returns true; each argument reads behind the call as it read before'; 0 by the template 'total and deterministic' (their statements: YtmkmaeblnnfheaaTotals.lean).
  GIVEN WITH THE SEED: the statements are not yours to turn. If you find one false, say at which input.
  Laid BY PROGRAM, IN A SANDBOX (cutbox-rows.mjs): the forced cells as the released guide's own fill.sh prints them over the translation fe38edcf5780e282… (all of the seat's roots in one cut). By AI agents, Wed Nov 11 2026. No macro, syntax, notation, axiom, sorry.
-/
import Derived.Test.YtmkmaeblnnfheaaChecked
import GoSem.Claim
import GoSem.ClaimJoined
import GoSem.ClaimMapViews
import Derived.JoinedTies
import Derived.KernelRfl
namespace Go.Proofs.Ytmkmaeblnnfheaa
/- THE CELL 'sum', in the pinned program and in every row, IS THE sha256 OF THE DUMP (.gsa) THAT YtmkmaeblnnfheaaProg.lean LOADS. Nothing in Lean hashes anything: it is a label: what it is worth is what the hold of that sum in a sandbox is worth. -/
noncomputable def Try.pinned : Pinned := { name := "ytmkmaeblnnfheaa", sum := "fe38edcf5780e2828e413ecd9f45b109b741b78c06f3d2414dd282ba09d4fe2d", checked := Try.checked }
namespace Rows
def none {H : Type} : Left H := { results := [], args := [] }

/-- 'laws.FnSendAckSet': WHATEVER THE INPUT: true; the input reads as it did. -/
def fnSendAckSetSpec : ChangeSpec := { name := "fnSendAckSet", fn := fun _ => fun
  | [d] => { results := [.lit (.bool true)], args := [d] }
  | _ => none }
def fnSendAckSetRow : OpenClaim := { program := "ytmkmaeblnnfheaa", sum := "fe38edcf5780e2828e413ecd9f45b109b741b78c06f3d2414dd282ba09d4fe2d", func := "loop.example/multipathtransport/laws.FnSendAckSet", spec := "fnSendAckSet", unfollowed := true, recurses := true, apart := false }
def FnSendAckSetSaid : Prop := fnSendAckSetRow.holds Try.pinned (OpenSpec.ofChange fnSendAckSetSpec)

/-- ITS FALSE NEIGHBOUR: 'it returns false'. Refute it at one input. -/
def fnSendAckSetWrong : ChangeSpec := { name := "fnSendAckSet", fn := fun _ => fun
  | [d] => { results := [.lit (.bool false)], args := [d] }
  | _ => none }
def FnSendAckSetWrongFalsely : Prop := fnSendAckSetRow.holds Try.pinned (OpenSpec.ofChange fnSendAckSetWrong)

/-- 'laws.FnSendAckTwice': WHATEVER THE INPUT: true; the input reads as it did. -/
def fnSendAckTwiceSpec : ChangeSpec := { name := "fnSendAckTwice", fn := fun _ => fun
  | [d] => { results := [.lit (.bool true)], args := [d] }
  | _ => none }
def fnSendAckTwiceRow : OpenClaim := { program := "ytmkmaeblnnfheaa", sum := "fe38edcf5780e2828e413ecd9f45b109b741b78c06f3d2414dd282ba09d4fe2d", func := "loop.example/multipathtransport/laws.FnSendAckTwice", spec := "fnSendAckTwice", unfollowed := true, recurses := true, apart := false }
def FnSendAckTwiceSaid : Prop := fnSendAckTwiceRow.holds Try.pinned (OpenSpec.ofChange fnSendAckTwiceSpec)

/-- ITS FALSE NEIGHBOUR: 'it returns false'. Refute it at one input. -/
def fnSendAckTwiceWrong : ChangeSpec := { name := "fnSendAckTwice", fn := fun _ => fun
  | [d] => { results := [.lit (.bool false)], args := [d] }
  | _ => none }
def FnSendAckTwiceWrongFalsely : Prop := fnSendAckTwiceRow.holds Try.pinned (OpenSpec.ofChange fnSendAckTwiceWrong)

/-- 'laws.FnSendLossAgain': WHATEVER THE INPUT: true; the input reads as it did. -/
def fnSendLossAgainSpec : ChangeSpec := { name := "fnSendLossAgain", fn := fun _ => fun
  | [d] => { results := [.lit (.bool true)], args := [d] }
  | _ => none }
def fnSendLossAgainRow : OpenClaim := { program := "ytmkmaeblnnfheaa", sum := "fe38edcf5780e2828e413ecd9f45b109b741b78c06f3d2414dd282ba09d4fe2d", func := "loop.example/multipathtransport/laws.FnSendLossAgain", spec := "fnSendLossAgain", unfollowed := true, recurses := true, apart := false }
def FnSendLossAgainSaid : Prop := fnSendLossAgainRow.holds Try.pinned (OpenSpec.ofChange fnSendLossAgainSpec)

/-- ITS FALSE NEIGHBOUR: 'it returns false'. Refute it at one input. -/
def fnSendLossAgainWrong : ChangeSpec := { name := "fnSendLossAgain", fn := fun _ => fun
  | [d] => { results := [.lit (.bool false)], args := [d] }
  | _ => none }
def FnSendLossAgainWrongFalsely : Prop := fnSendLossAgainRow.holds Try.pinned (OpenSpec.ofChange fnSendLossAgainWrong)

/-- 'laws.FnSendWriteParts': WHATEVER THE INPUT: true; the input reads as it did. -/
def fnSendWritePartsSpec : ChangeSpec := { name := "fnSendWriteParts", fn := fun _ => fun
  | [d1, d2] => { results := [.lit (.bool true)], args := [d1, d2] }
  | _ => none }
def fnSendWritePartsRow : OpenClaim := { program := "ytmkmaeblnnfheaa", sum := "fe38edcf5780e2828e413ecd9f45b109b741b78c06f3d2414dd282ba09d4fe2d", func := "loop.example/multipathtransport/laws.FnSendWriteParts", spec := "fnSendWriteParts", unfollowed := true, recurses := true, apart := false }
def FnSendWritePartsSaid : Prop := fnSendWritePartsRow.holds Try.pinned (OpenSpec.ofChange fnSendWritePartsSpec)

/-- ITS FALSE NEIGHBOUR: 'it returns false'. Refute it at one input. -/
def fnSendWritePartsWrong : ChangeSpec := { name := "fnSendWriteParts", fn := fun _ => fun
  | [d1, d2] => { results := [.lit (.bool false)], args := [d1, d2] }
  | _ => none }
def FnSendWritePartsWrongFalsely : Prop := fnSendWritePartsRow.holds Try.pinned (OpenSpec.ofChange fnSendWritePartsWrong)

/-- 'laws.FnPartSent': WHATEVER THE INPUT: true; the input reads as it did. -/
def fnPartSentSpec : ChangeSpec := { name := "fnPartSent", fn := fun _ => fun
  | [d] => { results := [.lit (.bool true)], args := [d] }
  | _ => none }
def fnPartSentRow : OpenClaim := { program := "ytmkmaeblnnfheaa", sum := "fe38edcf5780e2828e413ecd9f45b109b741b78c06f3d2414dd282ba09d4fe2d", func := "loop.example/multipathtransport/laws.FnPartSent", spec := "fnPartSent", unfollowed := true, recurses := true, apart := false }
def FnPartSentSaid : Prop := fnPartSentRow.holds Try.pinned (OpenSpec.ofChange fnPartSentSpec)

/-- ITS FALSE NEIGHBOUR: 'it returns false'. Refute it at one input. -/
def fnPartSentWrong : ChangeSpec := { name := "fnPartSent", fn := fun _ => fun
  | [d] => { results := [.lit (.bool false)], args := [d] }
  | _ => none }
def FnPartSentWrongFalsely : Prop := fnPartSentRow.holds Try.pinned (OpenSpec.ofChange fnPartSentWrong)

/-- 'laws.FnSendWrite': WHATEVER THE INPUT: true; the input reads as it did. -/
def fnSendWriteSpec : ChangeSpec := { name := "fnSendWrite", fn := fun _ => fun
  | [d] => { results := [.lit (.bool true)], args := [d] }
  | _ => none }
def fnSendWriteRow : OpenClaim := { program := "ytmkmaeblnnfheaa", sum := "fe38edcf5780e2828e413ecd9f45b109b741b78c06f3d2414dd282ba09d4fe2d", func := "loop.example/multipathtransport/laws.FnSendWrite", spec := "fnSendWrite", unfollowed := true, recurses := true, apart := false }
def FnSendWriteSaid : Prop := fnSendWriteRow.holds Try.pinned (OpenSpec.ofChange fnSendWriteSpec)

/-- ITS FALSE NEIGHBOUR: 'it returns false'. Refute it at one input. -/
def fnSendWriteWrong : ChangeSpec := { name := "fnSendWrite", fn := fun _ => fun
  | [d] => { results := [.lit (.bool false)], args := [d] }
  | _ => none }
def FnSendWriteWrongFalsely : Prop := fnSendWriteRow.holds Try.pinned (OpenSpec.ofChange fnSendWriteWrong)

/-- 'laws.FnSendDone': WHATEVER THE INPUT: true; the input reads as it did. -/
def fnSendDoneSpec : ChangeSpec := { name := "fnSendDone", fn := fun _ => fun
  | [d] => { results := [.lit (.bool true)], args := [d] }
  | _ => none }
def fnSendDoneRow : OpenClaim := { program := "ytmkmaeblnnfheaa", sum := "fe38edcf5780e2828e413ecd9f45b109b741b78c06f3d2414dd282ba09d4fe2d", func := "loop.example/multipathtransport/laws.FnSendDone", spec := "fnSendDone", unfollowed := true, recurses := true, apart := false }
def FnSendDoneSaid : Prop := fnSendDoneRow.holds Try.pinned (OpenSpec.ofChange fnSendDoneSpec)

/-- ITS FALSE NEIGHBOUR: 'it returns false'. Refute it at one input. -/
def fnSendDoneWrong : ChangeSpec := { name := "fnSendDone", fn := fun _ => fun
  | [d] => { results := [.lit (.bool false)], args := [d] }
  | _ => none }
def FnSendDoneWrongFalsely : Prop := fnSendDoneRow.holds Try.pinned (OpenSpec.ofChange fnSendDoneWrong)

/-- 'laws.FnExactSendNext': WHATEVER THE INPUT: true; the input reads as it did. -/
def fnExactSendNextSpec : ChangeSpec := { name := "fnExactSendNext", fn := fun _ => fun
  | [d1, d2] => { results := [.lit (.bool true)], args := [d1, d2] }
  | _ => none }
def fnExactSendNextRow : OpenClaim := { program := "ytmkmaeblnnfheaa", sum := "fe38edcf5780e2828e413ecd9f45b109b741b78c06f3d2414dd282ba09d4fe2d", func := "loop.example/multipathtransport/laws.FnExactSendNext", spec := "fnExactSendNext", unfollowed := true, recurses := true, apart := false }
def FnExactSendNextSaid : Prop := fnExactSendNextRow.holds Try.pinned (OpenSpec.ofChange fnExactSendNextSpec)

/-- ITS FALSE NEIGHBOUR: 'it returns false'. Refute it at one input. -/
def fnExactSendNextWrong : ChangeSpec := { name := "fnExactSendNext", fn := fun _ => fun
  | [d1, d2] => { results := [.lit (.bool false)], args := [d1, d2] }
  | _ => none }
def FnExactSendNextWrongFalsely : Prop := fnExactSendNextRow.holds Try.pinned (OpenSpec.ofChange fnExactSendNextWrong)

/-- 'laws.FnRecvAnyOrder': WHATEVER THE INPUT: true; the input reads as it did. -/
def fnRecvAnyOrderSpec : ChangeSpec := { name := "fnRecvAnyOrder", fn := fun _ => fun
  | [d1, d2] => { results := [.lit (.bool true)], args := [d1, d2] }
  | _ => none }
def fnRecvAnyOrderRow : OpenClaim := { program := "ytmkmaeblnnfheaa", sum := "fe38edcf5780e2828e413ecd9f45b109b741b78c06f3d2414dd282ba09d4fe2d", func := "loop.example/multipathtransport/laws.FnRecvAnyOrder", spec := "fnRecvAnyOrder", apart := false }
def FnRecvAnyOrderSaid : Prop := fnRecvAnyOrderRow.holds Try.pinned (OpenSpec.ofChange fnRecvAnyOrderSpec)

/-- ITS FALSE NEIGHBOUR: 'it returns false'. Refute it at one input. -/
def fnRecvAnyOrderWrong : ChangeSpec := { name := "fnRecvAnyOrder", fn := fun _ => fun
  | [d1, d2] => { results := [.lit (.bool false)], args := [d1, d2] }
  | _ => none }
def FnRecvAnyOrderWrongFalsely : Prop := fnRecvAnyOrderRow.holds Try.pinned (OpenSpec.ofChange fnRecvAnyOrderWrong)

/-- 'laws.FnSendNextLimit': WHATEVER THE INPUT: true; the input reads as it did. -/
def fnSendNextLimitSpec : ChangeSpec := { name := "fnSendNextLimit", fn := fun _ => fun
  | [d] => { results := [.lit (.bool true)], args := [d] }
  | _ => none }
def fnSendNextLimitRow : OpenClaim := { program := "ytmkmaeblnnfheaa", sum := "fe38edcf5780e2828e413ecd9f45b109b741b78c06f3d2414dd282ba09d4fe2d", func := "loop.example/multipathtransport/laws.FnSendNextLimit", spec := "fnSendNextLimit", unfollowed := true, recurses := true, apart := false }
def FnSendNextLimitSaid : Prop := fnSendNextLimitRow.holds Try.pinned (OpenSpec.ofChange fnSendNextLimitSpec)

/-- ITS FALSE NEIGHBOUR: 'it returns false'. Refute it at one input. -/
def fnSendNextLimitWrong : ChangeSpec := { name := "fnSendNextLimit", fn := fun _ => fun
  | [d] => { results := [.lit (.bool false)], args := [d] }
  | _ => none }
def FnSendNextLimitWrongFalsely : Prop := fnSendNextLimitRow.holds Try.pinned (OpenSpec.ofChange fnSendNextLimitWrong)

/- THE SECOND FORM. 'bulk': how many values and letters a reading holds, each counted each time it is reached (what is shared counts as often as it is met; a slice's spare places count too). A statement '..UptoSaid' is the law's where the arguments, and the package variables that the reading takes, are together of bulk at most 1048576: NARROWER than '..Said'. Prove '..Said' where nothing that the law and all that it calls make is longer than what came in: it says more and counts as full. Else prove '..UptoSaid'. A law counts once. -/
mutual
def uptoBulk {H : Type} : DataW H → Nat
  | .lit (.string bytes) => bytes.length + 1
  | .lit _ => 1
  | .nil => 1
  | .ptr d => uptoBulk d + 1
  | .slice elems spare => uptoBulkAll elems + uptoBulkAll spare + 1
  | .agg parts => uptoBulkAll parts + 1
  | .iface _ d => uptoBulk d + 1
  | .map entries => uptoBulkEntries entries + 1
  | .held _ => 1
def uptoBulkAll {H : Type} : List (DataW H) → Nat
  | [] => 0
  | d :: r => uptoBulk d + uptoBulkAll r
def uptoBulkEntries {H : Type} : List (Lit × DataW H) → Nat
  | [] => 0
  | x :: r => uptoBulkEntry x + uptoBulkEntries r
def uptoBulkEntry {H : Type} : Lit × DataW H → Nat
  | (.string bytes, d) => bytes.length + uptoBulk d + 1
  | (_, d) => uptoBulk d + 1
 end
def uptoSmall : (H : Type) → List (DataW H) → Bool := fun _ ds => decide (uptoBulkAll ds ≤ 1048576)
def OpenSpec.upto (s : _root_.Go.ChangeSpec) : _root_.Go.OpenSpec := { _root_.Go.OpenSpec.ofChange s with cond := some uptoSmall }

/-- 'laws.FnSendAckSet', WHERE WHAT IT READS IS OF BULK AT MOST 1048576: true; the input reads as it did. -/
def fnSendAckSetUptoRow : OpenClaim := { program := "ytmkmaeblnnfheaa", sum := "fe38edcf5780e2828e413ecd9f45b109b741b78c06f3d2414dd282ba09d4fe2d", func := "loop.example/multipathtransport/laws.FnSendAckSet", spec := "fnSendAckSet", unfollowed := true, recurses := true, apart := false, narrowed := true }
def FnSendAckSetUptoSaid : Prop := fnSendAckSetUptoRow.holds Try.pinned (OpenSpec.upto fnSendAckSetSpec)

/-- 'laws.FnSendAckTwice', WHERE WHAT IT READS IS OF BULK AT MOST 1048576: true; the input reads as it did. -/
def fnSendAckTwiceUptoRow : OpenClaim := { program := "ytmkmaeblnnfheaa", sum := "fe38edcf5780e2828e413ecd9f45b109b741b78c06f3d2414dd282ba09d4fe2d", func := "loop.example/multipathtransport/laws.FnSendAckTwice", spec := "fnSendAckTwice", unfollowed := true, recurses := true, apart := false, narrowed := true }
def FnSendAckTwiceUptoSaid : Prop := fnSendAckTwiceUptoRow.holds Try.pinned (OpenSpec.upto fnSendAckTwiceSpec)

/-- 'laws.FnSendLossAgain', WHERE WHAT IT READS IS OF BULK AT MOST 1048576: true; the input reads as it did. -/
def fnSendLossAgainUptoRow : OpenClaim := { program := "ytmkmaeblnnfheaa", sum := "fe38edcf5780e2828e413ecd9f45b109b741b78c06f3d2414dd282ba09d4fe2d", func := "loop.example/multipathtransport/laws.FnSendLossAgain", spec := "fnSendLossAgain", unfollowed := true, recurses := true, apart := false, narrowed := true }
def FnSendLossAgainUptoSaid : Prop := fnSendLossAgainUptoRow.holds Try.pinned (OpenSpec.upto fnSendLossAgainSpec)

/-- 'laws.FnSendWriteParts', WHERE WHAT IT READS IS OF BULK AT MOST 1048576: true; the input reads as it did. -/
def fnSendWritePartsUptoRow : OpenClaim := { program := "ytmkmaeblnnfheaa", sum := "fe38edcf5780e2828e413ecd9f45b109b741b78c06f3d2414dd282ba09d4fe2d", func := "loop.example/multipathtransport/laws.FnSendWriteParts", spec := "fnSendWriteParts", unfollowed := true, recurses := true, apart := false, narrowed := true }
def FnSendWritePartsUptoSaid : Prop := fnSendWritePartsUptoRow.holds Try.pinned (OpenSpec.upto fnSendWritePartsSpec)

/-- 'laws.FnPartSent', WHERE WHAT IT READS IS OF BULK AT MOST 1048576: true; the input reads as it did. -/
def fnPartSentUptoRow : OpenClaim := { program := "ytmkmaeblnnfheaa", sum := "fe38edcf5780e2828e413ecd9f45b109b741b78c06f3d2414dd282ba09d4fe2d", func := "loop.example/multipathtransport/laws.FnPartSent", spec := "fnPartSent", unfollowed := true, recurses := true, apart := false, narrowed := true }
def FnPartSentUptoSaid : Prop := fnPartSentUptoRow.holds Try.pinned (OpenSpec.upto fnPartSentSpec)

/-- 'laws.FnSendWrite', WHERE WHAT IT READS IS OF BULK AT MOST 1048576: true; the input reads as it did. -/
def fnSendWriteUptoRow : OpenClaim := { program := "ytmkmaeblnnfheaa", sum := "fe38edcf5780e2828e413ecd9f45b109b741b78c06f3d2414dd282ba09d4fe2d", func := "loop.example/multipathtransport/laws.FnSendWrite", spec := "fnSendWrite", unfollowed := true, recurses := true, apart := false, narrowed := true }
def FnSendWriteUptoSaid : Prop := fnSendWriteUptoRow.holds Try.pinned (OpenSpec.upto fnSendWriteSpec)

/-- 'laws.FnSendDone', WHERE WHAT IT READS IS OF BULK AT MOST 1048576: true; the input reads as it did. -/
def fnSendDoneUptoRow : OpenClaim := { program := "ytmkmaeblnnfheaa", sum := "fe38edcf5780e2828e413ecd9f45b109b741b78c06f3d2414dd282ba09d4fe2d", func := "loop.example/multipathtransport/laws.FnSendDone", spec := "fnSendDone", unfollowed := true, recurses := true, apart := false, narrowed := true }
def FnSendDoneUptoSaid : Prop := fnSendDoneUptoRow.holds Try.pinned (OpenSpec.upto fnSendDoneSpec)

/-- 'laws.FnExactSendNext', WHERE WHAT IT READS IS OF BULK AT MOST 1048576: true; the input reads as it did. -/
def fnExactSendNextUptoRow : OpenClaim := { program := "ytmkmaeblnnfheaa", sum := "fe38edcf5780e2828e413ecd9f45b109b741b78c06f3d2414dd282ba09d4fe2d", func := "loop.example/multipathtransport/laws.FnExactSendNext", spec := "fnExactSendNext", unfollowed := true, recurses := true, apart := false, narrowed := true }
def FnExactSendNextUptoSaid : Prop := fnExactSendNextUptoRow.holds Try.pinned (OpenSpec.upto fnExactSendNextSpec)

/-- 'laws.FnRecvAnyOrder', WHERE WHAT IT READS IS OF BULK AT MOST 1048576: true; the input reads as it did. -/
def fnRecvAnyOrderUptoRow : OpenClaim := { program := "ytmkmaeblnnfheaa", sum := "fe38edcf5780e2828e413ecd9f45b109b741b78c06f3d2414dd282ba09d4fe2d", func := "loop.example/multipathtransport/laws.FnRecvAnyOrder", spec := "fnRecvAnyOrder", apart := false, narrowed := true }
def FnRecvAnyOrderUptoSaid : Prop := fnRecvAnyOrderUptoRow.holds Try.pinned (OpenSpec.upto fnRecvAnyOrderSpec)

/-- 'laws.FnSendNextLimit', WHERE WHAT IT READS IS OF BULK AT MOST 1048576: true; the input reads as it did. -/
def fnSendNextLimitUptoRow : OpenClaim := { program := "ytmkmaeblnnfheaa", sum := "fe38edcf5780e2828e413ecd9f45b109b741b78c06f3d2414dd282ba09d4fe2d", func := "loop.example/multipathtransport/laws.FnSendNextLimit", spec := "fnSendNextLimit", unfollowed := true, recurses := true, apart := false, narrowed := true }
def FnSendNextLimitUptoSaid : Prop := fnSendNextLimitUptoRow.holds Try.pinned (OpenSpec.upto fnSendNextLimitSpec)

end Rows
end Go.Proofs.Ytmkmaeblnnfheaa
