/-
  No cell of these rows narrows 'for every input' (looked for: loops, veiled, ifaces, maps, wideKeys, modest, calm, conditions, laid).
  DERIVED. THE GIVEN ROWS OF THIS SEAT. 8 by the template 'for every input the law returns true; each argument reads behind the call as it read before'; 0 by the template 'total and deterministic' (their statements: YtobeeakjfkokfabTotals.lean).
  GIVEN WITH THE SEED: the statements are not yours to turn. If you find one false, say at which input.
  Laid BY PROGRAM, IN A SANDBOX (cutbox-rows.mjs): the forced cells as the released guide's own fill.sh prints them over the translation 23a180f47c86a03f… (all of the seat's roots in one cut). By AI agents, Wed Nov 11 2026. No macro, syntax, notation, axiom, sorry.
-/
import Derived.Test.YtobeeakjfkokfabChecked
import GoSem.Claim
import GoSem.ClaimJoined
import GoSem.ClaimMapViews
import Derived.JoinedTies
import Derived.KernelRfl
namespace Go.Proofs.Ytobeeakjfkokfab
/- THE CELL 'sum', in the pinned program and in every row, IS THE sha256 OF THE DUMP (.gsa) THAT YtobeeakjfkokfabProg.lean LOADS. Nothing in Lean hashes anything: it is a label: what it is worth is what the hold of that sum in a sandbox is worth. -/
noncomputable def Try.pinned : Pinned := { name := "ytobeeakjfkokfab", sum := "23a180f47c86a03f61b77eb04a4e928cba62af07a6213b32c7c93e294cb12e70", checked := Try.checked }
namespace Rows
def none {H : Type} : Left H := { results := [], args := [] }

/-- 'laws.FnIdsIssue': WHATEVER THE INPUT: true; the input reads as it did. -/
def fnIdsIssueSpec : ChangeSpec := { name := "fnIdsIssue", fn := fun _ => fun
  | [d] => { results := [.lit (.bool true)], args := [d] }
  | _ => none }
def fnIdsIssueRow : OpenClaim := { program := "ytobeeakjfkokfab", sum := "23a180f47c86a03f61b77eb04a4e928cba62af07a6213b32c7c93e294cb12e70", func := "loop.example/multipathtransport/laws.FnIdsIssue", spec := "fnIdsIssue", unfollowed := true, recurses := true, apart := false }
def FnIdsIssueSaid : Prop := fnIdsIssueRow.holds Try.pinned (OpenSpec.ofChange fnIdsIssueSpec)

/-- ITS FALSE NEIGHBOUR: 'it returns false'. Refute it at one input. -/
def fnIdsIssueWrong : ChangeSpec := { name := "fnIdsIssue", fn := fun _ => fun
  | [d] => { results := [.lit (.bool false)], args := [d] }
  | _ => none }
def FnIdsIssueWrongFalsely : Prop := fnIdsIssueRow.holds Try.pinned (OpenSpec.ofChange fnIdsIssueWrong)

/-- 'laws.FnIdsIssueFail': WHATEVER THE INPUT: true; the input reads as it did. -/
def fnIdsIssueFailSpec : ChangeSpec := { name := "fnIdsIssueFail", fn := fun _ => fun
  | [d] => { results := [.lit (.bool true)], args := [d] }
  | _ => none }
def fnIdsIssueFailRow : OpenClaim := { program := "ytobeeakjfkokfab", sum := "23a180f47c86a03f61b77eb04a4e928cba62af07a6213b32c7c93e294cb12e70", func := "loop.example/multipathtransport/laws.FnIdsIssueFail", spec := "fnIdsIssueFail", unfollowed := true, recurses := true, apart := false }
def FnIdsIssueFailSaid : Prop := fnIdsIssueFailRow.holds Try.pinned (OpenSpec.ofChange fnIdsIssueFailSpec)

/-- ITS FALSE NEIGHBOUR: 'it returns false'. Refute it at one input. -/
def fnIdsIssueFailWrong : ChangeSpec := { name := "fnIdsIssueFail", fn := fun _ => fun
  | [d] => { results := [.lit (.bool false)], args := [d] }
  | _ => none }
def FnIdsIssueFailWrongFalsely : Prop := fnIdsIssueFailRow.holds Try.pinned (OpenSpec.ofChange fnIdsIssueFailWrong)

/-- 'laws.FnIdsRetire': WHATEVER THE INPUT: true; the input reads as it did. -/
def fnIdsRetireSpec : ChangeSpec := { name := "fnIdsRetire", fn := fun _ => fun
  | [d] => { results := [.lit (.bool true)], args := [d] }
  | _ => none }
def fnIdsRetireRow : OpenClaim := { program := "ytobeeakjfkokfab", sum := "23a180f47c86a03f61b77eb04a4e928cba62af07a6213b32c7c93e294cb12e70", func := "loop.example/multipathtransport/laws.FnIdsRetire", spec := "fnIdsRetire", unfollowed := true, recurses := true, apart := false }
def FnIdsRetireSaid : Prop := fnIdsRetireRow.holds Try.pinned (OpenSpec.ofChange fnIdsRetireSpec)

/-- ITS FALSE NEIGHBOUR: 'it returns false'. Refute it at one input. -/
def fnIdsRetireWrong : ChangeSpec := { name := "fnIdsRetire", fn := fun _ => fun
  | [d] => { results := [.lit (.bool false)], args := [d] }
  | _ => none }
def FnIdsRetireWrongFalsely : Prop := fnIdsRetireRow.holds Try.pinned (OpenSpec.ofChange fnIdsRetireWrong)

/-- 'laws.FnIdsAssign': WHATEVER THE INPUT: true; the input reads as it did. -/
def fnIdsAssignSpec : ChangeSpec := { name := "fnIdsAssign", fn := fun _ => fun
  | [d] => { results := [.lit (.bool true)], args := [d] }
  | _ => none }
def fnIdsAssignRow : OpenClaim := { program := "ytobeeakjfkokfab", sum := "23a180f47c86a03f61b77eb04a4e928cba62af07a6213b32c7c93e294cb12e70", func := "loop.example/multipathtransport/laws.FnIdsAssign", spec := "fnIdsAssign", unfollowed := true, recurses := true, apart := false }
def FnIdsAssignSaid : Prop := fnIdsAssignRow.holds Try.pinned (OpenSpec.ofChange fnIdsAssignSpec)

/-- ITS FALSE NEIGHBOUR: 'it returns false'. Refute it at one input. -/
def fnIdsAssignWrong : ChangeSpec := { name := "fnIdsAssign", fn := fun _ => fun
  | [d] => { results := [.lit (.bool false)], args := [d] }
  | _ => none }
def FnIdsAssignWrongFalsely : Prop := fnIdsAssignRow.holds Try.pinned (OpenSpec.ofChange fnIdsAssignWrong)

/-- 'laws.FnIdsMigrate': WHATEVER THE INPUT: true; the input reads as it did. -/
def fnIdsMigrateSpec : ChangeSpec := { name := "fnIdsMigrate", fn := fun _ => fun
  | [d] => { results := [.lit (.bool true)], args := [d] }
  | _ => none }
def fnIdsMigrateRow : OpenClaim := { program := "ytobeeakjfkokfab", sum := "23a180f47c86a03f61b77eb04a4e928cba62af07a6213b32c7c93e294cb12e70", func := "loop.example/multipathtransport/laws.FnIdsMigrate", spec := "fnIdsMigrate", unfollowed := true, recurses := true, apart := false }
def FnIdsMigrateSaid : Prop := fnIdsMigrateRow.holds Try.pinned (OpenSpec.ofChange fnIdsMigrateSpec)

/-- ITS FALSE NEIGHBOUR: 'it returns false'. Refute it at one input. -/
def fnIdsMigrateWrong : ChangeSpec := { name := "fnIdsMigrate", fn := fun _ => fun
  | [d] => { results := [.lit (.bool false)], args := [d] }
  | _ => none }
def FnIdsMigrateWrongFalsely : Prop := fnIdsMigrateRow.holds Try.pinned (OpenSpec.ofChange fnIdsMigrateWrong)

/-- 'laws.FnIdsFail': WHATEVER THE INPUT: true; the input reads as it did. -/
def fnIdsFailSpec : ChangeSpec := { name := "fnIdsFail", fn := fun _ => fun
  | [d] => { results := [.lit (.bool true)], args := [d] }
  | _ => none }
def fnIdsFailRow : OpenClaim := { program := "ytobeeakjfkokfab", sum := "23a180f47c86a03f61b77eb04a4e928cba62af07a6213b32c7c93e294cb12e70", func := "loop.example/multipathtransport/laws.FnIdsFail", spec := "fnIdsFail", unfollowed := true, recurses := true, apart := false }
def FnIdsFailSaid : Prop := fnIdsFailRow.holds Try.pinned (OpenSpec.ofChange fnIdsFailSpec)

/-- ITS FALSE NEIGHBOUR: 'it returns false'. Refute it at one input. -/
def fnIdsFailWrong : ChangeSpec := { name := "fnIdsFail", fn := fun _ => fun
  | [d] => { results := [.lit (.bool false)], args := [d] }
  | _ => none }
def FnIdsFailWrongFalsely : Prop := fnIdsFailRow.holds Try.pinned (OpenSpec.ofChange fnIdsFailWrong)

/-- 'laws.FnIdsReplace': WHATEVER THE INPUT: true; the input reads as it did. -/
def fnIdsReplaceSpec : ChangeSpec := { name := "fnIdsReplace", fn := fun _ => fun
  | [d] => { results := [.lit (.bool true)], args := [d] }
  | _ => none }
def fnIdsReplaceRow : OpenClaim := { program := "ytobeeakjfkokfab", sum := "23a180f47c86a03f61b77eb04a4e928cba62af07a6213b32c7c93e294cb12e70", func := "loop.example/multipathtransport/laws.FnIdsReplace", spec := "fnIdsReplace", unfollowed := true, recurses := true, apart := false }
def FnIdsReplaceSaid : Prop := fnIdsReplaceRow.holds Try.pinned (OpenSpec.ofChange fnIdsReplaceSpec)

/-- ITS FALSE NEIGHBOUR: 'it returns false'. Refute it at one input. -/
def fnIdsReplaceWrong : ChangeSpec := { name := "fnIdsReplace", fn := fun _ => fun
  | [d] => { results := [.lit (.bool false)], args := [d] }
  | _ => none }
def FnIdsReplaceWrongFalsely : Prop := fnIdsReplaceRow.holds Try.pinned (OpenSpec.ofChange fnIdsReplaceWrong)

/-- 'laws.FnIdsUnlinkable': WHATEVER THE INPUT: true; the input reads as it did. -/
def fnIdsUnlinkableSpec : ChangeSpec := { name := "fnIdsUnlinkable", fn := fun _ => fun
  | [d1, d2] => { results := [.lit (.bool true)], args := [d1, d2] }
  | _ => none }
def fnIdsUnlinkableRow : OpenClaim := { program := "ytobeeakjfkokfab", sum := "23a180f47c86a03f61b77eb04a4e928cba62af07a6213b32c7c93e294cb12e70", func := "loop.example/multipathtransport/laws.FnIdsUnlinkable", spec := "fnIdsUnlinkable", unfollowed := true, recurses := true, apart := false }
def FnIdsUnlinkableSaid : Prop := fnIdsUnlinkableRow.holds Try.pinned (OpenSpec.ofChange fnIdsUnlinkableSpec)

/-- ITS FALSE NEIGHBOUR: 'it returns false'. Refute it at one input. -/
def fnIdsUnlinkableWrong : ChangeSpec := { name := "fnIdsUnlinkable", fn := fun _ => fun
  | [d1, d2] => { results := [.lit (.bool false)], args := [d1, d2] }
  | _ => none }
def FnIdsUnlinkableWrongFalsely : Prop := fnIdsUnlinkableRow.holds Try.pinned (OpenSpec.ofChange fnIdsUnlinkableWrong)

/- THE SECOND FORM. 'bulk': how many values and letters a reading holds, each counted each time it is reached (what is shared counts as often as it is met; a slice's spare places count too). A statement '..UptoSaid' is the law's where the arguments, and the package variables that the reading takes, are together of bulk at most 1048576: NARROWER than '..Said'. Prove '..Said' where nothing that the law and all that it calls make is longer than what came in: it says more and counts as full. Else prove '..UptoSaid'. A law counts once. -/
mutual
def uptoBulk {H : Type} : DataW H → Nat
  | .lit (.string bytes) => bytes.length + 1
  | .lit _ => 1
  | .nil => 1
  | .ptr d => uptoBulk d + 1
  | .slice elems spare => uptoBulkAll elems + uptoBulkAll spare + 1
  | .agg parts => uptoBulkAll parts + 1
  | .iface _ d => uptoBulk d + 1
  | .map entries => uptoBulkEntries entries + 1
  | .held _ => 1
def uptoBulkAll {H : Type} : List (DataW H) → Nat
  | [] => 0
  | d :: r => uptoBulk d + uptoBulkAll r
def uptoBulkEntries {H : Type} : List (Lit × DataW H) → Nat
  | [] => 0
  | x :: r => uptoBulkEntry x + uptoBulkEntries r
def uptoBulkEntry {H : Type} : Lit × DataW H → Nat
  | (.string bytes, d) => bytes.length + uptoBulk d + 1
  | (_, d) => uptoBulk d + 1
 end
def uptoSmall : (H : Type) → List (DataW H) → Bool := fun _ ds => decide (uptoBulkAll ds ≤ 1048576)
def OpenSpec.upto (s : _root_.Go.ChangeSpec) : _root_.Go.OpenSpec := { _root_.Go.OpenSpec.ofChange s with cond := some uptoSmall }

/-- 'laws.FnIdsIssue', WHERE WHAT IT READS IS OF BULK AT MOST 1048576: true; the input reads as it did. -/
def fnIdsIssueUptoRow : OpenClaim := { program := "ytobeeakjfkokfab", sum := "23a180f47c86a03f61b77eb04a4e928cba62af07a6213b32c7c93e294cb12e70", func := "loop.example/multipathtransport/laws.FnIdsIssue", spec := "fnIdsIssue", unfollowed := true, recurses := true, apart := false, narrowed := true }
def FnIdsIssueUptoSaid : Prop := fnIdsIssueUptoRow.holds Try.pinned (OpenSpec.upto fnIdsIssueSpec)

/-- 'laws.FnIdsIssueFail', WHERE WHAT IT READS IS OF BULK AT MOST 1048576: true; the input reads as it did. -/
def fnIdsIssueFailUptoRow : OpenClaim := { program := "ytobeeakjfkokfab", sum := "23a180f47c86a03f61b77eb04a4e928cba62af07a6213b32c7c93e294cb12e70", func := "loop.example/multipathtransport/laws.FnIdsIssueFail", spec := "fnIdsIssueFail", unfollowed := true, recurses := true, apart := false, narrowed := true }
def FnIdsIssueFailUptoSaid : Prop := fnIdsIssueFailUptoRow.holds Try.pinned (OpenSpec.upto fnIdsIssueFailSpec)

/-- 'laws.FnIdsRetire', WHERE WHAT IT READS IS OF BULK AT MOST 1048576: true; the input reads as it did. -/
def fnIdsRetireUptoRow : OpenClaim := { program := "ytobeeakjfkokfab", sum := "23a180f47c86a03f61b77eb04a4e928cba62af07a6213b32c7c93e294cb12e70", func := "loop.example/multipathtransport/laws.FnIdsRetire", spec := "fnIdsRetire", unfollowed := true, recurses := true, apart := false, narrowed := true }
def FnIdsRetireUptoSaid : Prop := fnIdsRetireUptoRow.holds Try.pinned (OpenSpec.upto fnIdsRetireSpec)

/-- 'laws.FnIdsAssign', WHERE WHAT IT READS IS OF BULK AT MOST 1048576: true; the input reads as it did. -/
def fnIdsAssignUptoRow : OpenClaim := { program := "ytobeeakjfkokfab", sum := "23a180f47c86a03f61b77eb04a4e928cba62af07a6213b32c7c93e294cb12e70", func := "loop.example/multipathtransport/laws.FnIdsAssign", spec := "fnIdsAssign", unfollowed := true, recurses := true, apart := false, narrowed := true }
def FnIdsAssignUptoSaid : Prop := fnIdsAssignUptoRow.holds Try.pinned (OpenSpec.upto fnIdsAssignSpec)

/-- 'laws.FnIdsMigrate', WHERE WHAT IT READS IS OF BULK AT MOST 1048576: true; the input reads as it did. -/
def fnIdsMigrateUptoRow : OpenClaim := { program := "ytobeeakjfkokfab", sum := "23a180f47c86a03f61b77eb04a4e928cba62af07a6213b32c7c93e294cb12e70", func := "loop.example/multipathtransport/laws.FnIdsMigrate", spec := "fnIdsMigrate", unfollowed := true, recurses := true, apart := false, narrowed := true }
def FnIdsMigrateUptoSaid : Prop := fnIdsMigrateUptoRow.holds Try.pinned (OpenSpec.upto fnIdsMigrateSpec)

/-- 'laws.FnIdsFail', WHERE WHAT IT READS IS OF BULK AT MOST 1048576: true; the input reads as it did. -/
def fnIdsFailUptoRow : OpenClaim := { program := "ytobeeakjfkokfab", sum := "23a180f47c86a03f61b77eb04a4e928cba62af07a6213b32c7c93e294cb12e70", func := "loop.example/multipathtransport/laws.FnIdsFail", spec := "fnIdsFail", unfollowed := true, recurses := true, apart := false, narrowed := true }
def FnIdsFailUptoSaid : Prop := fnIdsFailUptoRow.holds Try.pinned (OpenSpec.upto fnIdsFailSpec)

/-- 'laws.FnIdsReplace', WHERE WHAT IT READS IS OF BULK AT MOST 1048576: true; the input reads as it did. -/
def fnIdsReplaceUptoRow : OpenClaim := { program := "ytobeeakjfkokfab", sum := "23a180f47c86a03f61b77eb04a4e928cba62af07a6213b32c7c93e294cb12e70", func := "loop.example/multipathtransport/laws.FnIdsReplace", spec := "fnIdsReplace", unfollowed := true, recurses := true, apart := false, narrowed := true }
def FnIdsReplaceUptoSaid : Prop := fnIdsReplaceUptoRow.holds Try.pinned (OpenSpec.upto fnIdsReplaceSpec)

/-- 'laws.FnIdsUnlinkable', WHERE WHAT IT READS IS OF BULK AT MOST 1048576: true; the input reads as it did. -/
def fnIdsUnlinkableUptoRow : OpenClaim := { program := "ytobeeakjfkokfab", sum := "23a180f47c86a03f61b77eb04a4e928cba62af07a6213b32c7c93e294cb12e70", func := "loop.example/multipathtransport/laws.FnIdsUnlinkable", spec := "fnIdsUnlinkable", unfollowed := true, recurses := true, apart := false, narrowed := true }
def FnIdsUnlinkableUptoSaid : Prop := fnIdsUnlinkableUptoRow.holds Try.pinned (OpenSpec.upto fnIdsUnlinkableSpec)

end Rows
end Go.Proofs.Ytobeeakjfkokfab
