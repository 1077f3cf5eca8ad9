/-
  No cell of these rows narrows 'for every input' (looked for: loops, veiled, ifaces, maps, wideKeys, modest, calm, conditions, laid).
  DERIVED. THE GIVEN ROWS OF THIS SEAT. 8 by the template 'for every input the law returns true; each argument reads behind the call as it read before'; 0 by the template 'total and deterministic' (their statements: YtobeeakjfkokfaaTotals.lean).
  GIVEN WITH THE SEED: the statements are not yours to turn. If you find one false, say at which input.
  Laid BY PROGRAM, IN A SANDBOX (cutbox-rows.mjs): the forced cells as the released guide's own fill.sh prints them over the translation df41fdfa75c470f7… (all of the seat's roots in one cut). By AI agents, Wed Nov 11 2026. No macro, syntax, notation, axiom, sorry.
-/
import Derived.Test.YtobeeakjfkokfaaChecked
import GoSem.Claim
import GoSem.ClaimJoined
import GoSem.ClaimMapViews
import Derived.JoinedTies
import Derived.KernelRfl
namespace Go.Proofs.Ytobeeakjfkokfaa
/- THE CELL 'sum', in the pinned program and in every row, IS THE sha256 OF THE DUMP (.gsa) THAT YtobeeakjfkokfaaProg.lean LOADS. Nothing in Lean hashes anything: it is a label: what it is worth is what the hold of that sum in a sandbox is worth. -/
noncomputable def Try.pinned : Pinned := { name := "ytobeeakjfkokfaa", sum := "df41fdfa75c470f7427fa3f04a81504d6b47e0568c09ce63e31b0b5ec3592fbd", checked := Try.checked }
namespace Rows
def none {H : Type} : Left H := { results := [], args := [] }

/-- 'laws.FnExactIdsValid': WHATEVER THE INPUT: true; the input reads as it did. -/
def fnExactIdsValidSpec : ChangeSpec := { name := "fnExactIdsValid", fn := fun _ => fun
  | [d] => { results := [.lit (.bool true)], args := [d] }
  | _ => none }
def fnExactIdsValidRow : OpenClaim := { program := "ytobeeakjfkokfaa", sum := "df41fdfa75c470f7427fa3f04a81504d6b47e0568c09ce63e31b0b5ec3592fbd", func := "loop.example/multipathtransport/laws.FnExactIdsValid", spec := "fnExactIdsValid", apart := false }
def FnExactIdsValidSaid : Prop := fnExactIdsValidRow.holds Try.pinned (OpenSpec.ofChange fnExactIdsValidSpec)

/-- ITS FALSE NEIGHBOUR: 'it returns false'. Refute it at one input. -/
def fnExactIdsValidWrong : ChangeSpec := { name := "fnExactIdsValid", fn := fun _ => fun
  | [d] => { results := [.lit (.bool false)], args := [d] }
  | _ => none }
def FnExactIdsValidWrongFalsely : Prop := fnExactIdsValidRow.holds Try.pinned (OpenSpec.ofChange fnExactIdsValidWrong)

/-- 'laws.FnExactIdsOn': WHATEVER THE INPUT: true; the input reads as it did. -/
def fnExactIdsOnSpec : ChangeSpec := { name := "fnExactIdsOn", fn := fun _ => fun
  | [d1, d2] => { results := [.lit (.bool true)], args := [d1, d2] }
  | _ => none }
def fnExactIdsOnRow : OpenClaim := { program := "ytobeeakjfkokfaa", sum := "df41fdfa75c470f7427fa3f04a81504d6b47e0568c09ce63e31b0b5ec3592fbd", func := "loop.example/multipathtransport/laws.FnExactIdsOn", spec := "fnExactIdsOn", unfollowed := true, recurses := true, apart := false }
def FnExactIdsOnSaid : Prop := fnExactIdsOnRow.holds Try.pinned (OpenSpec.ofChange fnExactIdsOnSpec)

/-- ITS FALSE NEIGHBOUR: 'it returns false'. Refute it at one input. -/
def fnExactIdsOnWrong : ChangeSpec := { name := "fnExactIdsOn", fn := fun _ => fun
  | [d1, d2] => { results := [.lit (.bool false)], args := [d1, d2] }
  | _ => none }
def FnExactIdsOnWrongFalsely : Prop := fnExactIdsOnRow.holds Try.pinned (OpenSpec.ofChange fnExactIdsOnWrong)

/-- 'laws.FnExactIdsRetire': WHATEVER THE INPUT: true; the input reads as it did. -/
def fnExactIdsRetireSpec : ChangeSpec := { name := "fnExactIdsRetire", fn := fun _ => fun
  | [d1, d2] => { results := [.lit (.bool true)], args := [d1, d2] }
  | _ => none }
def fnExactIdsRetireRow : OpenClaim := { program := "ytobeeakjfkokfaa", sum := "df41fdfa75c470f7427fa3f04a81504d6b47e0568c09ce63e31b0b5ec3592fbd", func := "loop.example/multipathtransport/laws.FnExactIdsRetire", spec := "fnExactIdsRetire", apart := false }
def FnExactIdsRetireSaid : Prop := fnExactIdsRetireRow.holds Try.pinned (OpenSpec.ofChange fnExactIdsRetireSpec)

/-- ITS FALSE NEIGHBOUR: 'it returns false'. Refute it at one input. -/
def fnExactIdsRetireWrong : ChangeSpec := { name := "fnExactIdsRetire", fn := fun _ => fun
  | [d1, d2] => { results := [.lit (.bool false)], args := [d1, d2] }
  | _ => none }
def FnExactIdsRetireWrongFalsely : Prop := fnExactIdsRetireRow.holds Try.pinned (OpenSpec.ofChange fnExactIdsRetireWrong)

/-- 'laws.FnExactIdsAssign': WHATEVER THE INPUT: true; the input reads as it did. -/
def fnExactIdsAssignSpec : ChangeSpec := { name := "fnExactIdsAssign", fn := fun _ => fun
  | [d1, d2] => { results := [.lit (.bool true)], args := [d1, d2] }
  | _ => none }
def fnExactIdsAssignRow : OpenClaim := { program := "ytobeeakjfkokfaa", sum := "df41fdfa75c470f7427fa3f04a81504d6b47e0568c09ce63e31b0b5ec3592fbd", func := "loop.example/multipathtransport/laws.FnExactIdsAssign", spec := "fnExactIdsAssign", unfollowed := true, recurses := true, apart := false }
def FnExactIdsAssignSaid : Prop := fnExactIdsAssignRow.holds Try.pinned (OpenSpec.ofChange fnExactIdsAssignSpec)

/-- ITS FALSE NEIGHBOUR: 'it returns false'. Refute it at one input. -/
def fnExactIdsAssignWrong : ChangeSpec := { name := "fnExactIdsAssign", fn := fun _ => fun
  | [d1, d2] => { results := [.lit (.bool false)], args := [d1, d2] }
  | _ => none }
def FnExactIdsAssignWrongFalsely : Prop := fnExactIdsAssignRow.holds Try.pinned (OpenSpec.ofChange fnExactIdsAssignWrong)

/-- 'laws.FnExactIdsMigrate': WHATEVER THE INPUT: true; the input reads as it did. -/
def fnExactIdsMigrateSpec : ChangeSpec := { name := "fnExactIdsMigrate", fn := fun _ => fun
  | [d1, d2] => { results := [.lit (.bool true)], args := [d1, d2] }
  | _ => none }
def fnExactIdsMigrateRow : OpenClaim := { program := "ytobeeakjfkokfaa", sum := "df41fdfa75c470f7427fa3f04a81504d6b47e0568c09ce63e31b0b5ec3592fbd", func := "loop.example/multipathtransport/laws.FnExactIdsMigrate", spec := "fnExactIdsMigrate", unfollowed := true, recurses := true, apart := false }
def FnExactIdsMigrateSaid : Prop := fnExactIdsMigrateRow.holds Try.pinned (OpenSpec.ofChange fnExactIdsMigrateSpec)

/-- ITS FALSE NEIGHBOUR: 'it returns false'. Refute it at one input. -/
def fnExactIdsMigrateWrong : ChangeSpec := { name := "fnExactIdsMigrate", fn := fun _ => fun
  | [d1, d2] => { results := [.lit (.bool false)], args := [d1, d2] }
  | _ => none }
def FnExactIdsMigrateWrongFalsely : Prop := fnExactIdsMigrateRow.holds Try.pinned (OpenSpec.ofChange fnExactIdsMigrateWrong)

/-- 'laws.FnIdsActive': WHATEVER THE INPUT: true; the input reads as it did. -/
def fnIdsActiveSpec : ChangeSpec := { name := "fnIdsActive", fn := fun _ => fun
  | [d] => { results := [.lit (.bool true)], args := [d] }
  | _ => none }
def fnIdsActiveRow : OpenClaim := { program := "ytobeeakjfkokfaa", sum := "df41fdfa75c470f7427fa3f04a81504d6b47e0568c09ce63e31b0b5ec3592fbd", func := "loop.example/multipathtransport/laws.FnIdsActive", spec := "fnIdsActive", apart := false }
def FnIdsActiveSaid : Prop := fnIdsActiveRow.holds Try.pinned (OpenSpec.ofChange fnIdsActiveSpec)

/-- ITS FALSE NEIGHBOUR: 'it returns false'. Refute it at one input. -/
def fnIdsActiveWrong : ChangeSpec := { name := "fnIdsActive", fn := fun _ => fun
  | [d] => { results := [.lit (.bool false)], args := [d] }
  | _ => none }
def FnIdsActiveWrongFalsely : Prop := fnIdsActiveRow.holds Try.pinned (OpenSpec.ofChange fnIdsActiveWrong)

/-- 'laws.FnExactIdsIssue': WHATEVER THE INPUT: true; the input reads as it did. -/
def fnExactIdsIssueSpec : ChangeSpec := { name := "fnExactIdsIssue", fn := fun _ => fun
  | [d1, d2] => { results := [.lit (.bool true)], args := [d1, d2] }
  | _ => none }
def fnExactIdsIssueRow : OpenClaim := { program := "ytobeeakjfkokfaa", sum := "df41fdfa75c470f7427fa3f04a81504d6b47e0568c09ce63e31b0b5ec3592fbd", func := "loop.example/multipathtransport/laws.FnExactIdsIssue", spec := "fnExactIdsIssue", unfollowed := true, recurses := true, apart := false }
def FnExactIdsIssueSaid : Prop := fnExactIdsIssueRow.holds Try.pinned (OpenSpec.ofChange fnExactIdsIssueSpec)

/-- ITS FALSE NEIGHBOUR: 'it returns false'. Refute it at one input. -/
def fnExactIdsIssueWrong : ChangeSpec := { name := "fnExactIdsIssue", fn := fun _ => fun
  | [d1, d2] => { results := [.lit (.bool false)], args := [d1, d2] }
  | _ => none }
def FnExactIdsIssueWrongFalsely : Prop := fnExactIdsIssueRow.holds Try.pinned (OpenSpec.ofChange fnExactIdsIssueWrong)

/-- 'laws.FnIdsOn': WHATEVER THE INPUT: true; the input reads as it did. -/
def fnIdsOnSpec : ChangeSpec := { name := "fnIdsOn", fn := fun _ => fun
  | [d1, d2] => { results := [.lit (.bool true)], args := [d1, d2] }
  | _ => none }
def fnIdsOnRow : OpenClaim := { program := "ytobeeakjfkokfaa", sum := "df41fdfa75c470f7427fa3f04a81504d6b47e0568c09ce63e31b0b5ec3592fbd", func := "loop.example/multipathtransport/laws.FnIdsOn", spec := "fnIdsOn", unfollowed := true, recurses := true, apart := false }
def FnIdsOnSaid : Prop := fnIdsOnRow.holds Try.pinned (OpenSpec.ofChange fnIdsOnSpec)

/-- ITS FALSE NEIGHBOUR: 'it returns false'. Refute it at one input. -/
def fnIdsOnWrong : ChangeSpec := { name := "fnIdsOn", fn := fun _ => fun
  | [d1, d2] => { results := [.lit (.bool false)], args := [d1, d2] }
  | _ => none }
def FnIdsOnWrongFalsely : Prop := fnIdsOnRow.holds Try.pinned (OpenSpec.ofChange fnIdsOnWrong)

/- THE SECOND FORM. 'bulk': how many values and letters a reading holds, each counted each time it is reached (what is shared counts as often as it is met; a slice's spare places count too). A statement '..UptoSaid' is the law's where the arguments, and the package variables that the reading takes, are together of bulk at most 1048576: NARROWER than '..Said'. Prove '..Said' where nothing that the law and all that it calls make is longer than what came in: it says more and counts as full. Else prove '..UptoSaid'. A law counts once. -/
mutual
def uptoBulk {H : Type} : DataW H → Nat
  | .lit (.string bytes) => bytes.length + 1
  | .lit _ => 1
  | .nil => 1
  | .ptr d => uptoBulk d + 1
  | .slice elems spare => uptoBulkAll elems + uptoBulkAll spare + 1
  | .agg parts => uptoBulkAll parts + 1
  | .iface _ d => uptoBulk d + 1
  | .map entries => uptoBulkEntries entries + 1
  | .held _ => 1
def uptoBulkAll {H : Type} : List (DataW H) → Nat
  | [] => 0
  | d :: r => uptoBulk d + uptoBulkAll r
def uptoBulkEntries {H : Type} : List (Lit × DataW H) → Nat
  | [] => 0
  | x :: r => uptoBulkEntry x + uptoBulkEntries r
def uptoBulkEntry {H : Type} : Lit × DataW H → Nat
  | (.string bytes, d) => bytes.length + uptoBulk d + 1
  | (_, d) => uptoBulk d + 1
 end
def uptoSmall : (H : Type) → List (DataW H) → Bool := fun _ ds => decide (uptoBulkAll ds ≤ 1048576)
def OpenSpec.upto (s : _root_.Go.ChangeSpec) : _root_.Go.OpenSpec := { _root_.Go.OpenSpec.ofChange s with cond := some uptoSmall }

/-- 'laws.FnExactIdsValid', WHERE WHAT IT READS IS OF BULK AT MOST 1048576: true; the input reads as it did. -/
def fnExactIdsValidUptoRow : OpenClaim := { program := "ytobeeakjfkokfaa", sum := "df41fdfa75c470f7427fa3f04a81504d6b47e0568c09ce63e31b0b5ec3592fbd", func := "loop.example/multipathtransport/laws.FnExactIdsValid", spec := "fnExactIdsValid", apart := false, narrowed := true }
def FnExactIdsValidUptoSaid : Prop := fnExactIdsValidUptoRow.holds Try.pinned (OpenSpec.upto fnExactIdsValidSpec)

/-- 'laws.FnExactIdsOn', WHERE WHAT IT READS IS OF BULK AT MOST 1048576: true; the input reads as it did. -/
def fnExactIdsOnUptoRow : OpenClaim := { program := "ytobeeakjfkokfaa", sum := "df41fdfa75c470f7427fa3f04a81504d6b47e0568c09ce63e31b0b5ec3592fbd", func := "loop.example/multipathtransport/laws.FnExactIdsOn", spec := "fnExactIdsOn", unfollowed := true, recurses := true, apart := false, narrowed := true }
def FnExactIdsOnUptoSaid : Prop := fnExactIdsOnUptoRow.holds Try.pinned (OpenSpec.upto fnExactIdsOnSpec)

/-- 'laws.FnExactIdsRetire', WHERE WHAT IT READS IS OF BULK AT MOST 1048576: true; the input reads as it did. -/
def fnExactIdsRetireUptoRow : OpenClaim := { program := "ytobeeakjfkokfaa", sum := "df41fdfa75c470f7427fa3f04a81504d6b47e0568c09ce63e31b0b5ec3592fbd", func := "loop.example/multipathtransport/laws.FnExactIdsRetire", spec := "fnExactIdsRetire", apart := false, narrowed := true }
def FnExactIdsRetireUptoSaid : Prop := fnExactIdsRetireUptoRow.holds Try.pinned (OpenSpec.upto fnExactIdsRetireSpec)

/-- 'laws.FnExactIdsAssign', WHERE WHAT IT READS IS OF BULK AT MOST 1048576: true; the input reads as it did. -/
def fnExactIdsAssignUptoRow : OpenClaim := { program := "ytobeeakjfkokfaa", sum := "df41fdfa75c470f7427fa3f04a81504d6b47e0568c09ce63e31b0b5ec3592fbd", func := "loop.example/multipathtransport/laws.FnExactIdsAssign", spec := "fnExactIdsAssign", unfollowed := true, recurses := true, apart := false, narrowed := true }
def FnExactIdsAssignUptoSaid : Prop := fnExactIdsAssignUptoRow.holds Try.pinned (OpenSpec.upto fnExactIdsAssignSpec)

/-- 'laws.FnExactIdsMigrate', WHERE WHAT IT READS IS OF BULK AT MOST 1048576: true; the input reads as it did. -/
def fnExactIdsMigrateUptoRow : OpenClaim := { program := "ytobeeakjfkokfaa", sum := "df41fdfa75c470f7427fa3f04a81504d6b47e0568c09ce63e31b0b5ec3592fbd", func := "loop.example/multipathtransport/laws.FnExactIdsMigrate", spec := "fnExactIdsMigrate", unfollowed := true, recurses := true, apart := false, narrowed := true }
def FnExactIdsMigrateUptoSaid : Prop := fnExactIdsMigrateUptoRow.holds Try.pinned (OpenSpec.upto fnExactIdsMigrateSpec)

/-- 'laws.FnIdsActive', WHERE WHAT IT READS IS OF BULK AT MOST 1048576: true; the input reads as it did. -/
def fnIdsActiveUptoRow : OpenClaim := { program := "ytobeeakjfkokfaa", sum := "df41fdfa75c470f7427fa3f04a81504d6b47e0568c09ce63e31b0b5ec3592fbd", func := "loop.example/multipathtransport/laws.FnIdsActive", spec := "fnIdsActive", apart := false, narrowed := true }
def FnIdsActiveUptoSaid : Prop := fnIdsActiveUptoRow.holds Try.pinned (OpenSpec.upto fnIdsActiveSpec)

/-- 'laws.FnExactIdsIssue', WHERE WHAT IT READS IS OF BULK AT MOST 1048576: true; the input reads as it did. -/
def fnExactIdsIssueUptoRow : OpenClaim := { program := "ytobeeakjfkokfaa", sum := "df41fdfa75c470f7427fa3f04a81504d6b47e0568c09ce63e31b0b5ec3592fbd", func := "loop.example/multipathtransport/laws.FnExactIdsIssue", spec := "fnExactIdsIssue", unfollowed := true, recurses := true, apart := false, narrowed := true }
def FnExactIdsIssueUptoSaid : Prop := fnExactIdsIssueUptoRow.holds Try.pinned (OpenSpec.upto fnExactIdsIssueSpec)

/-- 'laws.FnIdsOn', WHERE WHAT IT READS IS OF BULK AT MOST 1048576: true; the input reads as it did. -/
def fnIdsOnUptoRow : OpenClaim := { program := "ytobeeakjfkokfaa", sum := "df41fdfa75c470f7427fa3f04a81504d6b47e0568c09ce63e31b0b5ec3592fbd", func := "loop.example/multipathtransport/laws.FnIdsOn", spec := "fnIdsOn", unfollowed := true, recurses := true, apart := false, narrowed := true }
def FnIdsOnUptoSaid : Prop := fnIdsOnUptoRow.holds Try.pinned (OpenSpec.upto fnIdsOnSpec)

end Rows
end Go.Proofs.Ytobeeakjfkokfaa
