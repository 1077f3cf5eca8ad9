/-
  No cell of these rows narrows 'for every input' (looked for: loops, veiled, ifaces, maps, wideKeys, modest, calm, conditions, laid).
  DERIVED. THE GIVEN ROWS OF THIS SEAT. 8 by the template 'for every input the law returns true; each argument reads behind the call as it read before'; 0 by the template 'total and deterministic' (their statements: YtbmmoncbklcbmaaTotals.lean).
  GIVEN WITH THE SEED: the statements are not yours to turn. If you find one false, say at which input.
  Laid BY PROGRAM, IN A SANDBOX (cutbox-rows.mjs): the forced cells as the released guide's own fill.sh prints them over the translation 76497b17679556cf… (all of the seat's roots in one cut). By AI agents, Wed Nov 11 2026. No macro, syntax, notation, axiom, sorry.
-/
import Derived.Test.YtbmmoncbklcbmaaChecked
import GoSem.Claim
import GoSem.ClaimJoined
import GoSem.ClaimMapViews
import Derived.JoinedTies
import Derived.KernelRfl
namespace Go.Proofs.Ytbmmoncbklcbmaa
/- THE CELL 'sum', in the pinned program and in every row, IS THE sha256 OF THE DUMP (.gsa) THAT YtbmmoncbklcbmaaProg.lean LOADS. Nothing in Lean hashes anything: it is a label: what it is worth is what the hold of that sum in a sandbox is worth. -/
noncomputable def Try.pinned : Pinned := { name := "ytbmmoncbklcbmaa", sum := "76497b17679556cfee9409910a3c9351545c0f316916fbc433e1efa35a94b2f8", checked := Try.checked }
namespace Rows
def none {H : Type} : Left H := { results := [], args := [] }

/-- 'laws.FnExactOptionsValid': WHATEVER THE INPUT: true; the input reads as it did. -/
def fnExactOptionsValidSpec : ChangeSpec := { name := "fnExactOptionsValid", fn := fun _ => fun
  | [d] => { results := [.lit (.bool true)], args := [d] }
  | _ => none }
def fnExactOptionsValidRow : OpenClaim := { program := "ytbmmoncbklcbmaa", sum := "76497b17679556cfee9409910a3c9351545c0f316916fbc433e1efa35a94b2f8", func := "loop.example/multipathtransport/laws.FnExactOptionsValid", spec := "fnExactOptionsValid", apart := false }
def FnExactOptionsValidSaid : Prop := fnExactOptionsValidRow.holds Try.pinned (OpenSpec.ofChange fnExactOptionsValidSpec)

/-- ITS FALSE NEIGHBOUR: 'it returns false'. Refute it at one input. -/
def fnExactOptionsValidWrong : ChangeSpec := { name := "fnExactOptionsValid", fn := fun _ => fun
  | [d] => { results := [.lit (.bool false)], args := [d] }
  | _ => none }
def FnExactOptionsValidWrongFalsely : Prop := fnExactOptionsValidRow.holds Try.pinned (OpenSpec.ofChange fnExactOptionsValidWrong)

/-- 'laws.FnScheduleFull': WHATEVER THE INPUT: true; the input reads as it did. -/
def fnScheduleFullSpec : ChangeSpec := { name := "fnScheduleFull", fn := fun _ => fun
  | [d] => { results := [.lit (.bool true)], args := [d] }
  | _ => none }
def fnScheduleFullRow : OpenClaim := { program := "ytbmmoncbklcbmaa", sum := "76497b17679556cfee9409910a3c9351545c0f316916fbc433e1efa35a94b2f8", func := "loop.example/multipathtransport/laws.FnScheduleFull", spec := "fnScheduleFull", unfollowed := true, recurses := true, apart := false }
def FnScheduleFullSaid : Prop := fnScheduleFullRow.holds Try.pinned (OpenSpec.ofChange fnScheduleFullSpec)

/-- ITS FALSE NEIGHBOUR: 'it returns false'. Refute it at one input. -/
def fnScheduleFullWrong : ChangeSpec := { name := "fnScheduleFull", fn := fun _ => fun
  | [d] => { results := [.lit (.bool false)], args := [d] }
  | _ => none }
def FnScheduleFullWrongFalsely : Prop := fnScheduleFullRow.holds Try.pinned (OpenSpec.ofChange fnScheduleFullWrong)

/-- 'laws.FnSchedulePick': WHATEVER THE INPUT: true; the input reads as it did. -/
def fnSchedulePickSpec : ChangeSpec := { name := "fnSchedulePick", fn := fun _ => fun
  | [d] => { results := [.lit (.bool true)], args := [d] }
  | _ => none }
def fnSchedulePickRow : OpenClaim := { program := "ytbmmoncbklcbmaa", sum := "76497b17679556cfee9409910a3c9351545c0f316916fbc433e1efa35a94b2f8", func := "loop.example/multipathtransport/laws.FnSchedulePick", spec := "fnSchedulePick", unfollowed := true, recurses := true, apart := false }
def FnSchedulePickSaid : Prop := fnSchedulePickRow.holds Try.pinned (OpenSpec.ofChange fnSchedulePickSpec)

/-- ITS FALSE NEIGHBOUR: 'it returns false'. Refute it at one input. -/
def fnSchedulePickWrong : ChangeSpec := { name := "fnSchedulePick", fn := fun _ => fun
  | [d] => { results := [.lit (.bool false)], args := [d] }
  | _ => none }
def FnSchedulePickWrongFalsely : Prop := fnSchedulePickRow.holds Try.pinned (OpenSpec.ofChange fnSchedulePickWrong)

/-- 'laws.FnExactSchedulePick': WHATEVER THE INPUT: true; the input reads as it did. -/
def fnExactSchedulePickSpec : ChangeSpec := { name := "fnExactSchedulePick", fn := fun _ => fun
  | [d] => { results := [.lit (.bool true)], args := [d] }
  | _ => none }
def fnExactSchedulePickRow : OpenClaim := { program := "ytbmmoncbklcbmaa", sum := "76497b17679556cfee9409910a3c9351545c0f316916fbc433e1efa35a94b2f8", func := "loop.example/multipathtransport/laws.FnExactSchedulePick", spec := "fnExactSchedulePick", unfollowed := true, recurses := true, apart := false }
def FnExactSchedulePickSaid : Prop := fnExactSchedulePickRow.holds Try.pinned (OpenSpec.ofChange fnExactSchedulePickSpec)

/-- ITS FALSE NEIGHBOUR: 'it returns false'. Refute it at one input. -/
def fnExactSchedulePickWrong : ChangeSpec := { name := "fnExactSchedulePick", fn := fun _ => fun
  | [d] => { results := [.lit (.bool false)], args := [d] }
  | _ => none }
def FnExactSchedulePickWrongFalsely : Prop := fnExactSchedulePickRow.holds Try.pinned (OpenSpec.ofChange fnExactSchedulePickWrong)

/-- 'laws.FnScheduleOrder': WHATEVER THE INPUT: true; the input reads as it did. -/
def fnScheduleOrderSpec : ChangeSpec := { name := "fnScheduleOrder", fn := fun _ => fun
  | [d] => { results := [.lit (.bool true)], args := [d] }
  | _ => none }
def fnScheduleOrderRow : OpenClaim := { program := "ytbmmoncbklcbmaa", sum := "76497b17679556cfee9409910a3c9351545c0f316916fbc433e1efa35a94b2f8", func := "loop.example/multipathtransport/laws.FnScheduleOrder", spec := "fnScheduleOrder", unfollowed := true, recurses := true, apart := false }
def FnScheduleOrderSaid : Prop := fnScheduleOrderRow.holds Try.pinned (OpenSpec.ofChange fnScheduleOrderSpec)

/-- ITS FALSE NEIGHBOUR: 'it returns false'. Refute it at one input. -/
def fnScheduleOrderWrong : ChangeSpec := { name := "fnScheduleOrder", fn := fun _ => fun
  | [d] => { results := [.lit (.bool false)], args := [d] }
  | _ => none }
def FnScheduleOrderWrongFalsely : Prop := fnScheduleOrderRow.holds Try.pinned (OpenSpec.ofChange fnScheduleOrderWrong)

/-- 'laws.FnScheduleTwice': WHATEVER THE INPUT: true; the input reads as it did. -/
def fnScheduleTwiceSpec : ChangeSpec := { name := "fnScheduleTwice", fn := fun _ => fun
  | [d] => { results := [.lit (.bool true)], args := [d] }
  | _ => none }
def fnScheduleTwiceRow : OpenClaim := { program := "ytbmmoncbklcbmaa", sum := "76497b17679556cfee9409910a3c9351545c0f316916fbc433e1efa35a94b2f8", func := "loop.example/multipathtransport/laws.FnScheduleTwice", spec := "fnScheduleTwice", unfollowed := true, recurses := true, apart := false }
def FnScheduleTwiceSaid : Prop := fnScheduleTwiceRow.holds Try.pinned (OpenSpec.ofChange fnScheduleTwiceSpec)

/-- ITS FALSE NEIGHBOUR: 'it returns false'. Refute it at one input. -/
def fnScheduleTwiceWrong : ChangeSpec := { name := "fnScheduleTwice", fn := fun _ => fun
  | [d] => { results := [.lit (.bool false)], args := [d] }
  | _ => none }
def FnScheduleTwiceWrongFalsely : Prop := fnScheduleTwiceRow.holds Try.pinned (OpenSpec.ofChange fnScheduleTwiceWrong)

/-- 'laws.FnScheduleAdd': WHATEVER THE INPUT: true; the input reads as it did. -/
def fnScheduleAddSpec : ChangeSpec := { name := "fnScheduleAdd", fn := fun _ => fun
  | [d1, d2] => { results := [.lit (.bool true)], args := [d1, d2] }
  | _ => none }
def fnScheduleAddRow : OpenClaim := { program := "ytbmmoncbklcbmaa", sum := "76497b17679556cfee9409910a3c9351545c0f316916fbc433e1efa35a94b2f8", func := "loop.example/multipathtransport/laws.FnScheduleAdd", spec := "fnScheduleAdd", unfollowed := true, recurses := true, apart := false }
def FnScheduleAddSaid : Prop := fnScheduleAddRow.holds Try.pinned (OpenSpec.ofChange fnScheduleAddSpec)

/-- ITS FALSE NEIGHBOUR: 'it returns false'. Refute it at one input. -/
def fnScheduleAddWrong : ChangeSpec := { name := "fnScheduleAdd", fn := fun _ => fun
  | [d1, d2] => { results := [.lit (.bool false)], args := [d1, d2] }
  | _ => none }
def FnScheduleAddWrongFalsely : Prop := fnScheduleAddRow.holds Try.pinned (OpenSpec.ofChange fnScheduleAddWrong)

/-- 'laws.FnScheduleFaster': WHATEVER THE INPUT: true; the input reads as it did. -/
def fnScheduleFasterSpec : ChangeSpec := { name := "fnScheduleFaster", fn := fun _ => fun
  | [d] => { results := [.lit (.bool true)], args := [d] }
  | _ => none }
def fnScheduleFasterRow : OpenClaim := { program := "ytbmmoncbklcbmaa", sum := "76497b17679556cfee9409910a3c9351545c0f316916fbc433e1efa35a94b2f8", func := "loop.example/multipathtransport/laws.FnScheduleFaster", spec := "fnScheduleFaster", unfollowed := true, recurses := true, apart := false }
def FnScheduleFasterSaid : Prop := fnScheduleFasterRow.holds Try.pinned (OpenSpec.ofChange fnScheduleFasterSpec)

/-- ITS FALSE NEIGHBOUR: 'it returns false'. Refute it at one input. -/
def fnScheduleFasterWrong : ChangeSpec := { name := "fnScheduleFaster", fn := fun _ => fun
  | [d] => { results := [.lit (.bool false)], args := [d] }
  | _ => none }
def FnScheduleFasterWrongFalsely : Prop := fnScheduleFasterRow.holds Try.pinned (OpenSpec.ofChange fnScheduleFasterWrong)

/- THE SECOND FORM. 'bulk': how many values and letters a reading holds, each counted each time it is reached (what is shared counts as often as it is met; a slice's spare places count too). A statement '..UptoSaid' is the law's where the arguments, and the package variables that the reading takes, are together of bulk at most 1048576: NARROWER than '..Said'. Prove '..Said' where nothing that the law and all that it calls make is longer than what came in: it says more and counts as full. Else prove '..UptoSaid'. A law counts once. -/
mutual
def uptoBulk {H : Type} : DataW H → Nat
  | .lit (.string bytes) => bytes.length + 1
  | .lit _ => 1
  | .nil => 1
  | .ptr d => uptoBulk d + 1
  | .slice elems spare => uptoBulkAll elems + uptoBulkAll spare + 1
  | .agg parts => uptoBulkAll parts + 1
  | .iface _ d => uptoBulk d + 1
  | .map entries => uptoBulkEntries entries + 1
  | .held _ => 1
def uptoBulkAll {H : Type} : List (DataW H) → Nat
  | [] => 0
  | d :: r => uptoBulk d + uptoBulkAll r
def uptoBulkEntries {H : Type} : List (Lit × DataW H) → Nat
  | [] => 0
  | x :: r => uptoBulkEntry x + uptoBulkEntries r
def uptoBulkEntry {H : Type} : Lit × DataW H → Nat
  | (.string bytes, d) => bytes.length + uptoBulk d + 1
  | (_, d) => uptoBulk d + 1
 end
def uptoSmall : (H : Type) → List (DataW H) → Bool := fun _ ds => decide (uptoBulkAll ds ≤ 1048576)
def OpenSpec.upto (s : _root_.Go.ChangeSpec) : _root_.Go.OpenSpec := { _root_.Go.OpenSpec.ofChange s with cond := some uptoSmall }

/-- 'laws.FnExactOptionsValid', WHERE WHAT IT READS IS OF BULK AT MOST 1048576: true; the input reads as it did. -/
def fnExactOptionsValidUptoRow : OpenClaim := { program := "ytbmmoncbklcbmaa", sum := "76497b17679556cfee9409910a3c9351545c0f316916fbc433e1efa35a94b2f8", func := "loop.example/multipathtransport/laws.FnExactOptionsValid", spec := "fnExactOptionsValid", apart := false, narrowed := true }
def FnExactOptionsValidUptoSaid : Prop := fnExactOptionsValidUptoRow.holds Try.pinned (OpenSpec.upto fnExactOptionsValidSpec)

/-- 'laws.FnScheduleFull', WHERE WHAT IT READS IS OF BULK AT MOST 1048576: true; the input reads as it did. -/
def fnScheduleFullUptoRow : OpenClaim := { program := "ytbmmoncbklcbmaa", sum := "76497b17679556cfee9409910a3c9351545c0f316916fbc433e1efa35a94b2f8", func := "loop.example/multipathtransport/laws.FnScheduleFull", spec := "fnScheduleFull", unfollowed := true, recurses := true, apart := false, narrowed := true }
def FnScheduleFullUptoSaid : Prop := fnScheduleFullUptoRow.holds Try.pinned (OpenSpec.upto fnScheduleFullSpec)

/-- 'laws.FnSchedulePick', WHERE WHAT IT READS IS OF BULK AT MOST 1048576: true; the input reads as it did. -/
def fnSchedulePickUptoRow : OpenClaim := { program := "ytbmmoncbklcbmaa", sum := "76497b17679556cfee9409910a3c9351545c0f316916fbc433e1efa35a94b2f8", func := "loop.example/multipathtransport/laws.FnSchedulePick", spec := "fnSchedulePick", unfollowed := true, recurses := true, apart := false, narrowed := true }
def FnSchedulePickUptoSaid : Prop := fnSchedulePickUptoRow.holds Try.pinned (OpenSpec.upto fnSchedulePickSpec)

/-- 'laws.FnExactSchedulePick', WHERE WHAT IT READS IS OF BULK AT MOST 1048576: true; the input reads as it did. -/
def fnExactSchedulePickUptoRow : OpenClaim := { program := "ytbmmoncbklcbmaa", sum := "76497b17679556cfee9409910a3c9351545c0f316916fbc433e1efa35a94b2f8", func := "loop.example/multipathtransport/laws.FnExactSchedulePick", spec := "fnExactSchedulePick", unfollowed := true, recurses := true, apart := false, narrowed := true }
def FnExactSchedulePickUptoSaid : Prop := fnExactSchedulePickUptoRow.holds Try.pinned (OpenSpec.upto fnExactSchedulePickSpec)

/-- 'laws.FnScheduleOrder', WHERE WHAT IT READS IS OF BULK AT MOST 1048576: true; the input reads as it did. -/
def fnScheduleOrderUptoRow : OpenClaim := { program := "ytbmmoncbklcbmaa", sum := "76497b17679556cfee9409910a3c9351545c0f316916fbc433e1efa35a94b2f8", func := "loop.example/multipathtransport/laws.FnScheduleOrder", spec := "fnScheduleOrder", unfollowed := true, recurses := true, apart := false, narrowed := true }
def FnScheduleOrderUptoSaid : Prop := fnScheduleOrderUptoRow.holds Try.pinned (OpenSpec.upto fnScheduleOrderSpec)

/-- 'laws.FnScheduleTwice', WHERE WHAT IT READS IS OF BULK AT MOST 1048576: true; the input reads as it did. -/
def fnScheduleTwiceUptoRow : OpenClaim := { program := "ytbmmoncbklcbmaa", sum := "76497b17679556cfee9409910a3c9351545c0f316916fbc433e1efa35a94b2f8", func := "loop.example/multipathtransport/laws.FnScheduleTwice", spec := "fnScheduleTwice", unfollowed := true, recurses := true, apart := false, narrowed := true }
def FnScheduleTwiceUptoSaid : Prop := fnScheduleTwiceUptoRow.holds Try.pinned (OpenSpec.upto fnScheduleTwiceSpec)

/-- 'laws.FnScheduleAdd', WHERE WHAT IT READS IS OF BULK AT MOST 1048576: true; the input reads as it did. -/
def fnScheduleAddUptoRow : OpenClaim := { program := "ytbmmoncbklcbmaa", sum := "76497b17679556cfee9409910a3c9351545c0f316916fbc433e1efa35a94b2f8", func := "loop.example/multipathtransport/laws.FnScheduleAdd", spec := "fnScheduleAdd", unfollowed := true, recurses := true, apart := false, narrowed := true }
def FnScheduleAddUptoSaid : Prop := fnScheduleAddUptoRow.holds Try.pinned (OpenSpec.upto fnScheduleAddSpec)

/-- 'laws.FnScheduleFaster', WHERE WHAT IT READS IS OF BULK AT MOST 1048576: true; the input reads as it did. -/
def fnScheduleFasterUptoRow : OpenClaim := { program := "ytbmmoncbklcbmaa", sum := "76497b17679556cfee9409910a3c9351545c0f316916fbc433e1efa35a94b2f8", func := "loop.example/multipathtransport/laws.FnScheduleFaster", spec := "fnScheduleFaster", unfollowed := true, recurses := true, apart := false, narrowed := true }
def FnScheduleFasterUptoSaid : Prop := fnScheduleFasterUptoRow.holds Try.pinned (OpenSpec.upto fnScheduleFasterSpec)

end Rows
end Go.Proofs.Ytbmmoncbklcbmaa
