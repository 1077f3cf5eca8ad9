/- Contracts of the small functions on connection identifiers. -/
import Derived.Test.YtobeeakjfkokfaaChecked
import Derived.WalkKit
import Derived.KernelRfl
import Derived.Handy
import Derived.Test.YtobeeakjfkokfaaIdsMem
namespace Go.Proofs.Ytobeeakjfkokfaa
open Go.RowKit

theorem ret_bool {a b : Bool} (h : a = b) : Ending.returned (.bool a) = .returned (.bool b) := by rw [h]
theorem ret_int {a b : Int} (h : a = b) : Ending.returned (.int .i64 a) = .returned (.int .i64 b) := by rw [h]

theorem l6In_any (n lo hi : Int) (w : World) :
    Calls Try.prog 30 #[.int .i64 n, .int .i64 lo, .int .i64 hi] w fun e w' => e = .returned (.bool (decide (lo ≤ n ∧ n ≤ hi))) ∧ w = w' := by
  go_enter Try.func30, Try.ntmps30
  go_wp2
  all_goals
    go_returns
    exact ⟨ret_bool (by rw [Bool.eq_iff_iff]; simp_all <;> omega), rfl⟩

theorem within_any (n lo hi : Int) (w : World) :
    Calls Try.prog 32 #[.int .i64 n, .int .i64 lo, .int .i64 hi] w fun e w' => e = .returned (.bool (decide (lo ≤ n ∧ n ≤ hi))) ∧ w = w' := by
  go_enter Try.func32, Try.ntmps32
  go_wp2
  all_goals
    go_returns
    exact ⟨ret_bool (by rw [Bool.eq_iff_iff]; simp_all <;> omega), rfl⟩

theorem on_any (v p : Int) (r : Bool) (q : Int) (w : World) :
    Calls Try.prog 33 #[.agg #[.int .i64 v, .int .i64 p, .bool r], .int .i64 q] w fun e w' => e = .returned (.bool (onB ⟨v, p, r⟩ q)) ∧ ∃ o, w' = w.alloc o := by
  go_enter Try.func33, Try.ntmps33
  go_wp2
  all_goals
    go_returns
    exact ⟨ret_bool (by cases r <;> simp_all [onB]), _, rfl⟩

theorem sz_any (A : Option Addr) (n c : Nat) (w : World) (hn : n ≤ 9223372036854775807) :
    Calls Try.prog 11 #[.slice A n c, .int .i64 1048576] w fun e w' => e = .returned (.int .i64 (if 1048576 < n then -1 else 1048576 - (n : Int))) ∧ w = w' := by
  go_enter Try.func11, Try.ntmps11
  go_wp2
  all_goals
    go_returns
    refine ⟨ret_int ?_, rfl⟩
    first | rfl | (split <;> simp_all <;> omega) | (simp_all <;> omega)

theorem toConnId_any (v p : Int) (r : Bool) (w : World) :
    Calls Try.prog 31 #[.agg #[.int .i64 v, .int .i64 p, .bool r]] w fun e w' => e = .returned (.agg #[.int .i64 v, .int .i64 p, .bool r]) ∧ Below w.heap.size w w' := by
  go_enter Try.func31, Try.ntmps31
  go_wp2
  go_returns
  exact ⟨rfl, by go_grown⟩

theorem eqConnId_any (v p : Int) (r : Bool) (w : World) :
    Calls Try.prog 34 #[.agg #[.int .i64 v, .int .i64 p, .bool r], .agg #[.int .i64 v, .int .i64 p, .bool r]] w fun e w' => e = .returned (.bool true) ∧ Below w.heap.size w w' := by
  go_enter Try.func34, Try.ntmps34
  go_wp2
  go_returns
  exact ⟨rfl, by go_grown⟩

end Go.Proofs.Ytobeeakjfkokfaa
