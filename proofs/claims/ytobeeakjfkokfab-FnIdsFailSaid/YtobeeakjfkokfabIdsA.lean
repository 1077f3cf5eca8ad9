/- Contracts of the small functions on connection identifiers. -/
import Derived.Test.YtobeeakjfkokfabChecked
import Derived.WalkKit
import Derived.KernelRfl
import Derived.Handy
import Derived.Test.YtobeeakjfkokfabIdsMem
namespace Go.Proofs.Ytobeeakjfkokfab
open Go.RowKit

theorem ret_bool {a b : Bool} (h : a = b) : Ending.returned (.bool a) = .returned (.bool b) := by rw [h]
theorem ret_int {a b : Int} (h : a = b) : Ending.returned (.int .i64 a) = .returned (.int .i64 b) := by rw [h]

theorem l6In_any (n lo hi : Int) (w : World) :
    Calls Try.prog 35 #[.int .i64 n, .int .i64 lo, .int .i64 hi] w fun e w' => e = .returned (.bool (decide (lo ≤ n ∧ n ≤ hi))) ∧ w = w' := by
  go_enter Try.func35, Try.ntmps35
  go_wp2
  all_goals
    go_returns
    exact ⟨ret_bool (by rw [Bool.eq_iff_iff]; simp_all <;> omega), rfl⟩

theorem within_any (n lo hi : Int) (w : World) :
    Calls Try.prog 31 #[.int .i64 n, .int .i64 lo, .int .i64 hi] w fun e w' => e = .returned (.bool (decide (lo ≤ n ∧ n ≤ hi))) ∧ w = w' := by
  go_enter Try.func31, Try.ntmps31
  go_wp2
  all_goals
    go_returns
    exact ⟨ret_bool (by rw [Bool.eq_iff_iff]; simp_all <;> omega), rfl⟩

theorem on_any (v p : Int) (r : Bool) (q : Int) (w : World) :
    Calls Try.prog 37 #[.agg #[.int .i64 v, .int .i64 p, .bool r], .int .i64 q] w fun e w' => e = .returned (.bool (onB ⟨v, p, r⟩ q)) ∧ ∃ o, w' = w.alloc o := by
  go_enter Try.func37, Try.ntmps37
  go_wp2
  all_goals
    go_returns
    exact ⟨ret_bool (by cases r <;> simp_all [onB]), _, rfl⟩

end Go.Proofs.Ytobeeakjfkokfab
