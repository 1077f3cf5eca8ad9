/- Contracts of the program's and the reference's small functions on paths. -/
import Derived.Test.YteajojhfcllodaaChecked
import Derived.WalkKit
import Derived.KernelRfl
import Derived.Handy
import Derived.Test.YteajojhfcllodaaPathPlain
namespace Go.Proofs.Yteajojhfcllodaa
open Go.RowKit

/-- One, two, three new blocks. -/
def New1 (w w' : World) : Prop := ∃ a, w' = w.alloc a
def New2 (w w' : World) : Prop := ∃ a b, w' = (w.alloc a).alloc b
def New3 (w w' : World) : Prop := ∃ a b c, w' = ((w.alloc a).alloc b).alloc c

theorem within_any (n lo hi : Int) (w : World) :
    Calls Try.prog 35 #[.int .i64 n, .int .i64 lo, .int .i64 hi] w fun e w' => e = .returned (.bool (decide (lo ≤ n ∧ n ≤ hi))) ∧ w = w' := by
  go_enter Try.func35, Try.ntmps35
  go_wp2
  all_goals
    go_returns
    exact ⟨ret_bool (by rw [Bool.eq_iff_iff]; simp_all <;> omega), rfl⟩

set_option maxHeartbeats 1000000 in
theorem pathValid_impl (s t r x d : Int) (w : World) :
    Calls Try.prog 14 #[.agg #[.int .i64 s, .int .i64 t, .int .i64 r, .int .i64 x, .int .i64 d]] w fun e w' =>
      e = .returned (.bool (okB s t r x d)) ∧ New1 w w' := by
  go_enter Try.func14, Try.ntmps14
  go_wp2
  all_goals
    go_returns
    refine ⟨ret_bool (eq_okB ?_ ?_), _, rfl⟩
    · simp_all [Ok] <;> omega
    · intro h
      simp_all [Ok] <;> omega

set_option maxHeartbeats 1000000 in
theorem pathValid_spec (s t r x d : Int) (w : World) :
    Calls Try.prog 18 #[.agg #[.int .i64 s, .int .i64 t, .int .i64 r, .int .i64 x, .int .i64 d]] w fun e w' =>
      e = .returned (.bool (okB s t r x d)) ∧ New1 w w' := by
  go_enter Try.func18, Try.ntmps18
  go_wp2
  all_goals
    go_returns
    refine ⟨ret_bool (eq_okB ?_ ?_), _, rfl⟩
    · simp_all [Ok] <;> omega
    · intro h
      simp_all [Ok] <;> omega

end Go.Proofs.Yteajojhfcllodaa
