/- The walk of the law FnExactPathValid: the program's and the reference's function return the same, so the law answers true. -/
import Derived.Test.YtnnpabldpjohfaaPathA2
namespace Go.Proofs.Ytnnpabldpjohfaa
open Go.RowKit

set_option maxHeartbeats 2000000 in
theorem walkFnExactPathValid (s t r x d : Int) (w : World) :
    Calls Try.prog 3 #[.agg #[.int .i64 s, .int .i64 t, .int .i64 r, .int .i64 x, .int .i64 d]] w fun e w' =>
      e = .returned (.bool true) ∧ Below w.heap.size w w' := by
  obtain ⟨b, hq⟩ : ∃ b, okB s t r x d = b := ⟨_, rfl⟩
  cases b
  all_goals
    go_enter Try.func3, Try.ntmps3
    go_wp2_with (first
      | (go_at_call 13; refine (toPath _ _ _ _ _ _).mono ?_; rintro e w1 ⟨rfl, o1, o2, o3, rfl⟩)
      | (go_at_call 12; refine (pathValid_spec _ _ _ _ _ _).mono ?_; rintro e w1 ⟨rfl, o1, rfl⟩)
      | (go_at_call 14; refine (pathValid_impl _ _ _ _ _ _).mono ?_; rintro e w1 ⟨rfl, o1, rfl⟩))
    go_returns
    exact ⟨rfl, by go_grown⟩

end Go.Proofs.Ytnnpabldpjohfaa
