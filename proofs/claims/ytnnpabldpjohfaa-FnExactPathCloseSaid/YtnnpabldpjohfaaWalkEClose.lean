/- The walk of the law FnExactPathClose: the program's and the reference's function return the same, so the law answers true. -/
import Derived.Test.YtnnpabldpjohfaaPathBClose
namespace Go.Proofs.Ytnnpabldpjohfaa
open Go.RowKit

set_option maxHeartbeats 2000000 in
theorem walkFnExactPathClose (s t r x d : Int) (w : World) :
    Calls Try.prog 4 #[.agg #[.int .i64 s, .int .i64 t, .int .i64 r, .int .i64 x, .int .i64 d]] w fun e w' =>
      e = .returned (.bool true) ∧ Below w.heap.size w w' := by
  obtain ⟨q, hq⟩ : ∃ q, close ⟨s, t, r, x, d⟩ = q := ⟨_, rfl⟩
  have H := Lib.hid hq
  clear hq
  go_enter Try.func4, Try.ntmps4
  go_wp2_with (first
    | (go_at_call 13; refine (toPath _ _ _ _ _ _).mono ?_; rintro e w1 ⟨rfl, o1, o2, o3, rfl⟩)
    | (go_at_call 15; refine (close_spec _ _ _ _ _ q H.out _).mono ?_; rintro e w1 ⟨rfl, o1, o2, o3, rfl⟩)
    | (go_at_call 16; refine (close_impl _ _ _ _ _ q H.out _).mono ?_; rintro e w1 ⟨rfl, o1, o2, o3, rfl⟩)
    | (go_at_call 17; refine (eqPath _ _ _ _ _ _).mono ?_; rintro e w1 ⟨rfl, o1, o2, rfl⟩))
  go_returns
  exact ⟨rfl, by go_grown⟩

end Go.Proofs.Ytnnpabldpjohfaa
