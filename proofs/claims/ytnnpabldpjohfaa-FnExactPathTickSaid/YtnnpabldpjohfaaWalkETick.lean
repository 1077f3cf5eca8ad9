/- The walk of the law FnExactPathTick: the program's and the reference's function return the same, so the law answers true. -/
import Derived.Test.YtnnpabldpjohfaaPathBTick
namespace Go.Proofs.Ytnnpabldpjohfaa
open Go.RowKit

set_option maxHeartbeats 2000000 in
theorem walkFnExactPathTick (s t r x d now : Int) (w : World) :
    Calls Try.prog 6 #[.agg #[.int .i64 s, .int .i64 t, .int .i64 r, .int .i64 x, .int .i64 d], .int .i64 now] w fun e w' =>
      e = .returned (.bool true) ∧ Below w.heap.size w w' := by
  obtain ⟨q, hq⟩ : ∃ q, tick ⟨s, t, r, x, d⟩ now = q := ⟨_, rfl⟩
  have H := Lib.hid hq
  clear hq
  go_enter Try.func6, Try.ntmps6
  go_wp2_with (first
    | (go_at_call 13; refine (toPath _ _ _ _ _ _).mono ?_; rintro e w1 ⟨rfl, o1, o2, o3, rfl⟩)
    | (go_at_call 20; refine (tick_spec _ _ _ _ _ _ q H.out _).mono ?_; rintro e w1 ⟨rfl, o1, o2, o3, rfl⟩)
    | (go_at_call 21; refine (tick_impl _ _ _ _ _ _ q H.out _).mono ?_; rintro e w1 ⟨rfl, o1, o2, o3, rfl⟩)
    | (go_at_call 17; refine (eqPath _ _ _ _ _ _).mono ?_; rintro e w1 ⟨rfl, o1, o2, rfl⟩))
  go_returns
  exact ⟨rfl, by go_grown⟩

end Go.Proofs.Ytnnpabldpjohfaa
