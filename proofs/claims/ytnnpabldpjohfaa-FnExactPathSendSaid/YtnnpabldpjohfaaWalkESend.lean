/- The walk of the law FnExactPathSend: the program's and the reference's function return the same, so the law answers true. -/
import Derived.Test.YtnnpabldpjohfaaPathBSend
namespace Go.Proofs.Ytnnpabldpjohfaa
open Go.RowKit

set_option maxHeartbeats 2000000 in
theorem walkFnExactPathSend (s t r x d size : Int) (w : World) :
    Calls Try.prog 9 #[.agg #[.int .i64 s, .int .i64 t, .int .i64 r, .int .i64 x, .int .i64 d], .int .i64 size] w fun e w' =>
      e = .returned (.bool true) ∧ Below w.heap.size w w' := by
  obtain ⟨q, b, hq⟩ : ∃ q b, send ⟨s, t, r, x, d⟩ size = (q, b) := ⟨_, _, rfl⟩
  have H := Lib.hid hq
  clear hq
  go_enter Try.func9, Try.ntmps9
  go_wp2_with (first
    | (go_at_call 13; refine (toPath _ _ _ _ _ _).mono ?_; rintro e w1 ⟨rfl, o1, o2, o3, rfl⟩)
    | (go_at_call 26; refine (send_spec _ _ _ _ _ _ q b H.out _).mono ?_; rintro e w1 ⟨rfl, o1, o2, o3, rfl⟩)
    | (go_at_call 27; refine (send_impl _ _ _ _ _ _ q b H.out _).mono ?_; rintro e w1 ⟨rfl, o1, o2, o3, rfl⟩)
    | (go_at_call 17; refine (eqPath _ _ _ _ _ _).mono ?_; rintro e w1 ⟨rfl, o1, o2, rfl⟩))
  go_returns
  exact ⟨rfl, by go_grown⟩

end Go.Proofs.Ytnnpabldpjohfaa
