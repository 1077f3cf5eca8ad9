/- The walk of the law FnPathFailed. -/
import Derived.Test.YtnnpabldpjohfabDrawP
import Derived.Test.YtnnpabldpjohfabPathC
import Derived.Test.YtnnpabldpjohfabLawsPlain
namespace Go.Proofs.Ytnnpabldpjohfab
open Go.RowKit

set_option maxHeartbeats 16000000 in
theorem walkFnPathFailed (w : World) (a : Option Addr) (len cap : Nat) (zs : List Int) (h : IsRow .u8 w a len cap zs) :
    Calls Try.prog 9 #[.slice a len cap] w fun e w' => e = .returned (.bool true) ∧ Below w.heap.size w w' := by
  by_cases hl : 1048576 < len
  · go_enter Try.func9, Try.ntmps9
    go_wp2
    go_returns
    exact ⟨rfl, Below.refl _ _⟩
  go_enter Try.func9, Try.ntmps9
  go_wp2_with fail
  refine (drawTick_any w a len cap zs h).mono ?_
  rintro e w1 ⟨⟨s, t, r, x, d⟩, n, rfl, hq, hn0, hn1, hb⟩
  have hs := hb.size
  clear hq h
  dsimp only
  rcases failed_cases s t r x d n with ⟨S, T', R, X, D, hne, T⟩ | ⟨T', R, X, D, T, U1, U2, U3⟩
  all_goals
    go_wp2_with (first
      | (go_at_call 16; (with_reducible refine (tick_impl5 T.out _).mono ?_); rintro e w2 ⟨rfl, o1, o2, o3, rfl⟩)
      | (go_at_call 17; (with_reducible refine (tick_spec5 T.out _).mono ?_); rintro e w2 ⟨rfl, o1, o2, o3, rfl⟩)
      | (go_at_call 26; (with_reducible refine (answer_impl5 U1.out _).mono ?_); rintro e w2 ⟨rfl, o1, o2, o3, rfl⟩)
      | (go_at_call 12; (with_reducible refine (probe_impl5 U2.out _).mono ?_); rintro e w2 ⟨rfl, o1, o2, o3, rfl⟩)
      | (go_at_call 24; (with_reducible refine (send_impl5 U3.out _).mono ?_); rintro e w2 ⟨rfl, o1, o2, o3, rfl⟩))
  all_goals
    go_returns
    refine ⟨ret_bool ?_, by go_grown⟩
    first | rfl | omega | (simp <;> omega) | simp_all

end Go.Proofs.Ytnnpabldpjohfab
