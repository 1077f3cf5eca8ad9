/- The walk of the law FnPathProbeOnce. -/
import Derived.Test.YteajojhfcllodaaDrawQ
import Derived.Test.YteajojhfcllodaaPathC
import Derived.Test.YteajojhfcllodaaLawsPlain
namespace Go.Proofs.Yteajojhfcllodaa
open Go.RowKit

set_option maxHeartbeats 16000000 in
theorem walkFnPathProbeOnce (w : World) (a : Option Addr) (len cap : Nat) (zs : List Int) (h : IsRow .u8 w a len cap zs) :
    Calls Try.prog 3 #[.slice a len cap] w fun e w' => e = .returned (.bool true) ∧ Below w.heap.size w w' := by
  by_cases hl : 1048576 < len
  · go_enter Try.func3, Try.ntmps3
    go_wp2
    go_returns
    exact ⟨rfl, Below.refl _ _⟩
  go_enter Try.func3, Try.ntmps3
  go_wp2_with fail
  refine (drawProbe_any w a len cap zs h).mono ?_
  rintro e w1 ⟨⟨s, t, r, x, d⟩, k, n, m, rfl, hq, hb⟩
  have hs := hb.size
  clear hq h
  dsimp only
  rcases probe_cases s t r x d k n m with T | T | ⟨rfl, hn, hn', hm, hm', T, U, V⟩
  all_goals
    go_wp2_with (first
      | (go_at_call 12; (with_reducible refine (probe_impl5 T.out _).mono ?_); rintro e w2 ⟨rfl, o1, o2, o3, rfl⟩)
      | (go_at_call 13; (with_reducible refine (probe_spec5 T.out _).mono ?_); rintro e w2 ⟨rfl, o1, o2, o3, rfl⟩)
      | (go_at_call 12; (with_reducible refine (probe_impl5 U.out _).mono ?_); rintro e w2 ⟨rfl, o1, o2, o3, rfl⟩)
      | (go_at_call 13; (with_reducible refine (probe_spec5 U.out _).mono ?_); rintro e w2 ⟨rfl, o1, o2, o3, rfl⟩)
      | (go_at_call 14; (with_reducible refine (pv_impl V.out _).mono ?_); rintro e w2 ⟨rfl, o1, rfl⟩))
  all_goals
    go_returns
    refine ⟨ret_bool ?_, by go_grown⟩
    first | rfl | omega | (simp <;> omega) | simp_all

end Go.Proofs.Yteajojhfcllodaa
