/- The walk of the law FnPathAmplify. -/
import Derived.Test.YtnnpabldpjohfabDrawP
import Derived.Test.YtnnpabldpjohfabPathC
import Derived.Test.YtnnpabldpjohfabLawsPlain
namespace Go.Proofs.Ytnnpabldpjohfab
open Go.RowKit

set_option maxHeartbeats 16000000 in
theorem walkFnPathAmplify (w : World) (a : Option Addr) (len cap : Nat) (zs : List Int) (h : IsRow .u8 w a len cap zs) :
    Calls Try.prog 7 #[.slice a len cap] w fun e w' => e = .returned (.bool true) ∧ Below w.heap.size w w' := by
  by_cases hl : 1048576 < len
  · go_enter Try.func7, Try.ntmps7
    go_wp2
    go_returns
    exact ⟨rfl, Below.refl _ _⟩
  go_enter Try.func7, Try.ntmps7
  go_wp2_with fail
  refine (drawSend_any w a len cap zs h).mono ?_
  rintro e w1 ⟨⟨s, t, r, x, d⟩, k, rfl, hq, hn0, hn1, hb⟩
  have hs := hb.size
  clear hq h
  dsimp only
  rcases send_cases s t r x d k with T | T | ⟨rfl, hx0, hx1, hk, T, V⟩ | ⟨rfl, hx0, hx1, hr0, hr1, hk, T, V⟩
  all_goals
    go_wp2_with (first
      | (go_at_call 24; (with_reducible refine (send_impl5 T.out _).mono ?_); rintro e w2 ⟨rfl, o1, o2, o3, rfl⟩)
      | (go_at_call 25; (with_reducible refine (send_spec5 T.out _).mono ?_); rintro e w2 ⟨rfl, o1, o2, o3, rfl⟩)
      | (go_at_call 14; (with_reducible refine (pv_impl V.out _).mono ?_); rintro e w2 ⟨rfl, o1, rfl⟩))
  all_goals
    go_returns
    refine ⟨ret_bool ?_, by go_grown⟩
    first | rfl | omega | (simp <;> omega) | simp_all

end Go.Proofs.Ytnnpabldpjohfab
