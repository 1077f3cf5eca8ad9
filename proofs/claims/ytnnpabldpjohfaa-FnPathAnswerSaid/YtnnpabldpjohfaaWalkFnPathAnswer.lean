/- The walk of the law FnPathAnswer. -/
import Derived.Test.YtnnpabldpjohfaaDrawP
import Derived.Test.YtnnpabldpjohfaaPathC
import Derived.Test.YtnnpabldpjohfaaLawsPlain
namespace Go.Proofs.Ytnnpabldpjohfaa
open Go.RowKit

set_option maxHeartbeats 16000000 in
theorem walkFnPathAnswer (w : World) (a : Option Addr) (len cap : Nat) (zs : List Int) (h : IsRow .u8 w a len cap zs) :
    Calls Try.prog 11 #[.slice a len cap] w fun e w' => e = .returned (.bool true) ∧ Below w.heap.size w w' := by
  by_cases hl : 1048576 < len
  · go_enter Try.func11, Try.ntmps11
    go_wp2
    go_returns
    exact ⟨rfl, Below.refl _ _⟩
  go_enter Try.func11, Try.ntmps11
  go_wp2_with fail
  refine (drawAnswer_any w a len cap zs h).mono ?_
  rintro e w1 ⟨⟨s, t, r, x, d⟩, k, rfl, hq, hn0, hn1, hb⟩
  have hs := hb.size
  clear hq h
  dsimp only
  rcases answer_cases s t r x d k with ⟨V, T⟩ | ⟨hk, V, T⟩ | ⟨hk, V, T⟩ | ⟨rfl, rfl, hk, hk', V, T⟩ | ⟨rfl, hne, hk, hk', V, T⟩ | ⟨hne, hk, hk', V, T⟩
  all_goals
    go_wp2_with (first
      | (go_at_call 25; (with_reducible refine (answer_impl5 T.out _).mono ?_); rintro e w2 ⟨rfl, o1, o2, o3, rfl⟩)
      | (go_at_call 24; (with_reducible refine (answer_spec5 T.out _).mono ?_); rintro e w2 ⟨rfl, o1, o2, o3, rfl⟩)
      | (go_at_call 12; (with_reducible refine (pv_spec V.out _).mono ?_); rintro e w2 ⟨rfl, o1, rfl⟩))
  all_goals
    go_returns
    refine ⟨ret_bool ?_, by go_grown⟩
    first | rfl | omega | (simp <;> omega) | simp_all

end Go.Proofs.Ytnnpabldpjohfaa
