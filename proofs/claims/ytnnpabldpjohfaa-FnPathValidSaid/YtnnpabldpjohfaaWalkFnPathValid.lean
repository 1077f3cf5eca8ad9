/- The walk of the law FnPathValid. -/
import Derived.Test.YtnnpabldpjohfaaDrawP
import Derived.Test.YtnnpabldpjohfaaPathC
import Derived.Test.YtnnpabldpjohfaaLawsPlain
namespace Go.Proofs.Ytnnpabldpjohfaa
open Go.RowKit

set_option maxHeartbeats 16000000 in
theorem walkFnPathValid (w : World) (a : Option Addr) (len cap : Nat) (zs : List Int) (h : IsRow .u8 w a len cap zs) :
    Calls Try.prog 10 #[.slice a len cap] w fun e w' => e = .returned (.bool true) ∧ Below w.heap.size w w' := by
  by_cases hl : 1048576 < len
  · go_enter Try.func10, Try.ntmps10
    go_wp2
    go_returns
    exact ⟨rfl, Below.refl _ _⟩
  go_enter Try.func10, Try.ntmps10
  go_wp2_with fail
  refine (drawValid_any w a len cap zs h).mono ?_
  rintro e w1 ⟨⟨s, t, r, x, d⟩, rfl, hq, hb⟩
  have hs := hb.size
  clear hq h
  dsimp only
  rcases valid_cases s t r x d with V | ⟨V, rfl⟩ | ⟨V, rfl⟩ | ⟨V, h2, h4, hx, hr0, hr1⟩
  all_goals
    go_wp2_with (first
      | (go_at_call 14; (with_reducible refine (pv_impl V.out _).mono ?_); rintro e w2 ⟨rfl, o1, rfl⟩)
      | (go_at_call 12; (with_reducible refine (pv_spec V.out _).mono ?_); rintro e w2 ⟨rfl, o1, rfl⟩))
  all_goals
    go_returns
    refine ⟨ret_bool ?_, by go_grown⟩
    first | rfl | omega | (simp <;> omega) | simp_all

end Go.Proofs.Ytnnpabldpjohfaa
