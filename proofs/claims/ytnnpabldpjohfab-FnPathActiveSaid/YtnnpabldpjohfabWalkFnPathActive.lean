/- The walk of the law FnPathActive. -/
import Derived.Test.YtnnpabldpjohfabDrawP
import Derived.Test.YtnnpabldpjohfabPathC
import Derived.Test.YtnnpabldpjohfabLawsPlain
namespace Go.Proofs.Ytnnpabldpjohfab
open Go.RowKit

set_option maxHeartbeats 16000000 in
theorem walkFnPathActive (w : World) (a : Option Addr) (len cap : Nat) (zs : List Int) (h : IsRow .u8 w a len cap zs) (a1 : Option Addr) (len1 cap1 : Nat) (zs1 : List Int) (h1 : IsRow .u8 w a1 len1 cap1 zs1) :
    Calls Try.prog 6 #[.slice a len cap, .slice a1 len1 cap1] w fun e w' => e = .returned (.bool true) ∧ Below w.heap.size w w' := by
  have hl0 : (len1 : Int) ≤ 9223372036854775807 := by rcases h1 with ⟨_, rfl, _⟩ | ⟨_, _, hle, hm, _⟩ <;> (try unfold maxLen at hm) <;> omega
  clear h1
  by_cases hl : 1048576 < len
  · go_enter Try.func6, Try.ntmps6
    go_wp2
    go_returns
    exact ⟨rfl, Below.refl _ _⟩
  by_cases hl1 : 1048576 < len1
  · go_enter Try.func6, Try.ntmps6
    go_wp2
    go_returns
    exact ⟨rfl, Below.refl _ _⟩
  go_enter Try.func6, Try.ntmps6
  go_wp2_with fail
  refine (drawTick_any w a len cap zs h).mono ?_
  rintro e w1 ⟨⟨s, t, r, x, d⟩, n, rfl, hq, hn0, hn1, hb⟩
  have hs := hb.size
  clear hq h
  dsimp only
  rcases active_cases s t r x d n with ⟨V, T⟩ | ⟨hne, S', T', R', X', D', V, T⟩ | ⟨rfl, hn, V, T⟩ | ⟨rfl, hn, V, T⟩ | ⟨rfl, hn, hn', V, T⟩
  case' inr.inr.inl | inr.inr.inr.inl | inr.inr.inr.inr =>
    obtain ⟨R, b, U0⟩ := receive_two V.out (k := 1 + (len1 : Int) % 99) (by omega) (by omega)
    have U := hide U0
    clear U0
  all_goals
    go_wp2_with (first
      | (go_at_call 16; (with_reducible refine (tick_impl5 T.out _).mono ?_); rintro e w2 ⟨rfl, o1, o2, o3, rfl⟩)
      | (go_at_call 17; (with_reducible refine (tick_spec5 T.out _).mono ?_); rintro e w2 ⟨rfl, o1, o2, o3, rfl⟩)
      | (go_at_call 18; (with_reducible refine (pv_spec V.out _).mono ?_); rintro e w2 ⟨rfl, o1, rfl⟩)
      | (go_at_call 20; (with_reducible refine (receive_impl5 U.out _).mono ?_); rintro e w2 ⟨rfl, o1, o2, o3, rfl⟩))
  all_goals
    go_returns
    refine ⟨ret_bool ?_, by go_grown⟩
    first | rfl | omega | (simp <;> omega) | simp_all

end Go.Proofs.Ytnnpabldpjohfab
