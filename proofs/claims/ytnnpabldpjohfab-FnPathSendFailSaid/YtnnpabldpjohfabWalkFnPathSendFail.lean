/- The walk of the law FnPathSendFail. -/
import Derived.Test.YtnnpabldpjohfabDrawP
import Derived.Test.YtnnpabldpjohfabPathC
import Derived.Test.YtnnpabldpjohfabLawsPlain
namespace Go.Proofs.Ytnnpabldpjohfab
open Go.RowKit

set_option maxHeartbeats 16000000 in
theorem walkFnPathSendFail (w : World) (a : Option Addr) (len cap : Nat) (zs : List Int) (h : IsRow .u8 w a len cap zs) :
    Calls Try.prog 8 #[.slice a len cap] w fun e w' => e = .returned (.bool true) ∧ Below w.heap.size w w' := by
  by_cases hl : 1048576 < len
  · go_enter Try.func8, Try.ntmps8
    go_wp2
    go_returns
    exact ⟨rfl, Below.refl _ _⟩
  go_enter Try.func8, Try.ntmps8
  go_wp2_with fail
  refine (drawSend_any w a len cap zs h).mono ?_
  rintro e w1 ⟨⟨s, t, r, x, d⟩, k, rfl, hq, hn0, hn1, hb⟩
  have hs := hb.size
  clear hq h
  dsimp only
  rcases sendfail_cases s t r x d k with ⟨V, T⟩ | ⟨hk, V, T⟩ | ⟨hk, V, T⟩ | ⟨hs1, hs2, hk, hk', V, T⟩ | ⟨rfl, hk, hk', ha, V, T⟩ | ⟨rfl, hk, hk', ha, V, T⟩ | ⟨rfl, hk, hk', ha, V, T⟩ | ⟨rfl, hk, hk', ha, V, T⟩
  all_goals
    go_wp2_with (first
      | (go_at_call 24; (with_reducible refine (send_impl5 T.out _).mono ?_); rintro e w2 ⟨rfl, o1, o2, o3, rfl⟩)
      | (go_at_call 25; (with_reducible refine (send_spec5 T.out _).mono ?_); rintro e w2 ⟨rfl, o1, o2, o3, rfl⟩)
      | (go_at_call 18; (with_reducible refine (pv_spec V.out _).mono ?_); rintro e w2 ⟨rfl, o1, rfl⟩)
      | (go_at_call 22; (with_reducible refine (allow_impl _ _ _ _).mono ?_); rintro e w2 ⟨rfl, rfl⟩))
  all_goals
    go_returns
    refine ⟨ret_bool ?_, by go_grown⟩
    first | rfl | omega | (simp <;> omega) | simp_all

end Go.Proofs.Ytnnpabldpjohfab
