/- The walk of the law FnPathReceive. -/
import Derived.Test.YtnnpabldpjohfabDrawP
import Derived.Test.YtnnpabldpjohfabPathC
import Derived.Test.YtnnpabldpjohfabLawsPlain
import Derived.Deep.QuietTactic
import Derived.BigQuiet
namespace Go.Proofs.Ytnnpabldpjohfab
open Go.RowKit

theorem below_drewN {B : Nat} {a w : World} (h : Below B a w) (n : Nat) : Below B a (w.drewN n) := ⟨h.os, h.tape, h.output, h.size, h.block⟩

set_option maxHeartbeats 16000000 in
theorem walkFnPathReceive (w : World) (a : Option Addr) (len cap : Nat) (zs : List Int) (h : IsRow .u8 w a len cap zs) :
    Calls Try.prog 5 #[.slice a len cap] w fun e w' => e = .returned (.bool true) ∧ Below w.heap.size w w' := by
  by_cases hl : 1048576 < len
  · go_enter Try.func5, Try.ntmps5
    go_wp2
    go_returns
    exact ⟨rfl, Below.refl _ _⟩
  go_enter Try.func5, Try.ntmps5
  go_wp2_with fail
  refine (drawReceive_any w a len cap zs h).mono ?_
  rintro e w1 ⟨⟨s, t, r, x, d⟩, k, rfl, hq, hn0, hn1, hb⟩
  have hs := hb.size
  clear hq h
  dsimp only
  rcases receive_cases s t r x d k with T | T | ⟨hr0, hr1, hk, hk', T, M⟩
  all_goals
    go_wp2_with (first
      | (go_at_call 20; (with_reducible refine (receive_impl5 T.out _).mono ?_); rintro e w2 ⟨rfl, o1, o2, o3, rfl⟩)
      | (go_at_call 21; (with_reducible refine (receive_spec5 T.out _).mono ?_); rintro e w2 ⟨rfl, o1, o2, o3, rfl⟩)
      | (go_at_call 22; (with_reducible refine (allow_impl _ _ _ _).mono ?_); rintro e w2 ⟨rfl, rfl⟩))
  · go_returns
    refine ⟨ret_bool ?_, by go_grown⟩
    rfl
  · go_returns
    refine ⟨ret_bool ?_, by go_grown⟩
    rfl
  · have HM := hide M
    clear M
    go_quiet ((go_at_call 22; exact Calls.quiet_of_same ((allow_impl _ _ _ _).mono fun _ _ ⟨h1, h2⟩ => ⟨h1, h2.symm⟩)))
    go_wp2
    all_goals
      go_returns
      refine ⟨ret_bool ?_, below_drewN (by go_grown) _⟩
      first | rfl | omega | (simp; exact HM.out _) | simp_all

end Go.Proofs.Ytnnpabldpjohfab
