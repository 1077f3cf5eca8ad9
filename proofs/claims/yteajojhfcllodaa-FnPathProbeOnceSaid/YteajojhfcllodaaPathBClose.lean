/- The contracts of PathClose on paths: what the program's and the reference's functions return, as plain functions of the path's numbers. -/
import Derived.Test.YteajojhfcllodaaPathA2
namespace Go.Proofs.Yteajojhfcllodaa
open Go.RowKit

set_option maxHeartbeats 2000000 in
theorem close_impl (s t r x d : Int) (q : Pth) (hq : close ⟨s, t, r, x, d⟩ = q) (w : World) :
    Calls Try.prog 28 #[.agg #[.int .i64 s, .int .i64 t, .int .i64 r, .int .i64 x, .int .i64 d]] w fun e w' =>
      e = .returned (.agg #[.int .i64 q.s, .int .i64 q.t, .int .i64 q.r, .int .i64 q.x, .int .i64 q.d]) ∧ New3 w w' := by
  have H := Lib.hid hq
  clear hq
  go_enter Try.func28, Try.ntmps28
  go_wp2_with (first
    | (go_at_call 14; refine (pathValid_impl _ _ _ _ _ _).mono ?_; rintro e w1 ⟨rfl, o, rfl⟩)
    | go_in)
  all_goals
    go_returns
    refine ⟨ret_p ?_, _, _, _, rfl⟩
    rw [← H.out]
    clear H
    have hok : okB s t r x d = true → Ok s t r x d := ok_of
    unfold Ok at hok
    simp_all [close, okP, pzero] <;> (try simp only [wrap64] at *) <;> omega

set_option maxHeartbeats 2000000 in
theorem close_spec (s t r x d : Int) (q : Pth) (hq : close ⟨s, t, r, x, d⟩ = q) (w : World) :
    Calls Try.prog 29 #[.agg #[.int .i64 s, .int .i64 t, .int .i64 r, .int .i64 x, .int .i64 d]] w fun e w' =>
      e = .returned (.agg #[.int .i64 q.s, .int .i64 q.t, .int .i64 q.r, .int .i64 q.x, .int .i64 q.d]) ∧ New3 w w' := by
  have H := Lib.hid hq
  clear hq
  go_enter Try.func29, Try.ntmps29
  go_wp2_with (first
    | (go_at_call 18; refine (pathValid_spec _ _ _ _ _ _).mono ?_; rintro e w1 ⟨rfl, o, rfl⟩)
    | go_in)
  all_goals
    go_returns
    refine ⟨ret_p ?_, _, _, _, rfl⟩
    rw [← H.out]
    clear H
    have hok : okB s t r x d = true → Ok s t r x d := ok_of
    unfold Ok at hok
    simp_all [close, okP, pzero] <;> (try simp only [wrap64] at *) <;> omega

end Go.Proofs.Yteajojhfcllodaa
