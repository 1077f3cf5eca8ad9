/- The contracts of PathSend on paths: what the program's and the reference's functions return, as plain functions of the path's numbers. -/
import Derived.Test.YteajojhfcllodaaPathA2
namespace Go.Proofs.Yteajojhfcllodaa
open Go.RowKit

set_option maxHeartbeats 2000000 in
theorem send_impl (s t r x d size : Int) (q : Pth) (b : Bool) (hq : send ⟨s, t, r, x, d⟩ size = (q, b)) (w : World) :
    Calls Try.prog 24 #[.agg #[.int .i64 s, .int .i64 t, .int .i64 r, .int .i64 x, .int .i64 d], .int .i64 size] w fun e w' =>
      e = .returned (.tuple #[.agg #[.int .i64 q.s, .int .i64 q.t, .int .i64 q.r, .int .i64 q.x, .int .i64 q.d], .bool b]) ∧ New3 w w' := by
  have H := Lib.hid hq
  clear hq
  go_enter Try.func24, Try.ntmps24
  go_wp2_with (first
    | (go_at_call 14; refine (pathValid_impl _ _ _ _ _ _).mono ?_; rintro e w1 ⟨rfl, o, rfl⟩)
    | (go_at_call 22; refine (allow_impl _ _ _ _).mono ?_; rintro e w2 ⟨rfl, rfl⟩)
    | go_in)
  all_goals
    go_returns
    refine ⟨ret_pb ?_, _, _, _, rfl⟩
    rw [← H.out]
    clear H
    have hok : okB s t r x d = true → Ok s t r x d := ok_of
    unfold Ok at hok
    simp_all [send, okP, pzero] <;> (try simp only [wrap64] at *) <;> omega

set_option maxHeartbeats 2000000 in
theorem send_spec (s t r x d size : Int) (q : Pth) (b : Bool) (hq : send ⟨s, t, r, x, d⟩ size = (q, b)) (w : World) :
    Calls Try.prog 25 #[.agg #[.int .i64 s, .int .i64 t, .int .i64 r, .int .i64 x, .int .i64 d], .int .i64 size] w fun e w' =>
      e = .returned (.tuple #[.agg #[.int .i64 q.s, .int .i64 q.t, .int .i64 q.r, .int .i64 q.x, .int .i64 q.d], .bool b]) ∧ New3 w w' := by
  have H := Lib.hid hq
  clear hq
  go_enter Try.func25, Try.ntmps25
  go_wp2_with (first
    | (go_at_call 18; refine (pathValid_spec _ _ _ _ _ _).mono ?_; rintro e w1 ⟨rfl, o, rfl⟩)
    | (go_at_call 38; refine (allow_spec _ _ _ _).mono ?_; rintro e w2 ⟨rfl, rfl⟩)
    | go_in)
  all_goals
    go_returns
    refine ⟨ret_pb ?_, _, _, _, rfl⟩
    rw [← H.out]
    clear H
    have hok : okB s t r x d = true → Ok s t r x d := ok_of
    unfold Ok at hok
    simp_all [send, okP, pzero] <;> (try simp only [wrap64] at *) <;> omega

end Go.Proofs.Yteajojhfcllodaa
