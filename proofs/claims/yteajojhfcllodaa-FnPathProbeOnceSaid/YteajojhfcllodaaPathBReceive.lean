/- The contracts of PathReceive on paths: what the program's and the reference's functions return, as plain functions of the path's numbers. -/
import Derived.Test.YteajojhfcllodaaPathA2
namespace Go.Proofs.Yteajojhfcllodaa
open Go.RowKit

set_option maxHeartbeats 2000000 in
theorem receive_impl (s t r x d size : Int) (q : Pth) (b : Bool) (hq : receive ⟨s, t, r, x, d⟩ size = (q, b)) (w : World) :
    Calls Try.prog 20 #[.agg #[.int .i64 s, .int .i64 t, .int .i64 r, .int .i64 x, .int .i64 d], .int .i64 size] w fun e w' =>
      e = .returned (.tuple #[.agg #[.int .i64 q.s, .int .i64 q.t, .int .i64 q.r, .int .i64 q.x, .int .i64 q.d], .bool b]) ∧ New3 w w' := by
  have H := Lib.hid hq
  clear hq
  rcases (show (okB s t r x d = true ∧ 0 ≤ r ∧ r ≤ 9999 ∧ 1 ≤ size ∧ size ≤ 99) ∨ okB s t r x d = false ∨ size < 1 ∨ (1 ≤ size ∧ 99 < size) from by
    cases h : okB s t r x d with
    | false => exact .inr (.inl rfl)
    | true =>
      have hk := ok_of h
      unfold Ok at hk
      rcases (show (1 ≤ size ∧ size ≤ 99) ∨ size < 1 ∨ (1 ≤ size ∧ 99 < size) from by omega) with h | h | h
      · exact .inl ⟨rfl, by omega, by omega, h.1, h.2⟩
      · exact .inr (.inr (.inl h))
      · exact .inr (.inr (.inr h))) with ⟨hv, hr0, hr1, hz0, hz1⟩ | hv | hz | ⟨hz, hz'⟩
  case' inr.inr.inr => have hd : decide (size ≤ 99) = false := by simp; omega
  all_goals
    go_enter Try.func20, Try.ntmps20
    go_wp2_with (first
      | (go_at_call 14; refine (pathValid_impl _ _ _ _ _ _).mono ?_; rintro e w1 ⟨rfl, o, rfl⟩)
      | go_in)
  all_goals
    go_returns
    refine ⟨ret_pb ?_, _, _, _, rfl⟩
    rw [← H.out]
    clear H
    simp_all [receive, okP, pzero] <;> omega

set_option maxHeartbeats 2000000 in
theorem receive_spec (s t r x d size : Int) (q : Pth) (b : Bool) (hq : receive ⟨s, t, r, x, d⟩ size = (q, b)) (w : World) :
    Calls Try.prog 21 #[.agg #[.int .i64 s, .int .i64 t, .int .i64 r, .int .i64 x, .int .i64 d], .int .i64 size] w fun e w' =>
      e = .returned (.tuple #[.agg #[.int .i64 q.s, .int .i64 q.t, .int .i64 q.r, .int .i64 q.x, .int .i64 q.d], .bool b]) ∧ New3 w w' := by
  have H := Lib.hid hq
  clear hq
  rcases (show (okB s t r x d = true ∧ 0 ≤ r ∧ r ≤ 9999 ∧ 1 ≤ size ∧ size ≤ 99) ∨ okB s t r x d = false ∨ size < 1 ∨ (1 ≤ size ∧ 99 < size) from by
    cases h : okB s t r x d with
    | false => exact .inr (.inl rfl)
    | true =>
      have hk := ok_of h
      unfold Ok at hk
      rcases (show (1 ≤ size ∧ size ≤ 99) ∨ size < 1 ∨ (1 ≤ size ∧ 99 < size) from by omega) with h | h | h
      · exact .inl ⟨rfl, by omega, by omega, h.1, h.2⟩
      · exact .inr (.inr (.inl h))
      · exact .inr (.inr (.inr h))) with ⟨hv, hr0, hr1, hz0, hz1⟩ | hv | hz | ⟨hz, hz'⟩
  case' inr.inr.inr => have hd : decide (size ≤ 99) = false := by simp; omega
  all_goals
    go_enter Try.func21, Try.ntmps21
    go_wp2_with (first
      | (go_at_call 18; refine (pathValid_spec _ _ _ _ _ _).mono ?_; rintro e w1 ⟨rfl, o, rfl⟩)
      | go_in)
  all_goals
    go_returns
    refine ⟨ret_pb ?_, _, _, _, rfl⟩
    rw [← H.out]
    clear H
    simp_all [receive, okP, pzero] <;> omega

end Go.Proofs.Yteajojhfcllodaa
