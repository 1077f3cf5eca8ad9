/- The contracts of the operations on paths with the numbers written out. -/
import Derived.Test.YteajojhfcllodaaPathA2
import Derived.Test.YteajojhfcllodaaPathBProbe
import Derived.Test.YteajojhfcllodaaPathBAnswer
import Derived.Test.YteajojhfcllodaaPathBTick
import Derived.Test.YteajojhfcllodaaPathBReceive
import Derived.Test.YteajojhfcllodaaPathBSend
import Derived.Test.YteajojhfcllodaaPathBClose
namespace Go.Proofs.Yteajojhfcllodaa
open Go.RowKit
section
variable {s t r x d S T R X D : Int} {b v : Bool}

theorem probe_impl5 {tok now tmo : Int} (h : probe ⟨s, t, r, x, d⟩ tok now tmo = (⟨S, T, R, X, D⟩, b)) (w : World) :
    Calls Try.prog 12 #[.agg #[.int .i64 s, .int .i64 t, .int .i64 r, .int .i64 x, .int .i64 d], .int .i64 tok, .int .i64 now, .int .i64 tmo] w fun e w' => e = .returned (.tuple #[.agg #[.int .i64 S, .int .i64 T, .int .i64 R, .int .i64 X, .int .i64 D], .bool b]) ∧ New3 w w' :=
  probe_impl s t r x d tok now tmo ⟨S, T, R, X, D⟩ b h w
theorem probe_spec5 {tok now tmo : Int} (h : probe ⟨s, t, r, x, d⟩ tok now tmo = (⟨S, T, R, X, D⟩, b)) (w : World) :
    Calls Try.prog 13 #[.agg #[.int .i64 s, .int .i64 t, .int .i64 r, .int .i64 x, .int .i64 d], .int .i64 tok, .int .i64 now, .int .i64 tmo] w fun e w' => e = .returned (.tuple #[.agg #[.int .i64 S, .int .i64 T, .int .i64 R, .int .i64 X, .int .i64 D], .bool b]) ∧ New3 w w' :=
  probe_spec s t r x d tok now tmo ⟨S, T, R, X, D⟩ b h w
theorem answer_impl5 {tok : Int} (h : answer ⟨s, t, r, x, d⟩ tok = (⟨S, T, R, X, D⟩, b)) (w : World) :
    Calls Try.prog 26 #[.agg #[.int .i64 s, .int .i64 t, .int .i64 r, .int .i64 x, .int .i64 d], .int .i64 tok] w fun e w' => e = .returned (.tuple #[.agg #[.int .i64 S, .int .i64 T, .int .i64 R, .int .i64 X, .int .i64 D], .bool b]) ∧ New3 w w' :=
  answer_impl s t r x d tok ⟨S, T, R, X, D⟩ b h w
theorem answer_spec5 {tok : Int} (h : answer ⟨s, t, r, x, d⟩ tok = (⟨S, T, R, X, D⟩, b)) (w : World) :
    Calls Try.prog 39 #[.agg #[.int .i64 s, .int .i64 t, .int .i64 r, .int .i64 x, .int .i64 d], .int .i64 tok] w fun e w' => e = .returned (.tuple #[.agg #[.int .i64 S, .int .i64 T, .int .i64 R, .int .i64 X, .int .i64 D], .bool b]) ∧ New3 w w' :=
  answer_spec s t r x d tok ⟨S, T, R, X, D⟩ b h w
theorem tick_impl5 {now : Int} (h : tick ⟨s, t, r, x, d⟩ now = ⟨S, T, R, X, D⟩) (w : World) :
    Calls Try.prog 16 #[.agg #[.int .i64 s, .int .i64 t, .int .i64 r, .int .i64 x, .int .i64 d], .int .i64 now] w fun e w' => e = .returned (.agg #[.int .i64 S, .int .i64 T, .int .i64 R, .int .i64 X, .int .i64 D]) ∧ New3 w w' :=
  tick_impl s t r x d now ⟨S, T, R, X, D⟩ h w
theorem tick_spec5 {now : Int} (h : tick ⟨s, t, r, x, d⟩ now = ⟨S, T, R, X, D⟩) (w : World) :
    Calls Try.prog 17 #[.agg #[.int .i64 s, .int .i64 t, .int .i64 r, .int .i64 x, .int .i64 d], .int .i64 now] w fun e w' => e = .returned (.agg #[.int .i64 S, .int .i64 T, .int .i64 R, .int .i64 X, .int .i64 D]) ∧ New3 w w' :=
  tick_spec s t r x d now ⟨S, T, R, X, D⟩ h w
theorem receive_impl5 {size : Int} (h : receive ⟨s, t, r, x, d⟩ size = (⟨S, T, R, X, D⟩, b)) (w : World) :
    Calls Try.prog 20 #[.agg #[.int .i64 s, .int .i64 t, .int .i64 r, .int .i64 x, .int .i64 d], .int .i64 size] w fun e w' => e = .returned (.tuple #[.agg #[.int .i64 S, .int .i64 T, .int .i64 R, .int .i64 X, .int .i64 D], .bool b]) ∧ New3 w w' :=
  receive_impl s t r x d size ⟨S, T, R, X, D⟩ b h w
theorem receive_spec5 {size : Int} (h : receive ⟨s, t, r, x, d⟩ size = (⟨S, T, R, X, D⟩, b)) (w : World) :
    Calls Try.prog 21 #[.agg #[.int .i64 s, .int .i64 t, .int .i64 r, .int .i64 x, .int .i64 d], .int .i64 size] w fun e w' => e = .returned (.tuple #[.agg #[.int .i64 S, .int .i64 T, .int .i64 R, .int .i64 X, .int .i64 D], .bool b]) ∧ New3 w w' :=
  receive_spec s t r x d size ⟨S, T, R, X, D⟩ b h w
theorem send_impl5 {size : Int} (h : send ⟨s, t, r, x, d⟩ size = (⟨S, T, R, X, D⟩, b)) (w : World) :
    Calls Try.prog 24 #[.agg #[.int .i64 s, .int .i64 t, .int .i64 r, .int .i64 x, .int .i64 d], .int .i64 size] w fun e w' => e = .returned (.tuple #[.agg #[.int .i64 S, .int .i64 T, .int .i64 R, .int .i64 X, .int .i64 D], .bool b]) ∧ New3 w w' :=
  send_impl s t r x d size ⟨S, T, R, X, D⟩ b h w
theorem send_spec5 {size : Int} (h : send ⟨s, t, r, x, d⟩ size = (⟨S, T, R, X, D⟩, b)) (w : World) :
    Calls Try.prog 25 #[.agg #[.int .i64 s, .int .i64 t, .int .i64 r, .int .i64 x, .int .i64 d], .int .i64 size] w fun e w' => e = .returned (.tuple #[.agg #[.int .i64 S, .int .i64 T, .int .i64 R, .int .i64 X, .int .i64 D], .bool b]) ∧ New3 w w' :=
  send_spec s t r x d size ⟨S, T, R, X, D⟩ b h w
theorem close_impl5 (h : close ⟨s, t, r, x, d⟩ = ⟨S, T, R, X, D⟩) (w : World) :
    Calls Try.prog 28 #[.agg #[.int .i64 s, .int .i64 t, .int .i64 r, .int .i64 x, .int .i64 d]] w fun e w' => e = .returned (.agg #[.int .i64 S, .int .i64 T, .int .i64 R, .int .i64 X, .int .i64 D]) ∧ New3 w w' :=
  close_impl s t r x d ⟨S, T, R, X, D⟩ h w
theorem close_spec5 (h : close ⟨s, t, r, x, d⟩ = ⟨S, T, R, X, D⟩) (w : World) :
    Calls Try.prog 29 #[.agg #[.int .i64 s, .int .i64 t, .int .i64 r, .int .i64 x, .int .i64 d]] w fun e w' => e = .returned (.agg #[.int .i64 S, .int .i64 T, .int .i64 R, .int .i64 X, .int .i64 D]) ∧ New3 w w' :=
  close_spec s t r x d ⟨S, T, R, X, D⟩ h w
theorem pv_impl (h : okB s t r x d = v) (w : World) : Calls Try.prog 14 #[.agg #[.int .i64 s, .int .i64 t, .int .i64 r, .int .i64 x, .int .i64 d]] w fun e w' => e = .returned (.bool v) ∧ New1 w w' :=
  (pathValid_impl s t r x d w).mono fun _ _ ⟨he, hn⟩ => ⟨by rw [he, h], hn⟩
theorem pv_spec (h : okB s t r x d = v) (w : World) : Calls Try.prog 18 #[.agg #[.int .i64 s, .int .i64 t, .int .i64 r, .int .i64 x, .int .i64 d]] w fun e w' => e = .returned (.bool v) ∧ New1 w w' :=
  (pathValid_spec s t r x d w).mono fun _ _ ⟨he, hn⟩ => ⟨by rw [he, h], hn⟩
end
end Go.Proofs.Yteajojhfcllodaa
