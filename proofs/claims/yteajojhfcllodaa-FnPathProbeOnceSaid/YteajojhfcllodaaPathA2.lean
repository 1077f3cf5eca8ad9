/- The allowance of an address. -/
import Derived.Test.YteajojhfcllodaaPathA
namespace Go.Proofs.Yteajojhfcllodaa
open Go.RowKit

theorem ret_pb {a0 a1 a2 a3 a4 : Int} {a : Bool} {q : Pth} {b : Bool} (h : (⟨a0, a1, a2, a3, a4⟩, a) = (q, b)) :
    Ending.returned (.tuple #[.agg #[.int .i64 a0, .int .i64 a1, .int .i64 a2, .int .i64 a3, .int .i64 a4], .bool a]) = .returned (.tuple #[.agg #[.int .i64 q.s, .int .i64 q.t, .int .i64 q.r, .int .i64 q.x, .int .i64 q.d], .bool b]) := by
  cases h; rfl
theorem ret_p {a0 a1 a2 a3 a4 : Int} {q : Pth} (h : ⟨a0, a1, a2, a3, a4⟩ = q) :
    Ending.returned (.agg #[.int .i64 a0, .int .i64 a1, .int .i64 a2, .int .i64 a3, .int .i64 a4]) = .returned (.agg #[.int .i64 q.s, .int .i64 q.t, .int .i64 q.r, .int .i64 q.x, .int .i64 q.d]) := by
  cases h; rfl

theorem allow_impl (r x : Int) (v : Bool) (w : World) :
    Calls Try.prog 22 #[.int .i64 r, .int .i64 x, .bool v] w fun e w' => e = .returned (.int .i64 (allow r x v)) ∧ w = w' := by
  by_cases hin : (0 ≤ r ∧ r ≤ 9999) ∧ (0 ≤ x ∧ x ≤ 9999)
  · obtain ⟨⟨h1, h2⟩, h3, h4⟩ := hin
    cases v
    all_goals
      go_enter Try.func22, Try.ntmps22
      go_wp2
    all_goals
      go_returns
      refine ⟨ret_int ?_, rfl⟩
      simp [allow, *]
    all_goals omega
  · have hal : allow r x v = 0 := by unfold allow; rw [if_neg hin]
    rcases (show r < 0 ∨ (0 ≤ r ∧ 9999 < r) ∨ (0 ≤ r ∧ r ≤ 9999 ∧ x < 0) ∨ (0 ≤ r ∧ r ≤ 9999 ∧ 0 ≤ x ∧ 9999 < x) from by omega) with h | ⟨h, h'⟩ | ⟨h, h', h''⟩ | ⟨h, h', h'', h'''⟩
    all_goals
      have H := Lib.hid hal
      clear hin hal
      first
        | (have hd : decide (x ≤ 9999) = false := by simp; omega)
        | skip
      go_enter Try.func22, Try.ntmps22
      go_wp2
      go_returns
      exact ⟨ret_int H.out.symm, rfl⟩
theorem allow_spec (r x : Int) (v : Bool) (w : World) :
    Calls Try.prog 38 #[.int .i64 r, .int .i64 x, .bool v] w fun e w' => e = .returned (.int .i64 (allow r x v)) ∧ w = w' := by
  by_cases hin : (0 ≤ r ∧ r ≤ 9999) ∧ (0 ≤ x ∧ x ≤ 9999)
  · obtain ⟨⟨h1, h2⟩, h3, h4⟩ := hin
    cases v
    all_goals
      go_enter Try.func38, Try.ntmps38
      go_wp2
    all_goals
      go_returns
      refine ⟨ret_int ?_, rfl⟩
      simp [allow, *]
    all_goals omega
  · have hal : allow r x v = 0 := by unfold allow; rw [if_neg hin]
    rcases (show r < 0 ∨ (0 ≤ r ∧ 9999 < r) ∨ (0 ≤ r ∧ r ≤ 9999 ∧ x < 0) ∨ (0 ≤ r ∧ r ≤ 9999 ∧ 0 ≤ x ∧ 9999 < x) from by omega) with h | ⟨h, h'⟩ | ⟨h, h', h''⟩ | ⟨h, h', h'', h'''⟩
    all_goals
      have H := Lib.hid hal
      clear hin hal
      first
        | (have hd : decide (x ≤ 9999) = false := by simp; omega)
        | skip
      go_enter Try.func38, Try.ntmps38
      go_wp2
      go_returns
      exact ⟨ret_int H.out.symm, rfl⟩

end Go.Proofs.Yteajojhfcllodaa
