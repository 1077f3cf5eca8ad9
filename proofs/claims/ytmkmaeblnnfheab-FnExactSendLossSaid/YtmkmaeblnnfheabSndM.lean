/- The least of three numbers. -/
import Derived.Test.YtmkmaeblnnfheabSndE
namespace Go.Proofs.Ytmkmaeblnnfheab
open Go.RowKit
theorem run_min3 (ats : Array TypeId) (ty : TypeId) (a b c : Int) (w : World) : (Builtin.min_ ats ty #[.int .i64 a, .int .i64 b, .int .i64 c]).run Try.prog w = .ok (.int .i64 (if c < (if b < a then b else a) then c else (if b < a then b else a))) w := by
  show Sem.run _ (List.foldlM Builtin.min2 (.int .i64 a) [.int .i64 b, .int .i64 c]) w = _
  simp only [List.foldlM]
  simp [Builtin.min2]
theorem run_min3_v {ats : Array TypeId} {ty : TypeId} {a b c m1 m2 : Int} (h1 : (if b < a then b else a) = m1) (h2 : (if c < m1 then c else m1) = m2) (w : World) : (Builtin.min_ ats ty #[.int .i64 a, .int .i64 b, .int .i64 c]).run Try.prog w = .ok (.int .i64 m2) w := by
  rw [run_min3, h1, h2]
end Go.Proofs.Ytmkmaeblnnfheab
