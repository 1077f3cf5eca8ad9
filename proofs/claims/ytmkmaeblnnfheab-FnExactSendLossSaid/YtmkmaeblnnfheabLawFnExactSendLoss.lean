/- The law FnExactSendLoss answers true for every input, and leaves its arguments as they were. Its arguments: any sending side of a stream, any part; no condition. -/
import Derived.Test.YtmkmaeblnnfheabRowKit
import Derived.Test.YtmkmaeblnnfheabHead
import Derived.Test.YtmkmaeblnnfheabWalkFnExactSendLoss
import Derived.Test.YtmkmaeblnnfheabSendRow
namespace Go.Proofs.Ytmkmaeblnnfheab.lawFnExactSendLoss
open Go.ChangeShapes Go.WideShapes Go.ChangeAt Go.RowKit Go.Proofs.Ytmkmaeblnnfheab
set_option linter.unusedVariables false

set_option maxRecDepth 100000 in
theorem lifted (os : Os) (started : os.Started) (H : Type) (enc : TypeId × Value → H) :
    ReturnsInHanded {} Try.checked os 4 .any (Rows.fnExactSendLossSpec.pre6 enc Try.prog Try.f4 Rows.fnExactSendLossRow.domain false) (Rows.fnExactSendLossSpec.post enc Try.prog Try.f4 false true false false) := by
  refine returnsInHanded_of_change (C := Try.checked) own started (by kernel_rfl) Try.func4
    (ChangeSpec.witness6 (enc := enc) (C := Try.checked) false ⟨#[], #[.agg #[.string ⟨#[]⟩, .bool false, .int .i64 0, .int .i64 0, .slice none 0 0, .slice none 0 0], .agg #[.int .i64 0, .string ⟨#[]⟩, .bool false]], []⟩ 8 (by kernel_rfl) (by kernel_rfl) (by kernel_rfl) (by kernel_rfl)) ?_
  intro W base args ds gs before hval0 hW hcnd _
  have hval : ∀ (j : Nat) t v, Try.f4.params[j]? = some t → args[j]? = some v → Value.okWide Try.prog W .any base t v := hval0
  have hW' := hW
  obtain ⟨p, q, hA0, hV, rfl, hfz, hnd⟩ := hW
  have hA : DataW.TrodAll enc Try.prog W 0 (fun _ => true) true Try.f4.params.toList args.toList ds p := hA0
  rw [Try.params4] at hA hval
  obtain ⟨v0, vs0, d0, ds0, p0, q0, hargs, rfl, rfl, h0, r0⟩ := trodAll_cons hA
  obtain ⟨v1, vs1, d1, ds1, p1, q1, rfl, rfl, rfl, h1, r1⟩ := trodAll_cons r0
  obtain ⟨rfl, rfl, rfl⟩ := trodAll_nil r1
  obtain rfl : args = #[v0, v1] := by cases args; simp_all
  obtain ⟨rfl, rfl⟩ := trodVars_none hV
  have k0 := h0
  have lt0 : ∀ x ∈ p0, x.block < W.heap.size := by obtain ⟨m, hm⟩ := k0; exact DataW.trod_lt m _ _ _ hm
  obtain ⟨a0d, a0f, a0l, a0n, a0LA, a0LB, a0A, a0ca, a0B, a0cb, rfl, m0d, m0a, m0b, w0a, w0b, z0a, z0b⟩ := send_open Try.underlying37 (by kernel_rfl) (by kernel_rfl) rfl rfl rfl rfl rfl rfl Try.underlying9 Try.underlying4 Try.underlying3 Try.underlying35 Try.underlying87 (by kernel_rfl) (by kernel_rfl) rfl rfl (hval 0 37 v0 rfl rfl) h0
  have k1 := h1
  have lt1 : ∀ x ∈ p1, x.block < W.heap.size := by obtain ⟨m, hm⟩ := k1; exact DataW.trod_lt m _ _ _ hm
  obtain ⟨a1o, a1d, a1f, rfl, m1d⟩ := part_open Try.underlying38 (by kernel_rfl) (by kernel_rfl) rfl rfl rfl Try.underlying9 Try.underlying4 Try.underlying3 (hval 1 38 v1 rfl rfl) h1
  clear hA0 hval0
  refine (walkFnExactSendLoss W a0d a0f a0l a0n a0LA a0LB a0A a0ca a0B a0cb m0d m0a m0b w0a w0b z0a z0b a1o a1d a1f m1d).mono fun e W' ⟨he, bel⟩ => ?_
  subst he
  exact ⟨_, rfl, _, _, _, [], _, [], hW', trodAll_mk1 (shut_bool Try.underlying4 _), (trodAll_cons_mk (Below.trod laidOut (by kernel_rfl) (of_decide_eq_true (by kernel_rfl)) k0 bel lt0) (trodAll_cons_mk (Below.trod laidOut (by kernel_rfl) (of_decide_eq_true (by kernel_rfl)) k1 bel lt1) trodAll_mk0)), rfl, bel.frame _, fun h => by cases h⟩

theorem closed : joinedFacts Try.prog 4 Try.f4 Rows.fnExactSendLossSpec Rows.fnExactSendLossRow = true := by
  unfold joinedFacts
  rw [h_mayEnter, h_liftsFinal, h_make]
  show _ = true
  kernel_rfl

theorem over : Rows.fnExactSendLossRow.holds Try.pinned (OpenSpec.ofChange Rows.fnExactSendLossSpec) :=
  OpenClaim.holds_of_wide 4 Try.f4 rfl rfl rfl rfl rfl rfl rfl ⟨rfl, rfl, rfl, rfl, rfl⟩ rfl rfl rfl rfl rfl (by kernel_rfl) Try.func4 closed
    (of_decide_eq_true (by kernel_rfl)) (by unfold Func.isWrapper; first | (rw [if_pos (by decide +kernel)]; kernel_rfl) | (rw [if_neg (by decide +kernel)]; exact ⟨rfl, rfl⟩))
    (fun os started H enc _ => lifted os started H enc)

theorem proved : Rows.FnExactSendLossSaid := over
#print axioms proved
end Go.Proofs.Ytmkmaeblnnfheab.lawFnExactSendLoss
