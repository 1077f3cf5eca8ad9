/- The walk of the law FnSendNextNothing. -/
import Derived.Test.YtmkmaeblnnfheabLawKit
import Derived.Test.YtmkmaeblnnfheabMg6
import Derived.Test.YtmkmaeblnnfheabMg5
import Derived.Test.YtmkmaeblnnfheabMg4
namespace Go.Proofs.Ytmkmaeblnnfheab
open Go.RowKit
attribute [local irreducible] Go.wpQuiet

set_option linter.unusedVariables false in
set_option maxRecDepth 100000 in
set_option maxHeartbeats 8000000 in
theorem walkFnSendNextNothing (w : World) (a : Option Addr) (len cap : Nat) (zs : List Int) (h : IsRow .u8 w a len cap zs) :
    Calls Try.prog 3 #[.slice a len cap] w fun e w' => e = .returned (.bool true) ∧ Below w.heap.size w w' := by
  by_cases hllen : 1048576 < len
  · go_enter Try.func3, Try.ntmps3
    go_wp2
    go_ret
    exact ⟨rfl, Below.refl _ _⟩
  have BEL : Below w.heap.size w w := Below.refl _ _
  go_enter Try.func3, Try.ntmps3
  go_wp2_with fail
  with_reducible refine (drawNext_any _ a len cap zs h).mono ?_
  rintro e w1 ⟨d, f, l, n', LA, LB, A, ca, B, cb, _, rfl, ⟨k, rfl, hk0, hk1⟩, ⟨hd, hA, hB⟩, hI, hJ, hb⟩
  have hsz1 := hb.size
  have BEL := BEL.trans (hb.mono BEL.size)
  have I0 := hid_of (In2.of hI hJ)
  clear hI hJ hb
  clear h
  obtain ⟨⟨⟨d1, f1, l1, n1, LA1, LB1⟩, ⟨o2, d2, f2⟩, b⟩, hx⟩ : ∃ x, sendNext ⟨d, f, l, n', LA, LB⟩ k = x := ⟨_, rfl⟩
  have hlen : LA1.length ≤ 2000000 ∧ LB1.length ≤ 2000000 := by have := sendNext_len ⟨d, f, l, n', LA, LB⟩ k; rw [hx] at this; exact ⟨by have := this.1; dsimp only at this; omega, by have := this.2; dsimp only at this; omega⟩
  obtain ⟨hl1, hl2⟩ := hlen
  have HX := hid_of hx
  clear hx
  go_upto_region 4 with (fail)
  generalize hW : World.alloc w1 _ = w2
  have hb : Below w1.heap.size w1 w2 := by rw [← hW]; exact ba (Below.refl _ _) _
  have I0 := hid_of (I0.out.grow hb)
  have BEL := BEL.trans (hb.mono BEL.size)
  have hsz2 : w1.heap.size + 1 ≤ w2.heap.size := by rw [← hW]; simp
  have X3 : Hid (Own6 w2 w1.heap.size d f l n' A LA.length ca B LB.length cb) := by rw [← hW]; exact hid_of (Own6.newT _ _)
  clear hW hb
  obtain ⟨⟨c30, c31, c32, c33, c34, c35⟩, c3f⟩ := X3.out
  go_wp2_with fail
  clear c30 c31 c32 c33 c34 c35 c3f
  with_reducible refine (snext_i _ _ _ _ LA LB A ca B cb k _ I0.out.a I0.out.b I0.out.ea I0.out.eb (by omega) (by omega)).mono ?_
  rw [HX.out]
  rintro e w3 ⟨⟨_, rfl, A1, c1a, B1, c1b, rfl, hI, hJ, hap⟩, hb⟩
  dsimp only at hI hJ
  have hsz3 := hb.size
  have X3 := hid_of (X3.out.grow hb)
  have I0 := hid_of (I0.out.grow hb)
  have BEL := BEL.trans (hb.mono BEL.size)
  have I1 := hid_of (In2.of hI hJ)
  clear hI hJ hap hb
  go_upto_region 5 with (fail)
  generalize hW : World.alloc (World.alloc w3 _) _ = w4
  have hb : Below w3.heap.size w3 w4 := by rw [← hW]; exact ba (ba (Below.refl _ _) _) _
  have X3 := hid_of (X3.out.grow hb)
  have I0 := hid_of (I0.out.grow hb)
  have I1 := hid_of (I1.out.grow hb)
  have BEL := BEL.trans (hb.mono BEL.size)
  have hsz4 : w3.heap.size + 2 ≤ w4.heap.size := by rw [← hW]; simp
  have X5 : Hid (Own6 w4 w3.heap.size d1 f1 l1 n1 A1 LA1.length c1a B1 LB1.length c1b) := by rw [← hW]; exact hid_of ((Own6.newT _ _).alloc _)
  have X6 : Hid (Own3 w4 (w3.heap.size + 1) o2 d2 f2) := by rw [← hW]; exact hid_of (Own3.newT2 _ _)
  clear hW hb
  obtain ⟨⟨c30, c31, c32, c33, c34, c35⟩, c3f⟩ := X3.out
  go_wp2_with fail
  clear c30 c31 c32 c33 c34 c35 c3f
  with_reducible refine (snext_s _ _ _ _ LA LB A ca B cb k _ I0.out.a I0.out.b I0.out.ea I0.out.eb (by omega) (by omega)).mono ?_
  rw [HX.out]
  rintro e w5 ⟨⟨_, rfl, A2, c2a, B2, c2b, rfl, hI, hJ, hap⟩, hb⟩
  dsimp only at hI hJ
  have hsz5 := hb.size
  have X3 := hid_of (X3.out.grow hb)
  have X5 := hid_of (X5.out.grow hb)
  have X6 := hid_of (X6.out.grow hb)
  have I0 := hid_of (I0.out.grow hb)
  have I1 := hid_of (I1.out.grow hb)
  have BEL := BEL.trans (hb.mono BEL.size)
  have I2 := hid_of (In2.of hI hJ)
  clear hI hJ hap hb
  go_upto_region 6 with (fail)
  generalize hW : World.alloc (World.alloc w5 _) _ = w6
  have hb : Below w5.heap.size w5 w6 := by rw [← hW]; exact ba (ba (Below.refl _ _) _) _
  have X3 := hid_of (X3.out.grow hb)
  have X5 := hid_of (X5.out.grow hb)
  have X6 := hid_of (X6.out.grow hb)
  have I0 := hid_of (I0.out.grow hb)
  have I1 := hid_of (I1.out.grow hb)
  have I2 := hid_of (I2.out.grow hb)
  have BEL := BEL.trans (hb.mono BEL.size)
  have hsz6 : w5.heap.size + 2 ≤ w6.heap.size := by rw [← hW]; simp
  have X8 : Hid (Own6 w6 w5.heap.size d1 f1 l1 n1 A2 LA1.length c2a B2 LB1.length c2b) := by rw [← hW]; exact hid_of ((Own6.newT _ _).alloc _)
  have X9 : Hid (Own3 w6 (w5.heap.size + 1) o2 d2 f2) := by rw [← hW]; exact hid_of (Own3.newT2 _ _)
  clear hW hb
  by_cases hs : SV ⟨d, f, l, n', LA, LB⟩
  rotate_left
  · have HOK : Hid (okS ⟨d, f, l, n', LA, LB⟩ = false) := hid_of (okS_not hs)
    obtain ⟨⟨c30, c31, c32, c33, c34, c35⟩, c3f⟩ := X3.out
    obtain ⟨⟨c50, c51, c52, c53, c54, c55⟩, c5f⟩ := X5.out
    obtain ⟨⟨c60, c61, c62⟩, c6f⟩ := X6.out
    obtain ⟨⟨c80, c81, c82, c83, c84, c85⟩, c8f⟩ := X8.out
    obtain ⟨⟨c90, c91, c92⟩, c9f⟩ := X9.out
    cases b <;> go_wp2_with (first | (go_at_call 16; (with_reducible refine (sameS_any _ _ _ _ _ _ _ _ _ _ _ _ _ _ _ I1.out.a I1.out.b I2.out.a I2.out.b (by omega) (by omega)).mono ?_); rintro e wn ⟨rfl, hb⟩; have X3 := hid_of (X3.out.grow hb); have X5 := hid_of (X5.out.grow hb); have X6 := hid_of (X6.out.grow hb); have X8 := hid_of (X8.out.grow hb); have X9 := hid_of (X9.out.grow hb); have I0 := hid_of (I0.out.grow hb); have I1 := hid_of (I1.out.grow hb); have I2 := hid_of (I2.out.grow hb); have BEL := BEL.trans (hb.mono BEL.size); obtain ⟨⟨c30, c31, c32, c33, c34, c35⟩, c3f⟩ := X3.out; obtain ⟨⟨c50, c51, c52, c53, c54, c55⟩, c5f⟩ := X5.out; obtain ⟨⟨c60, c61, c62⟩, c6f⟩ := X6.out; obtain ⟨⟨c80, c81, c82, c83, c84, c85⟩, c8f⟩ := X8.out; obtain ⟨⟨c90, c91, c92⟩, c9f⟩ := X9.out; clear hb) | (go_at_call 17; (with_reducible refine (sv_v_s HOK.out _ I0.out.a I0.out.b (by omega) (by omega)).mono ?_); rintro e wn ⟨rfl, hb⟩; have X3 := hid_of (X3.out.grow hb); have X5 := hid_of (X5.out.grow hb); have X6 := hid_of (X6.out.grow hb); have X8 := hid_of (X8.out.grow hb); have X9 := hid_of (X9.out.grow hb); have I0 := hid_of (I0.out.grow hb); have I1 := hid_of (I1.out.grow hb); have I2 := hid_of (I2.out.grow hb); have BEL := BEL.trans (hb.mono BEL.size); obtain ⟨⟨c30, c31, c32, c33, c34, c35⟩, c3f⟩ := X3.out; obtain ⟨⟨c50, c51, c52, c53, c54, c55⟩, c5f⟩ := X5.out; obtain ⟨⟨c60, c61, c62⟩, c6f⟩ := X6.out; obtain ⟨⟨c80, c81, c82, c83, c84, c85⟩, c8f⟩ := X8.out; obtain ⟨⟨c90, c91, c92⟩, c9f⟩ := X9.out; clear hb))
    all_goals
      go_ret
      exact ⟨rfl, BEL⟩
  have HOK : Hid (okS ⟨d, f, l, n', LA, LB⟩ = true) := hid_of (okS_iff.2 hs)
  by_cases hk1' : 1 ≤ k
  rotate_left
  · skip
    obtain ⟨⟨c30, c31, c32, c33, c34, c35⟩, c3f⟩ := X3.out
    obtain ⟨⟨c50, c51, c52, c53, c54, c55⟩, c5f⟩ := X5.out
    obtain ⟨⟨c60, c61, c62⟩, c6f⟩ := X6.out
    obtain ⟨⟨c80, c81, c82, c83, c84, c85⟩, c8f⟩ := X8.out
    obtain ⟨⟨c90, c91, c92⟩, c9f⟩ := X9.out
    cases b <;> go_wp2_with (first | (go_at_call 16; (with_reducible refine (sameS_any _ _ _ _ _ _ _ _ _ _ _ _ _ _ _ I1.out.a I1.out.b I2.out.a I2.out.b (by omega) (by omega)).mono ?_); rintro e wn ⟨rfl, hb⟩; have X3 := hid_of (X3.out.grow hb); have X5 := hid_of (X5.out.grow hb); have X6 := hid_of (X6.out.grow hb); have X8 := hid_of (X8.out.grow hb); have X9 := hid_of (X9.out.grow hb); have I0 := hid_of (I0.out.grow hb); have I1 := hid_of (I1.out.grow hb); have I2 := hid_of (I2.out.grow hb); have BEL := BEL.trans (hb.mono BEL.size); obtain ⟨⟨c30, c31, c32, c33, c34, c35⟩, c3f⟩ := X3.out; obtain ⟨⟨c50, c51, c52, c53, c54, c55⟩, c5f⟩ := X5.out; obtain ⟨⟨c60, c61, c62⟩, c6f⟩ := X6.out; obtain ⟨⟨c80, c81, c82, c83, c84, c85⟩, c8f⟩ := X8.out; obtain ⟨⟨c90, c91, c92⟩, c9f⟩ := X9.out; clear hb) | (go_at_call 17; (with_reducible refine (sv_v_s HOK.out _ I0.out.a I0.out.b (by omega) (by omega)).mono ?_); rintro e wn ⟨rfl, hb⟩; have X3 := hid_of (X3.out.grow hb); have X5 := hid_of (X5.out.grow hb); have X6 := hid_of (X6.out.grow hb); have X8 := hid_of (X8.out.grow hb); have X9 := hid_of (X9.out.grow hb); have I0 := hid_of (I0.out.grow hb); have I1 := hid_of (I1.out.grow hb); have I2 := hid_of (I2.out.grow hb); have BEL := BEL.trans (hb.mono BEL.size); obtain ⟨⟨c30, c31, c32, c33, c34, c35⟩, c3f⟩ := X3.out; obtain ⟨⟨c50, c51, c52, c53, c54, c55⟩, c5f⟩ := X5.out; obtain ⟨⟨c60, c61, c62⟩, c6f⟩ := X6.out; obtain ⟨⟨c80, c81, c82, c83, c84, c85⟩, c8f⟩ := X8.out; obtain ⟨⟨c90, c91, c92⟩, c9f⟩ := X9.out; clear hb))
    all_goals
      go_ret
      exact ⟨rfl, BEL⟩
  by_cases hk2' : k ≤ 12
  rotate_left
  · skip
    obtain ⟨⟨c30, c31, c32, c33, c34, c35⟩, c3f⟩ := X3.out
    obtain ⟨⟨c50, c51, c52, c53, c54, c55⟩, c5f⟩ := X5.out
    obtain ⟨⟨c60, c61, c62⟩, c6f⟩ := X6.out
    obtain ⟨⟨c80, c81, c82, c83, c84, c85⟩, c8f⟩ := X8.out
    obtain ⟨⟨c90, c91, c92⟩, c9f⟩ := X9.out
    cases b <;> go_wp2_with (first | (go_at_call 16; (with_reducible refine (sameS_any _ _ _ _ _ _ _ _ _ _ _ _ _ _ _ I1.out.a I1.out.b I2.out.a I2.out.b (by omega) (by omega)).mono ?_); rintro e wn ⟨rfl, hb⟩; have X3 := hid_of (X3.out.grow hb); have X5 := hid_of (X5.out.grow hb); have X6 := hid_of (X6.out.grow hb); have X8 := hid_of (X8.out.grow hb); have X9 := hid_of (X9.out.grow hb); have I0 := hid_of (I0.out.grow hb); have I1 := hid_of (I1.out.grow hb); have I2 := hid_of (I2.out.grow hb); have BEL := BEL.trans (hb.mono BEL.size); obtain ⟨⟨c30, c31, c32, c33, c34, c35⟩, c3f⟩ := X3.out; obtain ⟨⟨c50, c51, c52, c53, c54, c55⟩, c5f⟩ := X5.out; obtain ⟨⟨c60, c61, c62⟩, c6f⟩ := X6.out; obtain ⟨⟨c80, c81, c82, c83, c84, c85⟩, c8f⟩ := X8.out; obtain ⟨⟨c90, c91, c92⟩, c9f⟩ := X9.out; clear hb) | (go_at_call 17; (with_reducible refine (sv_v_s HOK.out _ I0.out.a I0.out.b (by omega) (by omega)).mono ?_); rintro e wn ⟨rfl, hb⟩; have X3 := hid_of (X3.out.grow hb); have X5 := hid_of (X5.out.grow hb); have X6 := hid_of (X6.out.grow hb); have X8 := hid_of (X8.out.grow hb); have X9 := hid_of (X9.out.grow hb); have I0 := hid_of (I0.out.grow hb); have I1 := hid_of (I1.out.grow hb); have I2 := hid_of (I2.out.grow hb); have BEL := BEL.trans (hb.mono BEL.size); obtain ⟨⟨c30, c31, c32, c33, c34, c35⟩, c3f⟩ := X3.out; obtain ⟨⟨c50, c51, c52, c53, c54, c55⟩, c5f⟩ := X5.out; obtain ⟨⟨c60, c61, c62⟩, c6f⟩ := X6.out; obtain ⟨⟨c80, c81, c82, c83, c84, c85⟩, c8f⟩ := X8.out; obtain ⟨⟨c90, c91, c92⟩, c9f⟩ := X9.out; clear hb))
    all_goals
      go_ret
      exact ⟨rfl, BEL⟩
  obtain ⟨hw, hw2⟩ := next_when (s := ⟨d, f, l, n', LA, LB⟩) (k := k) hs hk1'
  rw [← sendNext_valid hs hk1' hk2', HX.out] at hw hw2
  dsimp only at hw hw2
  clear HX hs
  have hcase : LB = [] ∨ LB ≠ [] := Decidable.em _
  rcases hcase with hLB | hLB
  · skip
    have hL0 : LB.length = 0 := by rw [hLB]; rfl
    have e1 : ¬ (0 < LB.length) := by omega
    have e2 : ¬ ((0 : Int) < (LB.length : Int)) := by omega
    clear hL0
    obtain ⟨mv, hmv⟩ : ∃ mv, (if l < (d.size : Int) then l else (d.size : Int)) = mv := ⟨_, rfl⟩
    have HMV : Hid (min (d.size : Int) l = mv ∧ mv ≤ (d.size : Int) ∧ mv ≤ l) := by unfold Hid; rw [← hmv]; split <;> omega
    cases h1 : decide (n' < mv) <;> cases hf : f <;> cases h2 : (n' == (d.size : Int)) <;> cases h3 : decide ((d.size : Int) ≤ l)
    all_goals try (exfalso; have q := HMV.out; have p1 := h1; have p2 := h2; have p3 := h3; simp only [decide_eq_true_eq, decide_eq_false_iff_not, beq_iff_eq, beq_eq_false_iff_ne] at p1 p2 p3; omega)
    all_goals
      have p1 := h1
      have p2 := h2
      have p3 := h3
      simp only [decide_eq_true_eq, decide_eq_false_iff_not, beq_iff_eq, beq_eq_false_iff_ne] at p1 p2 p3
      first | (replace p2 := eq_false p2) | (replace p2 := eq_true p2)
      have hmin := HMV.out.1
      simp [hLB, hmin, p1, p2, p3, hf] at hw
      clear p1 p2 p3 hmin
      subst hw
      subst hf
      clear hLB
      first | (have e5 := hw2 rfl; cases e5) | skip
      clear hw2
      obtain ⟨⟨c30, c31, c32, c33, c34, c35⟩, c3f⟩ := X3.out
      obtain ⟨⟨c50, c51, c52, c53, c54, c55⟩, c5f⟩ := X5.out
      obtain ⟨⟨c60, c61, c62⟩, c6f⟩ := X6.out
      obtain ⟨⟨c80, c81, c82, c83, c84, c85⟩, c8f⟩ := X8.out
      obtain ⟨⟨c90, c91, c92⟩, c9f⟩ := X9.out
      go_wp2_with (first | (go_at_call 16; (with_reducible refine (sameS_any _ _ _ _ _ _ _ _ _ _ _ _ _ _ _ I1.out.a I1.out.b I2.out.a I2.out.b (by omega) (by omega)).mono ?_); rintro e wn ⟨rfl, hb⟩; have X3 := hid_of (X3.out.grow hb); have X5 := hid_of (X5.out.grow hb); have X6 := hid_of (X6.out.grow hb); have X8 := hid_of (X8.out.grow hb); have X9 := hid_of (X9.out.grow hb); have I0 := hid_of (I0.out.grow hb); have I1 := hid_of (I1.out.grow hb); have I2 := hid_of (I2.out.grow hb); have BEL := BEL.trans (hb.mono BEL.size); obtain ⟨⟨c30, c31, c32, c33, c34, c35⟩, c3f⟩ := X3.out; obtain ⟨⟨c50, c51, c52, c53, c54, c55⟩, c5f⟩ := X5.out; obtain ⟨⟨c60, c61, c62⟩, c6f⟩ := X6.out; obtain ⟨⟨c80, c81, c82, c83, c84, c85⟩, c8f⟩ := X8.out; obtain ⟨⟨c90, c91, c92⟩, c9f⟩ := X9.out; clear hb) | (go_at_call 17; (with_reducible refine (sv_v_s HOK.out _ I0.out.a I0.out.b (by omega) (by omega)).mono ?_); rintro e wn ⟨rfl, hb⟩; have X3 := hid_of (X3.out.grow hb); have X5 := hid_of (X5.out.grow hb); have X6 := hid_of (X6.out.grow hb); have X8 := hid_of (X8.out.grow hb); have X9 := hid_of (X9.out.grow hb); have I0 := hid_of (I0.out.grow hb); have I1 := hid_of (I1.out.grow hb); have I2 := hid_of (I2.out.grow hb); have BEL := BEL.trans (hb.mono BEL.size); obtain ⟨⟨c30, c31, c32, c33, c34, c35⟩, c3f⟩ := X3.out; obtain ⟨⟨c50, c51, c52, c53, c54, c55⟩, c5f⟩ := X5.out; obtain ⟨⟨c60, c61, c62⟩, c6f⟩ := X6.out; obtain ⟨⟨c80, c81, c82, c83, c84, c85⟩, c8f⟩ := X8.out; obtain ⟨⟨c90, c91, c92⟩, c9f⟩ := X9.out; clear hb) | (go_at_call 16; (with_reducible refine (sameS_any _ _ _ _ _ _ _ _ _ _ _ _ _ _ _ I1.out.a I1.out.b I0.out.a I0.out.b (by omega) (by omega)).mono ?_); rintro e wn ⟨rfl, hb⟩; have X3 := hid_of (X3.out.grow hb); have X5 := hid_of (X5.out.grow hb); have X6 := hid_of (X6.out.grow hb); have X8 := hid_of (X8.out.grow hb); have X9 := hid_of (X9.out.grow hb); have I0 := hid_of (I0.out.grow hb); have I1 := hid_of (I1.out.grow hb); have I2 := hid_of (I2.out.grow hb); have BEL := BEL.trans (hb.mono BEL.size); obtain ⟨⟨c30, c31, c32, c33, c34, c35⟩, c3f⟩ := X3.out; obtain ⟨⟨c50, c51, c52, c53, c54, c55⟩, c5f⟩ := X5.out; obtain ⟨⟨c60, c61, c62⟩, c6f⟩ := X6.out; obtain ⟨⟨c80, c81, c82, c83, c84, c85⟩, c8f⟩ := X8.out; obtain ⟨⟨c90, c91, c92⟩, c9f⟩ := X9.out; clear hb))
      go_ret
      exact ⟨rfl, BEL⟩
  · skip
    have e1 : 0 < LB.length := List.length_pos_iff.2 hLB
    have e2 : (0 : Int) < (LB.length : Int) := by omega
    obtain ⟨mv, hmv⟩ : ∃ mv, (if l < (d.size : Int) then l else (d.size : Int)) = mv := ⟨_, rfl⟩
    have HMV : Hid (min (d.size : Int) l = mv ∧ mv ≤ (d.size : Int) ∧ mv ≤ l) := by unfold Hid; rw [← hmv]; split <;> omega
    cases h1 : decide (n' < mv) <;> cases hf : f <;> cases h2 : (n' == (d.size : Int)) <;> cases h3 : decide ((d.size : Int) ≤ l)
    all_goals try (exfalso; have q := HMV.out; have p1 := h1; have p2 := h2; have p3 := h3; simp only [decide_eq_true_eq, decide_eq_false_iff_not, beq_iff_eq, beq_eq_false_iff_ne] at p1 p2 p3; omega)
    all_goals
      have p1 := h1
      have p2 := h2
      have p3 := h3
      simp only [decide_eq_true_eq, decide_eq_false_iff_not, beq_iff_eq, beq_eq_false_iff_ne] at p1 p2 p3
      first | (replace p2 := eq_false p2) | (replace p2 := eq_true p2)
      have hmin := HMV.out.1
      simp [hLB, hmin, p1, p2, p3, hf] at hw
      clear p1 p2 p3 hmin
      subst hw
      subst hf
      clear hLB
      first | (have e5 := hw2 rfl; cases e5) | skip
      clear hw2
      obtain ⟨⟨c30, c31, c32, c33, c34, c35⟩, c3f⟩ := X3.out
      obtain ⟨⟨c50, c51, c52, c53, c54, c55⟩, c5f⟩ := X5.out
      obtain ⟨⟨c60, c61, c62⟩, c6f⟩ := X6.out
      obtain ⟨⟨c80, c81, c82, c83, c84, c85⟩, c8f⟩ := X8.out
      obtain ⟨⟨c90, c91, c92⟩, c9f⟩ := X9.out
      go_wp2_with (first | (go_at_call 16; (with_reducible refine (sameS_any _ _ _ _ _ _ _ _ _ _ _ _ _ _ _ I1.out.a I1.out.b I2.out.a I2.out.b (by omega) (by omega)).mono ?_); rintro e wn ⟨rfl, hb⟩; have X3 := hid_of (X3.out.grow hb); have X5 := hid_of (X5.out.grow hb); have X6 := hid_of (X6.out.grow hb); have X8 := hid_of (X8.out.grow hb); have X9 := hid_of (X9.out.grow hb); have I0 := hid_of (I0.out.grow hb); have I1 := hid_of (I1.out.grow hb); have I2 := hid_of (I2.out.grow hb); have BEL := BEL.trans (hb.mono BEL.size); obtain ⟨⟨c30, c31, c32, c33, c34, c35⟩, c3f⟩ := X3.out; obtain ⟨⟨c50, c51, c52, c53, c54, c55⟩, c5f⟩ := X5.out; obtain ⟨⟨c60, c61, c62⟩, c6f⟩ := X6.out; obtain ⟨⟨c80, c81, c82, c83, c84, c85⟩, c8f⟩ := X8.out; obtain ⟨⟨c90, c91, c92⟩, c9f⟩ := X9.out; clear hb) | (go_at_call 17; (with_reducible refine (sv_v_s HOK.out _ I0.out.a I0.out.b (by omega) (by omega)).mono ?_); rintro e wn ⟨rfl, hb⟩; have X3 := hid_of (X3.out.grow hb); have X5 := hid_of (X5.out.grow hb); have X6 := hid_of (X6.out.grow hb); have X8 := hid_of (X8.out.grow hb); have X9 := hid_of (X9.out.grow hb); have I0 := hid_of (I0.out.grow hb); have I1 := hid_of (I1.out.grow hb); have I2 := hid_of (I2.out.grow hb); have BEL := BEL.trans (hb.mono BEL.size); obtain ⟨⟨c30, c31, c32, c33, c34, c35⟩, c3f⟩ := X3.out; obtain ⟨⟨c50, c51, c52, c53, c54, c55⟩, c5f⟩ := X5.out; obtain ⟨⟨c60, c61, c62⟩, c6f⟩ := X6.out; obtain ⟨⟨c80, c81, c82, c83, c84, c85⟩, c8f⟩ := X8.out; obtain ⟨⟨c90, c91, c92⟩, c9f⟩ := X9.out; clear hb) | (go_at_call 16; (with_reducible refine (sameS_any _ _ _ _ _ _ _ _ _ _ _ _ _ _ _ I1.out.a I1.out.b I0.out.a I0.out.b (by omega) (by omega)).mono ?_); rintro e wn ⟨rfl, hb⟩; have X3 := hid_of (X3.out.grow hb); have X5 := hid_of (X5.out.grow hb); have X6 := hid_of (X6.out.grow hb); have X8 := hid_of (X8.out.grow hb); have X9 := hid_of (X9.out.grow hb); have I0 := hid_of (I0.out.grow hb); have I1 := hid_of (I1.out.grow hb); have I2 := hid_of (I2.out.grow hb); have BEL := BEL.trans (hb.mono BEL.size); obtain ⟨⟨c30, c31, c32, c33, c34, c35⟩, c3f⟩ := X3.out; obtain ⟨⟨c50, c51, c52, c53, c54, c55⟩, c5f⟩ := X5.out; obtain ⟨⟨c60, c61, c62⟩, c6f⟩ := X6.out; obtain ⟨⟨c80, c81, c82, c83, c84, c85⟩, c8f⟩ := X8.out; obtain ⟨⟨c90, c91, c92⟩, c9f⟩ := X9.out; clear hb))
      go_ret
      exact ⟨rfl, BEL⟩

end Go.Proofs.Ytmkmaeblnnfheab
