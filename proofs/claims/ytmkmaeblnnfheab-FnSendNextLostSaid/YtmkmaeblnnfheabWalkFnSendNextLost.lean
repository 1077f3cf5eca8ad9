/- The walk of the law FnSendNextLost. -/
import Derived.Test.YtmkmaeblnnfheabLawKit
import Derived.Test.YtmkmaeblnnfheabMg6
import Derived.Test.YtmkmaeblnnfheabMg5
import Derived.Test.YtmkmaeblnnfheabMg4
import Derived.Test.YtmkmaeblnnfheabLawKit3
namespace Go.Proofs.Ytmkmaeblnnfheab
open Go.RowKit
attribute [local irreducible] Go.wpQuiet

set_option linter.unusedVariables false in
set_option maxRecDepth 100000 in
set_option maxHeartbeats 8000000 in
theorem walkFnSendNextLost (w : World) (a : Option Addr) (len cap : Nat) (zs : List Int) (h : IsRow .u8 w a len cap zs) :
    Calls Try.prog 6 #[.slice a len cap] w fun e w' => e = .returned (.bool true) ∧ Below w.heap.size w w' := by
  by_cases hllen : 1048576 < len
  · go_enter Try.func6, Try.ntmps6
    go_wp2
    go_ret
    exact ⟨rfl, Below.refl _ _⟩
  have BEL : Below w.heap.size w w := Below.refl _ _
  go_enter Try.func6, Try.ntmps6
  go_wp2_with fail
  with_reducible refine (drawNext_any _ a len cap zs h).mono ?_
  rintro e w1 ⟨d, f, l, n', LA, LB, A, ca, B, cb, _, rfl, ⟨k, rfl, hk0, hk1⟩, ⟨hd, hA, hB⟩, hI, hJ, hb⟩
  have hsz1 := hb.size
  have BEL := BEL.trans (hb.mono BEL.size)
  have I0 := hid_of (In2.of hI hJ)
  clear hI hJ hb
  clear h
  obtain ⟨⟨⟨d1, f1, l1, n1, LA1, LB1⟩, ⟨o2, d2, f2⟩, b⟩, hx⟩ : ∃ x, sendNext ⟨d, f, l, n', LA, LB⟩ k = x := ⟨_, rfl⟩
  have hlen : LA1.length ≤ 2000000 ∧ LB1.length ≤ 2000000 := by have := sendNext_len ⟨d, f, l, n', LA, LB⟩ k; rw [hx] at this; exact ⟨by have := this.1; dsimp only at this; omega, by have := this.2; dsimp only at this; omega⟩
  obtain ⟨hl1, hl2⟩ := hlen
  have HX := hid_of hx
  clear hx
  go_upto_region 4 with (fail)
  generalize hW : World.alloc w1 _ = w2
  have hb : Below w1.heap.size w1 w2 := by rw [← hW]; exact ba (Below.refl _ _) _
  have I0 := hid_of (I0.out.grow hb)
  have BEL := BEL.trans (hb.mono BEL.size)
  have hsz2 : w1.heap.size + 1 ≤ w2.heap.size := by rw [← hW]; simp
  have X3 : Hid (Own6 w2 w1.heap.size d f l n' A LA.length ca B LB.length cb) := by rw [← hW]; exact hid_of (Own6.newT _ _)
  clear hW hb
  obtain ⟨⟨c30, c31, c32, c33, c34, c35⟩, c3f⟩ := X3.out
  go_wp2_with fail
  clear c30 c31 c32 c33 c34 c35 c3f
  with_reducible refine (snext_i _ _ _ _ LA LB A ca B cb k _ I0.out.a I0.out.b I0.out.ea I0.out.eb (by omega) (by omega)).mono ?_
  rw [HX.out]
  rintro e w3 ⟨⟨_, rfl, A1, c1a, B1, c1b, rfl, hI, hJ, hap⟩, hb⟩
  dsimp only at hI hJ
  have hsz3 := hb.size
  have X3 := hid_of (X3.out.grow hb)
  have I0 := hid_of (I0.out.grow hb)
  have BEL := BEL.trans (hb.mono BEL.size)
  have I1 := hid_of (In2.of hI hJ)
  clear hI hJ hap hb
  go_upto_region 5 with (fail)
  generalize hW : World.alloc (World.alloc w3 _) _ = w4
  have hb : Below w3.heap.size w3 w4 := by rw [← hW]; exact ba (ba (Below.refl _ _) _) _
  have X3 := hid_of (X3.out.grow hb)
  have I0 := hid_of (I0.out.grow hb)
  have I1 := hid_of (I1.out.grow hb)
  have BEL := BEL.trans (hb.mono BEL.size)
  have hsz4 : w3.heap.size + 2 ≤ w4.heap.size := by rw [← hW]; simp
  have X5 : Hid (Own6 w4 w3.heap.size d1 f1 l1 n1 A1 LA1.length c1a B1 LB1.length c1b) := by rw [← hW]; exact hid_of ((Own6.newT _ _).alloc _)
  have X6 : Hid (Own3 w4 (w3.heap.size + 1) o2 d2 f2) := by rw [← hW]; exact hid_of (Own3.newT2 _ _)
  clear hW hb
  obtain ⟨⟨c30, c31, c32, c33, c34, c35⟩, c3f⟩ := X3.out
  go_wp2_with fail
  clear c30 c31 c32 c33 c34 c35 c3f
  with_reducible refine (snext_s _ _ _ _ LA LB A ca B cb k _ I0.out.a I0.out.b I0.out.ea I0.out.eb (by omega) (by omega)).mono ?_
  rw [HX.out]
  rintro e w5 ⟨⟨_, rfl, A2, c2a, B2, c2b, rfl, hI, hJ, hap⟩, hb⟩
  dsimp only at hI hJ
  have hsz5 := hb.size
  have X3 := hid_of (X3.out.grow hb)
  have X5 := hid_of (X5.out.grow hb)
  have X6 := hid_of (X6.out.grow hb)
  have I0 := hid_of (I0.out.grow hb)
  have I1 := hid_of (I1.out.grow hb)
  have BEL := BEL.trans (hb.mono BEL.size)
  have I2 := hid_of (In2.of hI hJ)
  clear hI hJ hap hb
  go_upto_region 6 with (fail)
  generalize hW : World.alloc (World.alloc w5 _) _ = w6
  have hb : Below w5.heap.size w5 w6 := by rw [← hW]; exact ba (ba (Below.refl _ _) _) _
  have X3 := hid_of (X3.out.grow hb)
  have X5 := hid_of (X5.out.grow hb)
  have X6 := hid_of (X6.out.grow hb)
  have I0 := hid_of (I0.out.grow hb)
  have I1 := hid_of (I1.out.grow hb)
  have I2 := hid_of (I2.out.grow hb)
  have BEL := BEL.trans (hb.mono BEL.size)
  have hsz6 : w5.heap.size + 2 ≤ w6.heap.size := by rw [← hW]; simp
  have X8 : Hid (Own6 w6 w5.heap.size d1 f1 l1 n1 A2 LA1.length c2a B2 LB1.length c2b) := by rw [← hW]; exact hid_of ((Own6.newT _ _).alloc _)
  have X9 : Hid (Own3 w6 (w5.heap.size + 1) o2 d2 f2) := by rw [← hW]; exact hid_of (Own3.newT2 _ _)
  clear hW hb
  cases b with
  | false =>
    obtain ⟨⟨c30, c31, c32, c33, c34, c35⟩, c3f⟩ := X3.out
    obtain ⟨⟨c50, c51, c52, c53, c54, c55⟩, c5f⟩ := X5.out
    obtain ⟨⟨c60, c61, c62⟩, c6f⟩ := X6.out
    obtain ⟨⟨c80, c81, c82, c83, c84, c85⟩, c8f⟩ := X8.out
    obtain ⟨⟨c90, c91, c92⟩, c9f⟩ := X9.out
    go_wp2_with (go_at_call 16; (with_reducible refine (sameS_any _ _ _ _ _ _ _ _ _ _ _ _ _ _ _ I1.out.a I1.out.b I2.out.a I2.out.b (by omega) (by omega)).mono ?_); rintro e wn ⟨rfl, hb⟩; have X3 := hid_of (X3.out.grow hb); have X5 := hid_of (X5.out.grow hb); have X6 := hid_of (X6.out.grow hb); have X8 := hid_of (X8.out.grow hb); have X9 := hid_of (X9.out.grow hb); have I0 := hid_of (I0.out.grow hb); have I1 := hid_of (I1.out.grow hb); have I2 := hid_of (I2.out.grow hb); have BEL := BEL.trans (hb.mono BEL.size); obtain ⟨⟨c30, c31, c32, c33, c34, c35⟩, c3f⟩ := X3.out; obtain ⟨⟨c50, c51, c52, c53, c54, c55⟩, c5f⟩ := X5.out; obtain ⟨⟨c60, c61, c62⟩, c6f⟩ := X6.out; obtain ⟨⟨c80, c81, c82, c83, c84, c85⟩, c8f⟩ := X8.out; obtain ⟨⟨c90, c91, c92⟩, c9f⟩ := X9.out; clear hb)
    go_ret
    exact ⟨rfl, BEL⟩
  | true =>
    obtain ⟨hs, ⟨hk2, hk3⟩, hnx, hs1, hp, hsz, hlim⟩ := sendNext_yes HX.out
    obtain ⟨⟨ho0, ho1⟩, hd2, hl0, hl3⟩ := hp.bd hs1
    dsimp only at ho0 ho1 hd2 hl0 hl3 hsz hlim
    have hcase : LB = [] ∨ ∃ r T, LB = r :: T := by
      cases LB with
      | nil => exact .inl rfl
      | cons r T => exact .inr ⟨r, T, rfl⟩
    rcases hcase with hLB | ⟨r, T, hLB⟩
    · have hL0 : LB.length = 0 := by rw [hLB]; rfl
      have e1 : (LB.length == 0) = true := by rw [hL0]; rfl
      have e2 : ((LB.length : Int) == 0) = true := by rw [hL0]; rfl
      have e3 : ¬ (0 < LB.length) := by omega
      have e4 : ¬ ((0 : Int) < (LB.length : Int)) := by omega
      clear hs hs1 hp hnx hLB hL0
      obtain ⟨⟨c30, c31, c32, c33, c34, c35⟩, c3f⟩ := X3.out
      obtain ⟨⟨c50, c51, c52, c53, c54, c55⟩, c5f⟩ := X5.out
      obtain ⟨⟨c60, c61, c62⟩, c6f⟩ := X6.out
      obtain ⟨⟨c80, c81, c82, c83, c84, c85⟩, c8f⟩ := X8.out
      obtain ⟨⟨c90, c91, c92⟩, c9f⟩ := X9.out
      go_wp2_with (go_at_call 16; (with_reducible refine (sameS_any _ _ _ _ _ _ _ _ _ _ _ _ _ _ _ I1.out.a I1.out.b I2.out.a I2.out.b (by omega) (by omega)).mono ?_); rintro e wn ⟨rfl, hb⟩; have X3 := hid_of (X3.out.grow hb); have X5 := hid_of (X5.out.grow hb); have X6 := hid_of (X6.out.grow hb); have X8 := hid_of (X8.out.grow hb); have X9 := hid_of (X9.out.grow hb); have I0 := hid_of (I0.out.grow hb); have I1 := hid_of (I1.out.grow hb); have I2 := hid_of (I2.out.grow hb); have BEL := BEL.trans (hb.mono BEL.size); obtain ⟨⟨c30, c31, c32, c33, c34, c35⟩, c3f⟩ := X3.out; obtain ⟨⟨c50, c51, c52, c53, c54, c55⟩, c5f⟩ := X5.out; obtain ⟨⟨c60, c61, c62⟩, c6f⟩ := X6.out; obtain ⟨⟨c80, c81, c82, c83, c84, c85⟩, c8f⟩ := X8.out; obtain ⟨⟨c90, c91, c92⟩, c9f⟩ := X9.out; clear hb)
      go_ret
      exact ⟨rfl, BEL⟩
    · obtain ⟨q1, q2, q3, q4⟩ := next_lost hs hk2 hnx hLB
      have hpos : 0 < LB.length := by rw [hLB, List.length_cons]; omega
      have hr0 : rth LB 0 = r := by rw [hLB]; rfl
      dsimp only at q1 q2 q3 q4
      obtain ⟨z, hz⟩ : ∃ z, Pt.last ⟨o2, d2, f2⟩ = z := ⟨_, rfl⟩
      rw [hz] at q3 q4 hl0 hl3
      have HZ := hid_of hz
      clear hz
      have VB := hid_of (rvB_iff.2 hs.b)
      have VB1 := hid_of (rvB_iff.2 hs1.b)
      have HQ := hid_of q4
      dsimp only at VB VB1
      have e1 : ¬ (LB.length = 0) := by omega
      have e2 : ¬ ((LB.length : Int) = 0) := by omega
      have e3 : (0 : Int) < (LB.length : Int) := by omega
      have e4 : ((LB.length : Int) == 0) = false := by rw [beq_eq_false_iff_ne]; exact e2
      have g1 : (o2 == r.lo) = true := by rw [beq_iff_eq]; exact q1
      have g2 : (n1 == n') = true := by rw [beq_iff_eq]; exact q2
      clear hs hs1 hp hnx q4 hLB q1 q2
      obtain ⟨⟨c30, c31, c32, c33, c34, c35⟩, c3f⟩ := X3.out
      obtain ⟨⟨c50, c51, c52, c53, c54, c55⟩, c5f⟩ := X5.out
      obtain ⟨⟨c60, c61, c62⟩, c6f⟩ := X6.out
      obtain ⟨⟨c80, c81, c82, c83, c84, c85⟩, c8f⟩ := X8.out
      obtain ⟨⟨c90, c91, c92⟩, c9f⟩ := X9.out
      go_wp2_with (go_at_call 16; (with_reducible refine (sameS_any _ _ _ _ _ _ _ _ _ _ _ _ _ _ _ I1.out.a I1.out.b I2.out.a I2.out.b (by omega) (by omega)).mono ?_); rintro e wn ⟨rfl, hb⟩; have X3 := hid_of (X3.out.grow hb); have X5 := hid_of (X5.out.grow hb); have X6 := hid_of (X6.out.grow hb); have X8 := hid_of (X8.out.grow hb); have X9 := hid_of (X9.out.grow hb); have I0 := hid_of (I0.out.grow hb); have I1 := hid_of (I1.out.grow hb); have I2 := hid_of (I2.out.grow hb); have BEL := BEL.trans (hb.mono BEL.size); obtain ⟨⟨c30, c31, c32, c33, c34, c35⟩, c3f⟩ := X3.out; obtain ⟨⟨c50, c51, c52, c53, c54, c55⟩, c5f⟩ := X5.out; obtain ⟨⟨c60, c61, c62⟩, c6f⟩ := X6.out; obtain ⟨⟨c80, c81, c82, c83, c84, c85⟩, c8f⟩ := X8.out; obtain ⟨⟨c90, c91, c92⟩, c9f⟩ := X9.out; clear hb)
      clear c30 c31 c32 c33 c34 c35 c3f
      clear c50 c51 c52 c53 c54 c55 c5f
      clear c60 c61 c62 c6f
      clear c80 c81 c82 c83 c84 c85 c8f
      clear c90 c91 c92 c9f
      have HPOS := hid_of hpos
      clear hpos e1 e2 e3
      go_loopw [11] (fun i wr => ∃ k : Int, i = .int .i64 k ∧ o2 ≤ k ∧ k ≤ z + 1 ∧ Below wn.heap.size wn wr) (fun i _ => (z + 1 - intOf i).toNat)
      case atStart => exact ⟨o2, rfl, Int.le_refl _, by omega, Below.refl _ _⟩
      case round =>
        obtain ⟨k, rfl, hk0, hk1, hb⟩ := hrel
        have X3 := hid_of (X3.out.grow hb)
        have X5 := hid_of (X5.out.grow hb)
        have X6 := hid_of (X6.out.grow hb)
        have X8 := hid_of (X8.out.grow hb)
        have X9 := hid_of (X9.out.grow hb)
        have I0 := hid_of (I0.out.grow hb)
        have I1 := hid_of (I1.out.grow hb)
        have I2 := hid_of (I2.out.grow hb)
        have BEL := BEL.trans (hb.mono BEL.size)
        have BLS := hb
        clear hb
        by_cases hlt : k ≤ z
        · have hwr : IntKind.i64.wrap (k + 1) = k + 1 := IntWalk.i64_in _ (by omega)
          obtain ⟨⟨c30, c31, c32, c33, c34, c35⟩, c3f⟩ := X3.out
          obtain ⟨⟨c50, c51, c52, c53, c54, c55⟩, c5f⟩ := X5.out
          obtain ⟨⟨c60, c61, c62⟩, c6f⟩ := X6.out
          go_wp2_with (first | (go_at_call 27; (with_reducible refine (last_l HZ.out _ ⟨by omega, by omega⟩ (by omega)).mono ?_); rintro e wn ⟨rfl, hb⟩; have X3 := hid_of (X3.out.grow hb); have X5 := hid_of (X5.out.grow hb); have X6 := hid_of (X6.out.grow hb); have X8 := hid_of (X8.out.grow hb); have X9 := hid_of (X9.out.grow hb); have I0 := hid_of (I0.out.grow hb); have I1 := hid_of (I1.out.grow hb); have I2 := hid_of (I2.out.grow hb); have BEL := BEL.trans (hb.mono BEL.size); have BLS := BLS.trans (hb.mono BLS.size); obtain ⟨⟨c30, c31, c32, c33, c34, c35⟩, c3f⟩ := X3.out; obtain ⟨⟨c50, c51, c52, c53, c54, c55⟩, c5f⟩ := X5.out; obtain ⟨⟨c60, c61, c62⟩, c6f⟩ := X6.out; clear hb) | (go_at_call 29; (with_reducible refine (rhas_v VB.out (HQ.out _ hk0 hlt).1 _ I0.out.b (by omega)).mono ?_); rintro e wn ⟨rfl, hb⟩; have X3 := hid_of (X3.out.grow hb); have X5 := hid_of (X5.out.grow hb); have X6 := hid_of (X6.out.grow hb); have X8 := hid_of (X8.out.grow hb); have X9 := hid_of (X9.out.grow hb); have I0 := hid_of (I0.out.grow hb); have I1 := hid_of (I1.out.grow hb); have I2 := hid_of (I2.out.grow hb); have BEL := BEL.trans (hb.mono BEL.size); have BLS := BLS.trans (hb.mono BLS.size); obtain ⟨⟨c30, c31, c32, c33, c34, c35⟩, c3f⟩ := X3.out; obtain ⟨⟨c50, c51, c52, c53, c54, c55⟩, c5f⟩ := X5.out; obtain ⟨⟨c60, c61, c62⟩, c6f⟩ := X6.out; clear hb) | (go_at_call 29; (with_reducible refine (rhas_v VB1.out (HQ.out _ hk0 hlt).2 _ I1.out.b (by omega)).mono ?_); rintro e wn ⟨rfl, hb⟩; have X3 := hid_of (X3.out.grow hb); have X5 := hid_of (X5.out.grow hb); have X6 := hid_of (X6.out.grow hb); have X8 := hid_of (X8.out.grow hb); have X9 := hid_of (X9.out.grow hb); have I0 := hid_of (I0.out.grow hb); have I1 := hid_of (I1.out.grow hb); have I2 := hid_of (I2.out.grow hb); have BEL := BEL.trans (hb.mono BEL.size); have BLS := BLS.trans (hb.mono BLS.size); obtain ⟨⟨c30, c31, c32, c33, c34, c35⟩, c3f⟩ := X3.out; obtain ⟨⟨c50, c51, c52, c53, c54, c55⟩, c5f⟩ := X5.out; obtain ⟨⟨c60, c61, c62⟩, c6f⟩ := X6.out; clear hb))
          go_roundw
          case rel => exact ⟨k + 1, by go_num, by omega, by omega, BLS⟩
          case measure => simp [intOf]; omega
        · skip
          obtain ⟨⟨c30, c31, c32, c33, c34, c35⟩, c3f⟩ := X3.out
          obtain ⟨⟨c50, c51, c52, c53, c54, c55⟩, c5f⟩ := X5.out
          obtain ⟨⟨c60, c61, c62⟩, c6f⟩ := X6.out
          go_wp2_with (go_at_call 27; (with_reducible refine (last_l HZ.out _ ⟨by omega, by omega⟩ (by omega)).mono ?_); rintro e wn ⟨rfl, hb⟩; have X3 := hid_of (X3.out.grow hb); have X5 := hid_of (X5.out.grow hb); have X6 := hid_of (X6.out.grow hb); have X8 := hid_of (X8.out.grow hb); have X9 := hid_of (X9.out.grow hb); have I0 := hid_of (I0.out.grow hb); have I1 := hid_of (I1.out.grow hb); have I2 := hid_of (I2.out.grow hb); have BEL := BEL.trans (hb.mono BEL.size); have BLS := BLS.trans (hb.mono BLS.size); obtain ⟨⟨c30, c31, c32, c33, c34, c35⟩, c3f⟩ := X3.out; obtain ⟨⟨c50, c51, c52, c53, c54, c55⟩, c5f⟩ := X5.out; obtain ⟨⟨c60, c61, c62⟩, c6f⟩ := X6.out; clear hb)
          obtain ⟨bb, off, rfl, _, hc⟩ := I0.out.b.2 HPOS.out
          have z0 := (hc 0 HPOS.out).1
          have hpos := HPOS.out
          have e3 : (0 : Int) < (LB.length : Int) := by omega
          rw [hr0, Nat.zero_mul, Nat.add_zero] at z0
          have uu0 := fun y => Up.cell c33 y
          have uu1 := fun y => Up.cell c35 y
          have uu2 := fun y => Up.cell c53 y
          have uu3 := fun y => Up.cell c60 y
          have uu4 := fun y => Up.cell c61 y
          have uu5 := fun y => Up.cell c62 y
          have uu6 := fun y => Up.cell z0 y
          refine wp_region_up (by kernel_rfl) (by kernel_rfl) ?_
          repeat (quiet_step (first | (go_at_call 27; with_reducible exact up_of fun w' hb' => last_l HZ.out w' ⟨by omega, by omega⟩ (by omega))))
          refine wpQuiet_nil ?_
          intro w7 hb
          clear uu0 uu1 uu2 uu3 uu4 uu5 uu6
          have X3 := hid_of (X3.out.grow hb)
          have X5 := hid_of (X5.out.grow hb)
          have X6 := hid_of (X6.out.grow hb)
          have X8 := hid_of (X8.out.grow hb)
          have X9 := hid_of (X9.out.grow hb)
          have I0 := hid_of (I0.out.grow hb)
          have I1 := hid_of (I1.out.grow hb)
          have I2 := hid_of (I2.out.grow hb)
          have BEL := BEL.trans (hb.mono BEL.size)
          have BLS := BLS.trans (hb.mono BLS.size)
          clear hb
          go_wp2_with fail
          go_ret
          exact ⟨rfl, BEL⟩

end Go.Proofs.Ytmkmaeblnnfheab
