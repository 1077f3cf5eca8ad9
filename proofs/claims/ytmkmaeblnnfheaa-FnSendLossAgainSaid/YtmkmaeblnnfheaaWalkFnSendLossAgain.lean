/- The walk of the law FnSendLossAgain. -/
import Derived.Test.YtmkmaeblnnfheaaLawKit
import Derived.Test.YtmkmaeblnnfheaaMg6
import Derived.Test.YtmkmaeblnnfheaaLawKit2
import Derived.Test.YtmkmaeblnnfheaaLawKit3
import Derived.Test.YtmkmaeblnnfheaaMg5
namespace Go.Proofs.Ytmkmaeblnnfheaa
open Go.RowKit
attribute [local irreducible] Go.wpQuiet

set_option linter.unusedVariables false in
set_option maxRecDepth 100000 in
set_option maxHeartbeats 8000000 in
theorem walkFnSendLossAgain (w : World) (a : Option Addr) (len cap : Nat) (zs : List Int) (h : IsRow .u8 w a len cap zs) :
    Calls Try.prog 5 #[.slice a len cap] w fun e w' => e = .returned (.bool true) ∧ Below w.heap.size w w' := by
  by_cases hllen : 1048576 < len
  · go_enter Try.func5, Try.ntmps5
    go_wp2
    go_ret
    exact ⟨rfl, Below.refl _ _⟩
  have BEL : Below w.heap.size w w := Below.refl _ _
  go_enter Try.func5, Try.ntmps5
  go_wp2_with fail
  with_reducible refine (drawLoss_any _ a len cap zs h).mono ?_
  rintro e w1 ⟨d, f, l, n', LA, LB, A, ca, B, cb, _, rfl, ⟨o, D, g, rfl, hD⟩, ⟨hd, hA, hB⟩, hI, hJ, hb⟩
  have hsz1 := hb.size
  have BEL := BEL.trans (hb.mono BEL.size)
  have I0 := hid_of (In2.of hI hJ)
  clear hI hJ hb
  clear h
  obtain ⟨⟨⟨d1, f1, l1, n1, LA1, LB1⟩, b⟩, hx⟩ : ∃ x, sendLoss ⟨d, f, l, n', LA, LB⟩ ⟨o, D, g⟩ = x := ⟨_, rfl⟩
  have hlen : LA1.length ≤ 2000000 ∧ LB1.length ≤ 2000000 := by have := sendLoss_len ⟨d, f, l, n', LA, LB⟩ ⟨o, D, g⟩; rw [hx] at this; exact ⟨by have := this.1; dsimp only at this; omega, by have := this.2; dsimp only at this; omega⟩
  obtain ⟨hl1, hl2⟩ := hlen
  have HX := hid_of hx
  clear hx
  go_upto_region 4 with (fail)
  generalize hW : World.alloc (World.alloc w1 _) _ = w2
  have hb : Below w1.heap.size w1 w2 := by rw [← hW]; exact ba (ba (Below.refl _ _) _) _
  have I0 := hid_of (I0.out.grow hb)
  have BEL := BEL.trans (hb.mono BEL.size)
  have hsz2 : w1.heap.size + 2 ≤ w2.heap.size := by rw [← hW]; simp
  have X3 : Hid (Own6 w2 w1.heap.size d f l n' A LA.length ca B LB.length cb) := by rw [← hW]; exact hid_of ((Own6.newT _ _).alloc _)
  have X4 : Hid (Own3 w2 (w1.heap.size + 1) o D g) := by rw [← hW]; exact hid_of (Own3.newT2 _ _)
  clear hW hb
  obtain ⟨⟨c30, c31, c32, c33, c34, c35⟩, c3f⟩ := X3.out
  obtain ⟨⟨c40, c41, c42⟩, c4f⟩ := X4.out
  go_wp2_with fail
  clear c30 c31 c32 c33 c34 c35 c3f
  clear c40 c41 c42 c4f
  with_reducible refine (sloss_i _ _ _ _ LA LB A ca B cb o D g _ I0.out.a I0.out.b I0.out.ea I0.out.eb (by omega) (by omega) (by omega)).mono ?_
  rw [HX.out]
  rintro e w3 ⟨⟨_, rfl, A1, c1a, B1, c1b, rfl, hI, hJ, hap⟩, hb⟩
  dsimp only at hI hJ
  have hsz3 := hb.size
  have X3 := hid_of (X3.out.grow hb)
  have X4 := hid_of (X4.out.grow hb)
  have I0 := hid_of (I0.out.grow hb)
  have BEL := BEL.trans (hb.mono BEL.size)
  have I1 := hid_of (In2.of hI hJ)
  clear hI hJ hap hb
  go_upto_region 5 with (fail)
  generalize hW : World.alloc w3 _ = w4
  have hb : Below w3.heap.size w3 w4 := by rw [← hW]; exact ba (Below.refl _ _) _
  have X3 := hid_of (X3.out.grow hb)
  have X4 := hid_of (X4.out.grow hb)
  have I0 := hid_of (I0.out.grow hb)
  have I1 := hid_of (I1.out.grow hb)
  have BEL := BEL.trans (hb.mono BEL.size)
  have hsz4 : w3.heap.size + 1 ≤ w4.heap.size := by rw [← hW]; simp
  have X5 : Hid (Own6 w4 w3.heap.size d1 f1 l1 n1 A1 LA1.length c1a B1 LB1.length c1b) := by rw [← hW]; exact hid_of (Own6.newT _ _)
  clear hW hb
  obtain ⟨⟨c30, c31, c32, c33, c34, c35⟩, c3f⟩ := X3.out
  obtain ⟨⟨c40, c41, c42⟩, c4f⟩ := X4.out
  go_wp2_with fail
  clear c30 c31 c32 c33 c34 c35 c3f
  clear c40 c41 c42 c4f
  with_reducible refine (sloss_s _ _ _ _ LA LB A ca B cb o D g _ I0.out.a I0.out.b I0.out.ea I0.out.eb (by omega) (by omega) (by omega)).mono ?_
  rw [HX.out]
  rintro e w5 ⟨⟨_, rfl, A2, c2a, B2, c2b, rfl, hI, hJ, hap⟩, hb⟩
  dsimp only at hI hJ
  have hsz5 := hb.size
  have X3 := hid_of (X3.out.grow hb)
  have X4 := hid_of (X4.out.grow hb)
  have X5 := hid_of (X5.out.grow hb)
  have I0 := hid_of (I0.out.grow hb)
  have I1 := hid_of (I1.out.grow hb)
  have BEL := BEL.trans (hb.mono BEL.size)
  have I2 := hid_of (In2.of hI hJ)
  clear hI hJ hap hb
  go_upto_region 6 with (fail)
  generalize hW : World.alloc w5 _ = w6
  have hb : Below w5.heap.size w5 w6 := by rw [← hW]; exact ba (Below.refl _ _) _
  have X3 := hid_of (X3.out.grow hb)
  have X4 := hid_of (X4.out.grow hb)
  have X5 := hid_of (X5.out.grow hb)
  have I0 := hid_of (I0.out.grow hb)
  have I1 := hid_of (I1.out.grow hb)
  have I2 := hid_of (I2.out.grow hb)
  have BEL := BEL.trans (hb.mono BEL.size)
  have hsz6 : w5.heap.size + 1 ≤ w6.heap.size := by rw [← hW]; simp
  have X7 : Hid (Own6 w6 w5.heap.size d1 f1 l1 n1 A2 LA1.length c2a B2 LB1.length c2b) := by rw [← hW]; exact hid_of (Own6.newT _ _)
  clear hW hb
  cases b with
  | false =>
    obtain ⟨⟨c30, c31, c32, c33, c34, c35⟩, c3f⟩ := X3.out
    obtain ⟨⟨c40, c41, c42⟩, c4f⟩ := X4.out
    obtain ⟨⟨c50, c51, c52, c53, c54, c55⟩, c5f⟩ := X5.out
    obtain ⟨⟨c70, c71, c72, c73, c74, c75⟩, c7f⟩ := X7.out
    go_wp2_with (go_at_call 16; (with_reducible refine (sameS_any _ _ _ _ _ _ _ _ _ _ _ _ _ _ _ I1.out.a I1.out.b I2.out.a I2.out.b (by omega) (by omega)).mono ?_); rintro e wn ⟨rfl, hb⟩; have X3 := hid_of (X3.out.grow hb); have X4 := hid_of (X4.out.grow hb); have X5 := hid_of (X5.out.grow hb); have X7 := hid_of (X7.out.grow hb); have I0 := hid_of (I0.out.grow hb); have I1 := hid_of (I1.out.grow hb); have I2 := hid_of (I2.out.grow hb); have BEL := BEL.trans (hb.mono BEL.size); obtain ⟨⟨c30, c31, c32, c33, c34, c35⟩, c3f⟩ := X3.out; obtain ⟨⟨c40, c41, c42⟩, c4f⟩ := X4.out; obtain ⟨⟨c50, c51, c52, c53, c54, c55⟩, c5f⟩ := X5.out; obtain ⟨⟨c70, c71, c72, c73, c74, c75⟩, c7f⟩ := X7.out; clear hb)
    go_ret
    exact ⟨rfl, BEL⟩
  | true =>
    obtain ⟨hs, hp, he⟩ := sendLoss_yes HX.out
    obtain ⟨⟨ho0, ho1⟩, _, hl0, hl3⟩ := hp.bd hs
    dsimp only at ho0 ho1 hl0 hl3
    obtain ⟨ha1, ha2⟩ := loss_again hs hp
    have hv1 := hs.loss hp
    rw [he] at ha1 ha2 hv1
    dsimp only at ha1 ha2
    obtain ⟨z, hz⟩ : ∃ z, Pt.last ⟨o, D, g⟩ = z := ⟨_, rfl⟩
    rw [hz] at hl0 hl3 ha1
    have HZ := hid_of hz
    clear hz
    have VA1 := hid_of (rvB_iff.2 hv1.a)
    dsimp only at VA1
    have HV := hid_of hv1
    have hcase : LB1 = [] ∨ ∃ r T, LB1 = r :: T := by
      cases LB1 with
      | nil => exact .inl rfl
      | cons r T => exact .inr ⟨r, T, rfl⟩
    rcases hcase with hLB | ⟨r, T, hLB⟩
    · have HA1 := hid_of (ha1 hLB)
      have hL0 : LB1.length = 0 := by rw [hLB]; rfl
      have e1 : (LB1.length == 0) = true := by rw [hL0]; rfl
      have e2 : ((LB1.length : Int) == 0) = true := by rw [hL0]; rfl
      clear hL0 hLB ha1 ha2 hs hp he hv1
      obtain ⟨⟨c30, c31, c32, c33, c34, c35⟩, c3f⟩ := X3.out
      obtain ⟨⟨c40, c41, c42⟩, c4f⟩ := X4.out
      obtain ⟨⟨c50, c51, c52, c53, c54, c55⟩, c5f⟩ := X5.out
      obtain ⟨⟨c70, c71, c72, c73, c74, c75⟩, c7f⟩ := X7.out
      go_wp2_with (go_at_call 16; (with_reducible refine (sameS_any _ _ _ _ _ _ _ _ _ _ _ _ _ _ _ I1.out.a I1.out.b I2.out.a I2.out.b (by omega) (by omega)).mono ?_); rintro e wn ⟨rfl, hb⟩; have X3 := hid_of (X3.out.grow hb); have X4 := hid_of (X4.out.grow hb); have X5 := hid_of (X5.out.grow hb); have X7 := hid_of (X7.out.grow hb); have I0 := hid_of (I0.out.grow hb); have I1 := hid_of (I1.out.grow hb); have I2 := hid_of (I2.out.grow hb); have BEL := BEL.trans (hb.mono BEL.size); obtain ⟨⟨c30, c31, c32, c33, c34, c35⟩, c3f⟩ := X3.out; obtain ⟨⟨c40, c41, c42⟩, c4f⟩ := X4.out; obtain ⟨⟨c50, c51, c52, c53, c54, c55⟩, c5f⟩ := X5.out; obtain ⟨⟨c70, c71, c72, c73, c74, c75⟩, c7f⟩ := X7.out; clear hb)
      clear c30 c31 c32 c33 c34 c35 c3f
      clear c40 c41 c42 c4f
      clear c50 c51 c52 c53 c54 c55 c5f
      clear c70 c71 c72 c73 c74 c75 c7f
      go_loopw [9] (fun i wr => ∃ k : Int, i = .int .i64 k ∧ o ≤ k ∧ k ≤ z + 1 ∧ Below wn.heap.size wn wr) (fun i _ => (z + 1 - intOf i).toNat)
      case atStart => exact ⟨o, rfl, Int.le_refl _, by omega, Below.refl _ _⟩
      case round =>
        obtain ⟨k, rfl, hk0, hk1, hb⟩ := hrel
        have X3 := hid_of (X3.out.grow hb)
        have X4 := hid_of (X4.out.grow hb)
        have X5 := hid_of (X5.out.grow hb)
        have X7 := hid_of (X7.out.grow hb)
        have I0 := hid_of (I0.out.grow hb)
        have I1 := hid_of (I1.out.grow hb)
        have I2 := hid_of (I2.out.grow hb)
        have BEL := BEL.trans (hb.mono BEL.size)
        have BLS := hb
        clear hb
        by_cases hlt : k ≤ z
        · have hwr : IntKind.i64.wrap (k + 1) = k + 1 := IntWalk.i64_in _ (by omega)
          obtain ⟨⟨c40, c41, c42⟩, c4f⟩ := X4.out
          obtain ⟨⟨c50, c51, c52, c53, c54, c55⟩, c5f⟩ := X5.out
          go_wp2_with (first | (go_at_call 17; (with_reducible refine (last_l HZ.out _ ⟨by omega, by omega⟩ (by omega)).mono ?_); rintro e wn ⟨rfl, hb⟩; have X3 := hid_of (X3.out.grow hb); have X4 := hid_of (X4.out.grow hb); have X5 := hid_of (X5.out.grow hb); have X7 := hid_of (X7.out.grow hb); have I0 := hid_of (I0.out.grow hb); have I1 := hid_of (I1.out.grow hb); have I2 := hid_of (I2.out.grow hb); have BEL := BEL.trans (hb.mono BEL.size); have BLS := BLS.trans (hb.mono BLS.size); obtain ⟨⟨c40, c41, c42⟩, c4f⟩ := X4.out; obtain ⟨⟨c50, c51, c52, c53, c54, c55⟩, c5f⟩ := X5.out; clear hb) | (go_at_call 18; (with_reducible refine (rhas_v VA1.out (HA1.out _ hk0 hlt) _ I1.out.a (by omega)).mono ?_); rintro e wn ⟨rfl, hb⟩; have X3 := hid_of (X3.out.grow hb); have X4 := hid_of (X4.out.grow hb); have X5 := hid_of (X5.out.grow hb); have X7 := hid_of (X7.out.grow hb); have I0 := hid_of (I0.out.grow hb); have I1 := hid_of (I1.out.grow hb); have I2 := hid_of (I2.out.grow hb); have BEL := BEL.trans (hb.mono BEL.size); have BLS := BLS.trans (hb.mono BLS.size); obtain ⟨⟨c40, c41, c42⟩, c4f⟩ := X4.out; obtain ⟨⟨c50, c51, c52, c53, c54, c55⟩, c5f⟩ := X5.out; clear hb))
          go_roundw
          case rel => exact ⟨k + 1, by go_num, by omega, by omega, BLS⟩
          case measure => simp [intOf]; omega
        · skip
          obtain ⟨⟨c40, c41, c42⟩, c4f⟩ := X4.out
          obtain ⟨⟨c50, c51, c52, c53, c54, c55⟩, c5f⟩ := X5.out
          go_wp2_with (go_at_call 17; (with_reducible refine (last_l HZ.out _ ⟨by omega, by omega⟩ (by omega)).mono ?_); rintro e wn ⟨rfl, hb⟩; have X3 := hid_of (X3.out.grow hb); have X4 := hid_of (X4.out.grow hb); have X5 := hid_of (X5.out.grow hb); have X7 := hid_of (X7.out.grow hb); have I0 := hid_of (I0.out.grow hb); have I1 := hid_of (I1.out.grow hb); have I2 := hid_of (I2.out.grow hb); have BEL := BEL.trans (hb.mono BEL.size); have BLS := BLS.trans (hb.mono BLS.size); obtain ⟨⟨c40, c41, c42⟩, c4f⟩ := X4.out; obtain ⟨⟨c50, c51, c52, c53, c54, c55⟩, c5f⟩ := X5.out; clear hb)
          go_ret
          exact ⟨rfl, BEL⟩
    · obtain ⟨hq1, hq2⟩ := ha2 r T hLB 12 (by omega)
      rw [← sendNext_valid HV.out (by omega) (by omega)] at hq1 hq2
      obtain ⟨⟨⟨d2, f2, l2, n2, LA2, LB2⟩, ⟨o2, p2, g2⟩, b2⟩, hx2⟩ : ∃ x, sendNext ⟨d1, f1, l1, n1, LA1, LB1⟩ 12 = x := ⟨_, rfl⟩
      rw [hx2] at hq1 hq2
      dsimp only at hq1 hq2
      subst hq1
      have HX2 := hid_of hx2
      have hpos : 0 < LB1.length := by rw [hLB, List.length_cons]; omega
      have hr0 : rth LB1 0 = r := by rw [hLB]; rfl
      have g1 : (o2 == r.lo) = true := by rw [beq_iff_eq]; exact hq2
      clear hx2 ha1 ha2 hs hp he hv1 hLB hq2
      have e1 : ¬ (LB1.length = 0) := by omega
      have e2 : ¬ ((LB1.length : Int) = 0) := by omega
      have e3 : ((LB1.length : Int) == 0) = false := by rw [beq_eq_false_iff_ne]; exact e2
      have e4 : (0 : Int) < (LB1.length : Int) := by omega
      obtain ⟨⟨c30, c31, c32, c33, c34, c35⟩, c3f⟩ := X3.out
      obtain ⟨⟨c40, c41, c42⟩, c4f⟩ := X4.out
      obtain ⟨⟨c50, c51, c52, c53, c54, c55⟩, c5f⟩ := X5.out
      obtain ⟨⟨c70, c71, c72, c73, c74, c75⟩, c7f⟩ := X7.out
      go_wp2_with (go_at_call 16; (with_reducible refine (sameS_any _ _ _ _ _ _ _ _ _ _ _ _ _ _ _ I1.out.a I1.out.b I2.out.a I2.out.b (by omega) (by omega)).mono ?_); rintro e wn ⟨rfl, hb⟩; have X3 := hid_of (X3.out.grow hb); have X4 := hid_of (X4.out.grow hb); have X5 := hid_of (X5.out.grow hb); have X7 := hid_of (X7.out.grow hb); have I0 := hid_of (I0.out.grow hb); have I1 := hid_of (I1.out.grow hb); have I2 := hid_of (I2.out.grow hb); have BEL := BEL.trans (hb.mono BEL.size); obtain ⟨⟨c30, c31, c32, c33, c34, c35⟩, c3f⟩ := X3.out; obtain ⟨⟨c40, c41, c42⟩, c4f⟩ := X4.out; obtain ⟨⟨c50, c51, c52, c53, c54, c55⟩, c5f⟩ := X5.out; obtain ⟨⟨c70, c71, c72, c73, c74, c75⟩, c7f⟩ := X7.out; clear hb)
      clear c30 c31 c32 c33 c34 c35 c3f
      clear c40 c41 c42 c4f
      clear c50 c51 c52 c53 c54 c55 c5f
      clear c70 c71 c72 c73 c74 c75 c7f
      with_reducible refine (snext_i _ _ _ _ LA1 LB1 A1 c1a B1 c1b 12 _ I1.out.a I1.out.b I1.out.ea I1.out.eb (by omega) (by omega)).mono ?_
      rw [HX2.out]
      rintro e w7 ⟨⟨_, rfl, A4, c4a, B4, c4b, rfl, hI, hJ, hap⟩, hb⟩
      dsimp only at hI hJ
      have hsz7 := hb.size
      have X3 := hid_of (X3.out.grow hb)
      have X4 := hid_of (X4.out.grow hb)
      have X5 := hid_of (X5.out.grow hb)
      have X7 := hid_of (X7.out.grow hb)
      have I0 := hid_of (I0.out.grow hb)
      have I1 := hid_of (I1.out.grow hb)
      have I2 := hid_of (I2.out.grow hb)
      have BEL := BEL.trans (hb.mono BEL.size)
      have I4 := hid_of (In2.of hI hJ)
      clear hI hJ hap hb
      go_upto_region 16 with (fail)
      generalize hW : World.alloc (World.alloc w7 _) _ = w8
      have hb : Below w7.heap.size w7 w8 := by rw [← hW]; exact ba (ba (Below.refl _ _) _) _
      have X3 := hid_of (X3.out.grow hb)
      have X4 := hid_of (X4.out.grow hb)
      have X5 := hid_of (X5.out.grow hb)
      have X7 := hid_of (X7.out.grow hb)
      have I0 := hid_of (I0.out.grow hb)
      have I1 := hid_of (I1.out.grow hb)
      have I2 := hid_of (I2.out.grow hb)
      have I4 := hid_of (I4.out.grow hb)
      have BEL := BEL.trans (hb.mono BEL.size)
      have hsz8 : w7.heap.size + 2 ≤ w8.heap.size := by rw [← hW]; simp
      have X10 : Hid (Own6 w8 w7.heap.size d2 f2 l2 n2 A4 LA2.length c4a B4 LB2.length c4b) := by rw [← hW]; exact hid_of ((Own6.newT _ _).alloc _)
      have X11 : Hid (Own3 w8 (w7.heap.size + 1) o2 p2 g2) := by rw [← hW]; exact hid_of (Own3.newT2 _ _)
      clear hW hb
      obtain ⟨⟨c50, c51, c52, c53, c54, c55⟩, c5f⟩ := X5.out
      obtain ⟨⟨c110, c111, c112⟩, c11f⟩ := X11.out
      obtain ⟨bb, off, rfl, _, hc⟩ := I1.out.b.2 hpos
      have z0 := (hc 0 hpos).1
      rw [hr0, Nat.zero_mul, Nat.add_zero] at z0
      have uu0 := fun y => Up.cell c55 y
      have uu1 := fun y => Up.cell c110 y
      have uu2 := fun y => Up.cell z0 y
      refine wp_region_up (by kernel_rfl) (by kernel_rfl) ?_
      repeat (quiet_step (first | (go_at_call 17; with_reducible exact up_of fun w' hb' => last_l HZ.out w' ⟨by omega, by omega⟩ (by omega))))
      refine wpQuiet_nil ?_
      intro w9 hb
      clear uu0 uu1 uu2
      have X3 := hid_of (X3.out.grow hb)
      have X4 := hid_of (X4.out.grow hb)
      have X5 := hid_of (X5.out.grow hb)
      have X7 := hid_of (X7.out.grow hb)
      have X10 := hid_of (X10.out.grow hb)
      have X11 := hid_of (X11.out.grow hb)
      have I0 := hid_of (I0.out.grow hb)
      have I1 := hid_of (I1.out.grow hb)
      have I2 := hid_of (I2.out.grow hb)
      have I4 := hid_of (I4.out.grow hb)
      have BEL := BEL.trans (hb.mono BEL.size)
      clear hb
      go_wp2_with fail
      go_ret
      exact ⟨rfl, BEL⟩

end Go.Proofs.Ytmkmaeblnnfheaa
