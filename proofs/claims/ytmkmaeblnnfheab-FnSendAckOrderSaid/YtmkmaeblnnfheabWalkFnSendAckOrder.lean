/- The walk of the law FnSendAckOrder. -/
import Derived.Test.YtmkmaeblnnfheabLawKit
import Derived.Test.YtmkmaeblnnfheabMg6
import Derived.Test.YtmkmaeblnnfheabLawKit2
namespace Go.Proofs.Ytmkmaeblnnfheab
open Go.RowKit
attribute [local irreducible] Go.wpQuiet

set_option linter.unusedVariables false in
set_option maxRecDepth 100000 in
set_option maxHeartbeats 8000000 in
theorem walkFnSendAckOrder (w : World) (a : Option Addr) (len cap : Nat) (zs : List Int) (h : IsRow .u8 w a len cap zs) (a' : Option Addr) (len' cap' : Nat) (zs' : List Int) (h' : IsRow .u8 w a' len' cap' zs') :
    Calls Try.prog 11 #[.slice a len cap, .slice a' len' cap'] w fun e w' => e = .returned (.bool true) ∧ Below w.heap.size w w' := by
  by_cases hllen : 1048576 < len
  · go_enter Try.func11, Try.ntmps11
    go_wp2
    go_ret
    exact ⟨rfl, Below.refl _ _⟩
  by_cases hllen' : 1048576 < len'
  · go_enter Try.func11, Try.ntmps11
    go_wp2
    go_ret
    exact ⟨rfl, Below.refl _ _⟩
  have BEL : Below w.heap.size w w := Below.refl _ _
  go_enter Try.func11, Try.ntmps11
  go_wp2_with fail
  with_reducible refine (drawAck_any _ a len cap zs h).mono ?_
  rintro e w1 ⟨d, f, l, n', LA, LB, A, ca, B, cb, _, rfl, ⟨o, D, g, rfl, hD⟩, ⟨hd, hA, hB⟩, hI, hJ, hb⟩
  have hsz1 := hb.size
  have BEL := BEL.trans (hb.mono BEL.size)
  have I0 := hid_of (In2.of hI hJ)
  clear hI hJ hb
  clear h
  obtain ⟨⟨⟨d1, f1, l1, n1, LA1, LB1⟩, b⟩, hx⟩ : ∃ x, sendAck ⟨d, f, l, n', LA, LB⟩ ⟨o, D, g⟩ = x := ⟨_, rfl⟩
  have hlen : LA1.length ≤ 2000000 ∧ LB1.length ≤ 2000000 := by have := sendAck_len ⟨d, f, l, n', LA, LB⟩ ⟨o, D, g⟩; rw [hx] at this; exact ⟨by have := this.1; dsimp only at this; omega, by have := this.2; dsimp only at this; omega⟩
  obtain ⟨hl1, hl2⟩ := hlen
  have HX := hid_of hx
  clear hx
  go_upto_region 4 with (fail)
  generalize hW : World.alloc (World.alloc w1 _) _ = w2
  have hb : Below w1.heap.size w1 w2 := by rw [← hW]; exact ba (ba (Below.refl _ _) _) _
  have I0 := hid_of (I0.out.grow hb)
  have BEL := BEL.trans (hb.mono BEL.size)
  have hsz2 : w1.heap.size + 2 ≤ w2.heap.size := by rw [← hW]; simp
  have X5 : Hid (Own6 w2 w1.heap.size d f l n' A LA.length ca B LB.length cb) := by rw [← hW]; exact hid_of ((Own6.newT _ _).alloc _)
  have X6 : Hid (Own3 w2 (w1.heap.size + 1) o D g) := by rw [← hW]; exact hid_of (Own3.newT2 _ _)
  clear hW hb
  obtain ⟨⟨c50, c51, c52, c53, c54, c55⟩, c5f⟩ := X5.out
  obtain ⟨⟨c60, c61, c62⟩, c6f⟩ := X6.out
  go_wp2_with fail
  clear c50 c51 c52 c53 c54 c55 c5f
  clear c60 c61 c62 c6f
  with_reducible refine (sack_i _ _ _ _ LA LB A ca B cb o D g _ I0.out.a I0.out.b I0.out.ea I0.out.eb (by omega) (by omega) (by omega) I0.out.la).mono ?_
  rw [HX.out]
  rintro e w3 ⟨⟨_, rfl, A1, c1a, B1, c1b, rfl, hI, hJ, hap⟩, hb⟩
  dsimp only at hI hJ
  have hsz3 := hb.size
  have X5 := hid_of (X5.out.grow hb)
  have X6 := hid_of (X6.out.grow hb)
  have I0 := hid_of (I0.out.grow hb)
  have BEL := BEL.trans (hb.mono BEL.size)
  have I1 := hid_of (In2.of hI hJ)
  clear hI hJ hap hb
  go_upto_region 5 with (fail)
  generalize hW : World.alloc w3 _ = w4
  have hb : Below w3.heap.size w3 w4 := by rw [← hW]; exact ba (Below.refl _ _) _
  have X5 := hid_of (X5.out.grow hb)
  have X6 := hid_of (X6.out.grow hb)
  have I0 := hid_of (I0.out.grow hb)
  have I1 := hid_of (I1.out.grow hb)
  have BEL := BEL.trans (hb.mono BEL.size)
  have hsz4 : w3.heap.size + 1 ≤ w4.heap.size := by rw [← hW]; simp
  have X7 : Hid (Own6 w4 w3.heap.size d1 f1 l1 n1 A1 LA1.length c1a B1 LB1.length c1b) := by rw [← hW]; exact hid_of (Own6.newT _ _)
  clear hW hb
  obtain ⟨⟨c50, c51, c52, c53, c54, c55⟩, c5f⟩ := X5.out
  obtain ⟨⟨c60, c61, c62⟩, c6f⟩ := X6.out
  go_wp2_with fail
  clear c50 c51 c52 c53 c54 c55 c5f
  clear c60 c61 c62 c6f
  with_reducible refine (sack_s _ _ _ _ LA LB A ca B cb o D g _ I0.out.a I0.out.b I0.out.ea I0.out.eb (by omega) (by omega) (by omega)).mono ?_
  rw [HX.out]
  rintro e w5 ⟨⟨_, rfl, A2, c2a, B2, c2b, rfl, hI, hJ, hap⟩, hb⟩
  dsimp only at hI hJ
  have hsz5 := hb.size
  have X5 := hid_of (X5.out.grow hb)
  have X6 := hid_of (X6.out.grow hb)
  have X7 := hid_of (X7.out.grow hb)
  have I0 := hid_of (I0.out.grow hb)
  have I1 := hid_of (I1.out.grow hb)
  have BEL := BEL.trans (hb.mono BEL.size)
  have I2 := hid_of (In2.of hI hJ)
  clear hI hJ hap hb
  go_upto_region 6 with (fail)
  generalize hW : World.alloc w5 _ = w6
  have hb : Below w5.heap.size w5 w6 := by rw [← hW]; exact ba (Below.refl _ _) _
  have X5 := hid_of (X5.out.grow hb)
  have X6 := hid_of (X6.out.grow hb)
  have X7 := hid_of (X7.out.grow hb)
  have I0 := hid_of (I0.out.grow hb)
  have I1 := hid_of (I1.out.grow hb)
  have I2 := hid_of (I2.out.grow hb)
  have BEL := BEL.trans (hb.mono BEL.size)
  have hsz6 : w5.heap.size + 1 ≤ w6.heap.size := by rw [← hW]; simp
  have X9 : Hid (Own6 w6 w5.heap.size d1 f1 l1 n1 A2 LA1.length c2a B2 LB1.length c2b) := by rw [← hW]; exact hid_of (Own6.newT _ _)
  clear hW hb
  cases b with
  | false =>
    obtain ⟨⟨c50, c51, c52, c53, c54, c55⟩, c5f⟩ := X5.out
    obtain ⟨⟨c60, c61, c62⟩, c6f⟩ := X6.out
    obtain ⟨⟨c70, c71, c72, c73, c74, c75⟩, c7f⟩ := X7.out
    obtain ⟨⟨c90, c91, c92, c93, c94, c95⟩, c9f⟩ := X9.out
    go_wp2_with (go_at_call 16; (with_reducible refine (sameS_any _ _ _ _ _ _ _ _ _ _ _ _ _ _ _ I1.out.a I1.out.b I2.out.a I2.out.b (by omega) (by omega)).mono ?_); rintro e wn ⟨rfl, hb⟩; have X5 := hid_of (X5.out.grow hb); have X6 := hid_of (X6.out.grow hb); have X7 := hid_of (X7.out.grow hb); have X9 := hid_of (X9.out.grow hb); have I0 := hid_of (I0.out.grow hb); have I1 := hid_of (I1.out.grow hb); have I2 := hid_of (I2.out.grow hb); have BEL := BEL.trans (hb.mono BEL.size); obtain ⟨⟨c50, c51, c52, c53, c54, c55⟩, c5f⟩ := X5.out; obtain ⟨⟨c60, c61, c62⟩, c6f⟩ := X6.out; obtain ⟨⟨c70, c71, c72, c73, c74, c75⟩, c7f⟩ := X7.out; obtain ⟨⟨c90, c91, c92, c93, c94, c95⟩, c9f⟩ := X9.out; clear hb)
    go_ret
    exact ⟨rfl, BEL⟩
  | true =>
    obtain ⟨⟨c50, c51, c52, c53, c54, c55⟩, c5f⟩ := X5.out
    obtain ⟨⟨c60, c61, c62⟩, c6f⟩ := X6.out
    obtain ⟨⟨c70, c71, c72, c73, c74, c75⟩, c7f⟩ := X7.out
    obtain ⟨⟨c90, c91, c92, c93, c94, c95⟩, c9f⟩ := X9.out
    go_wp2_with (go_at_call 16; (with_reducible refine (sameS_any _ _ _ _ _ _ _ _ _ _ _ _ _ _ _ I1.out.a I1.out.b I2.out.a I2.out.b (by omega) (by omega)).mono ?_); rintro e wn ⟨rfl, hb⟩; have X5 := hid_of (X5.out.grow hb); have X6 := hid_of (X6.out.grow hb); have X7 := hid_of (X7.out.grow hb); have X9 := hid_of (X9.out.grow hb); have I0 := hid_of (I0.out.grow hb); have I1 := hid_of (I1.out.grow hb); have I2 := hid_of (I2.out.grow hb); have BEL := BEL.trans (hb.mono BEL.size); obtain ⟨⟨c50, c51, c52, c53, c54, c55⟩, c5f⟩ := X5.out; obtain ⟨⟨c60, c61, c62⟩, c6f⟩ := X6.out; obtain ⟨⟨c70, c71, c72, c73, c74, c75⟩, c7f⟩ := X7.out; obtain ⟨⟨c90, c91, c92, c93, c94, c95⟩, c9f⟩ := X9.out; clear hb)
    clear c50 c51 c52 c53 c54 c55 c5f
    clear c60 c61 c62 c6f
    clear c70 c71 c72 c73 c74 c75 c7f
    clear c90 c91 c92 c93 c94 c95 c9f
    have h2 := h'.grow BEL
    with_reducible refine (drawPart_any _ a' len' cap' zs' h2).mono ?_
    rintro e w7 ⟨d2, f2, l2, n2, LA2, LB2, A5, c5a, B5, c5b, _, rfl, ⟨o2, D2, g2, rfl, hD2⟩, ⟨hd2, hA2, hB2⟩, hI, hJ, hb⟩
    have hsz7 := hb.size
    have X5 := hid_of (X5.out.grow hb)
    have X6 := hid_of (X6.out.grow hb)
    have X7 := hid_of (X7.out.grow hb)
    have X9 := hid_of (X9.out.grow hb)
    have I0 := hid_of (I0.out.grow hb)
    have I1 := hid_of (I1.out.grow hb)
    have I2 := hid_of (I2.out.grow hb)
    have BEL := BEL.trans (hb.mono BEL.size)
    have I5 := hid_of (In2.of hI hJ)
    clear hI hJ hb
    clear h' h2
    go_upto_region 9 with (fail)
    generalize hW : World.alloc (World.alloc w7 _) _ = w8
    have hb : Below w7.heap.size w7 w8 := by rw [← hW]; exact ba (ba (Below.refl _ _) _) _
    have X5 := hid_of (X5.out.grow hb)
    have X6 := hid_of (X6.out.grow hb)
    have X7 := hid_of (X7.out.grow hb)
    have X9 := hid_of (X9.out.grow hb)
    have I0 := hid_of (I0.out.grow hb)
    have I1 := hid_of (I1.out.grow hb)
    have I2 := hid_of (I2.out.grow hb)
    have I5 := hid_of (I5.out.grow hb)
    have BEL := BEL.trans (hb.mono BEL.size)
    have hsz8 : w7.heap.size + 2 ≤ w8.heap.size := by rw [← hW]; simp
    have X11 : Hid (Own6 w8 w7.heap.size d2 f2 l2 n2 A5 LA2.length c5a B5 LB2.length c5b) := by rw [← hW]; exact hid_of ((Own6.newT _ _).alloc _)
    have X12 : Hid (Own3 w8 (w7.heap.size + 1) o2 D2 g2) := by rw [← hW]; exact hid_of (Own3.newT2 _ _)
    clear hW hb
    obtain ⟨⟨⟨d3, f3, l3, n3, LA3, LB3⟩, b3⟩, hx3⟩ : ∃ x, sendAck ⟨d1, f1, l1, n1, LA1, LB1⟩ ⟨o2, D2, g2⟩ = x := ⟨_, rfl⟩
    have hlen3 : LA3.length ≤ 2000000 ∧ LB3.length ≤ 2000000 := by have := sendAck_len ⟨d1, f1, l1, n1, LA1, LB1⟩ ⟨o2, D2, g2⟩; rw [hx3] at this; exact ⟨by have := this.1; dsimp only at this; omega, by have := this.2; dsimp only at this; omega⟩
    obtain ⟨hla3, hlb3⟩ := hlen3
    have HX3 := hid_of hx3
    clear hx3
    obtain ⟨⟨⟨d4, f4, l4, n4, LA4, LB4⟩, b4⟩, hx4⟩ : ∃ x, sendAck ⟨d, f, l, n', LA, LB⟩ ⟨o2, D2, g2⟩ = x := ⟨_, rfl⟩
    have hlen4 : LA4.length ≤ 2000000 ∧ LB4.length ≤ 2000000 := by have := sendAck_len ⟨d, f, l, n', LA, LB⟩ ⟨o2, D2, g2⟩; rw [hx4] at this; exact ⟨by have := this.1; dsimp only at this; omega, by have := this.2; dsimp only at this; omega⟩
    obtain ⟨hla4, hlb4⟩ := hlen4
    have HX4 := hid_of hx4
    clear hx4
    obtain ⟨⟨c70, c71, c72, c73, c74, c75⟩, c7f⟩ := X7.out
    obtain ⟨⟨c120, c121, c122⟩, c12f⟩ := X12.out
    go_wp2_with fail
    clear c70 c71 c72 c73 c74 c75 c7f
    clear c120 c121 c122 c12f
    with_reducible refine (sack_i _ _ _ _ LA1 LB1 A1 c1a B1 c1b o2 D2 g2 _ I1.out.a I1.out.b I1.out.ea I1.out.eb (by omega) (by omega) (by omega) I1.out.la).mono ?_
    rw [HX3.out]
    rintro e w9 ⟨⟨_, rfl, A3, c3a, B3, c3b, rfl, hI, hJ, hap⟩, hb⟩
    dsimp only at hI hJ
    have hsz9 := hb.size
    have X5 := hid_of (X5.out.grow hb)
    have X6 := hid_of (X6.out.grow hb)
    have X7 := hid_of (X7.out.grow hb)
    have X9 := hid_of (X9.out.grow hb)
    have X11 := hid_of (X11.out.grow hb)
    have X12 := hid_of (X12.out.grow hb)
    have I0 := hid_of (I0.out.grow hb)
    have I1 := hid_of (I1.out.grow hb)
    have I2 := hid_of (I2.out.grow hb)
    have I5 := hid_of (I5.out.grow hb)
    have BEL := BEL.trans (hb.mono BEL.size)
    have I3 := hid_of (In2.of hI hJ)
    clear hI hJ hap hb
    go_upto_region 10 with (fail)
    generalize hW : World.alloc w9 _ = w10
    have hb : Below w9.heap.size w9 w10 := by rw [← hW]; exact ba (Below.refl _ _) _
    have X5 := hid_of (X5.out.grow hb)
    have X6 := hid_of (X6.out.grow hb)
    have X7 := hid_of (X7.out.grow hb)
    have X9 := hid_of (X9.out.grow hb)
    have X11 := hid_of (X11.out.grow hb)
    have X12 := hid_of (X12.out.grow hb)
    have I0 := hid_of (I0.out.grow hb)
    have I1 := hid_of (I1.out.grow hb)
    have I2 := hid_of (I2.out.grow hb)
    have I5 := hid_of (I5.out.grow hb)
    have I3 := hid_of (I3.out.grow hb)
    have BEL := BEL.trans (hb.mono BEL.size)
    have hsz10 : w9.heap.size + 1 ≤ w10.heap.size := by rw [← hW]; simp
    have X13 : Hid (Own6 w10 w9.heap.size d3 f3 l3 n3 A3 LA3.length c3a B3 LB3.length c3b) := by rw [← hW]; exact hid_of (Own6.newT _ _)
    clear hW hb
    obtain ⟨⟨c50, c51, c52, c53, c54, c55⟩, c5f⟩ := X5.out
    obtain ⟨⟨c120, c121, c122⟩, c12f⟩ := X12.out
    go_wp2_with fail
    clear c50 c51 c52 c53 c54 c55 c5f
    clear c120 c121 c122 c12f
    with_reducible refine (sack_i _ _ _ _ LA LB A ca B cb o2 D2 g2 _ I0.out.a I0.out.b I0.out.ea I0.out.eb (by omega) (by omega) (by omega) I0.out.la).mono ?_
    rw [HX4.out]
    rintro e w11 ⟨⟨_, rfl, A4, c4a, B4, c4b, rfl, hI, hJ, hap⟩, hb⟩
    dsimp only at hI hJ
    have hsz11 := hb.size
    have X5 := hid_of (X5.out.grow hb)
    have X6 := hid_of (X6.out.grow hb)
    have X7 := hid_of (X7.out.grow hb)
    have X9 := hid_of (X9.out.grow hb)
    have X11 := hid_of (X11.out.grow hb)
    have X12 := hid_of (X12.out.grow hb)
    have X13 := hid_of (X13.out.grow hb)
    have I0 := hid_of (I0.out.grow hb)
    have I1 := hid_of (I1.out.grow hb)
    have I2 := hid_of (I2.out.grow hb)
    have I5 := hid_of (I5.out.grow hb)
    have I3 := hid_of (I3.out.grow hb)
    have BEL := BEL.trans (hb.mono BEL.size)
    have I4 := hid_of (In2.of hI hJ)
    clear hI hJ hap hb
    go_upto_region 11 with (fail)
    generalize hW : World.alloc w11 _ = w12
    have hb : Below w11.heap.size w11 w12 := by rw [← hW]; exact ba (Below.refl _ _) _
    have X5 := hid_of (X5.out.grow hb)
    have X6 := hid_of (X6.out.grow hb)
    have X7 := hid_of (X7.out.grow hb)
    have X9 := hid_of (X9.out.grow hb)
    have X11 := hid_of (X11.out.grow hb)
    have X12 := hid_of (X12.out.grow hb)
    have X13 := hid_of (X13.out.grow hb)
    have I0 := hid_of (I0.out.grow hb)
    have I1 := hid_of (I1.out.grow hb)
    have I2 := hid_of (I2.out.grow hb)
    have I5 := hid_of (I5.out.grow hb)
    have I3 := hid_of (I3.out.grow hb)
    have I4 := hid_of (I4.out.grow hb)
    have BEL := BEL.trans (hb.mono BEL.size)
    have hsz12 : w11.heap.size + 1 ≤ w12.heap.size := by rw [← hW]; simp
    have X15 : Hid (Own6 w12 w11.heap.size d4 f4 l4 n4 A4 LA4.length c4a B4 LB4.length c4b) := by rw [← hW]; exact hid_of (Own6.newT _ _)
    clear hW hb
    obtain ⟨hbb, hao⟩ := ackOrder HX.out HX3.out HX4.out
    subst hbb
    have HAO := hid_of hao
    clear hao
    cases b3 with
    | false =>
      go_wp2_with fail
      go_ret
      exact ⟨rfl, BEL⟩
    | true =>
      have HT := hid_of (HAO.out rfl)
      obtain ⟨⟨c150, c151, c152, c153, c154, c155⟩, c15f⟩ := X15.out
      obtain ⟨⟨c60, c61, c62⟩, c6f⟩ := X6.out
      go_wp2_with fail
      clear c150 c151 c152 c153 c154 c155 c15f
      clear c60 c61 c62 c6f
      with_reducible refine (sack_i _ _ _ _ LA4 LB4 A4 c4a B4 c4b o D g _ I4.out.a I4.out.b I4.out.ea I4.out.eb (by omega) (by omega) (by omega) I4.out.la).mono ?_
      rw [HT.out]
      rintro e w13 ⟨⟨_, rfl, A6, c6a, B6, c6b, rfl, hI, hJ, hap⟩, hb⟩
      dsimp only at hI hJ
      have hsz13 := hb.size
      have X5 := hid_of (X5.out.grow hb)
      have X6 := hid_of (X6.out.grow hb)
      have X7 := hid_of (X7.out.grow hb)
      have X9 := hid_of (X9.out.grow hb)
      have X11 := hid_of (X11.out.grow hb)
      have X12 := hid_of (X12.out.grow hb)
      have X13 := hid_of (X13.out.grow hb)
      have X15 := hid_of (X15.out.grow hb)
      have I0 := hid_of (I0.out.grow hb)
      have I1 := hid_of (I1.out.grow hb)
      have I2 := hid_of (I2.out.grow hb)
      have I5 := hid_of (I5.out.grow hb)
      have I3 := hid_of (I3.out.grow hb)
      have I4 := hid_of (I4.out.grow hb)
      have BEL := BEL.trans (hb.mono BEL.size)
      have I6 := hid_of (In2.of hI hJ)
      clear hI hJ hap hb
      go_upto_region 14 with (fail)
      generalize hW : World.alloc w13 _ = w14
      have hb : Below w13.heap.size w13 w14 := by rw [← hW]; exact ba (Below.refl _ _) _
      have X5 := hid_of (X5.out.grow hb)
      have X6 := hid_of (X6.out.grow hb)
      have X7 := hid_of (X7.out.grow hb)
      have X9 := hid_of (X9.out.grow hb)
      have X11 := hid_of (X11.out.grow hb)
      have X12 := hid_of (X12.out.grow hb)
      have X13 := hid_of (X13.out.grow hb)
      have X15 := hid_of (X15.out.grow hb)
      have I0 := hid_of (I0.out.grow hb)
      have I1 := hid_of (I1.out.grow hb)
      have I2 := hid_of (I2.out.grow hb)
      have I5 := hid_of (I5.out.grow hb)
      have I3 := hid_of (I3.out.grow hb)
      have I4 := hid_of (I4.out.grow hb)
      have I6 := hid_of (I6.out.grow hb)
      have BEL := BEL.trans (hb.mono BEL.size)
      have hsz14 : w13.heap.size + 1 ≤ w14.heap.size := by rw [← hW]; simp
      have X17 : Hid (Own6 w14 w13.heap.size d3 f3 l3 n3 A6 LA3.length c6a B6 LB3.length c6b) := by rw [← hW]; exact hid_of (Own6.newT _ _)
      clear hW hb
      obtain ⟨⟨c130, c131, c132, c133, c134, c135⟩, c13f⟩ := X13.out
      obtain ⟨⟨c170, c171, c172, c173, c174, c175⟩, c17f⟩ := X17.out
      go_wp2_with (go_at_call 16; (with_reducible refine (sameS_any _ _ _ _ _ _ _ _ _ _ _ _ _ _ _ I6.out.a I6.out.b I3.out.a I3.out.b (by omega) (by omega)).mono ?_); rintro e wn ⟨rfl, hb⟩; have X5 := hid_of (X5.out.grow hb); have X6 := hid_of (X6.out.grow hb); have X7 := hid_of (X7.out.grow hb); have X9 := hid_of (X9.out.grow hb); have X11 := hid_of (X11.out.grow hb); have X12 := hid_of (X12.out.grow hb); have X13 := hid_of (X13.out.grow hb); have X15 := hid_of (X15.out.grow hb); have X17 := hid_of (X17.out.grow hb); have I0 := hid_of (I0.out.grow hb); have I1 := hid_of (I1.out.grow hb); have I2 := hid_of (I2.out.grow hb); have I5 := hid_of (I5.out.grow hb); have I3 := hid_of (I3.out.grow hb); have I4 := hid_of (I4.out.grow hb); have I6 := hid_of (I6.out.grow hb); have BEL := BEL.trans (hb.mono BEL.size); obtain ⟨⟨c130, c131, c132, c133, c134, c135⟩, c13f⟩ := X13.out; obtain ⟨⟨c170, c171, c172, c173, c174, c175⟩, c17f⟩ := X17.out; clear hb)
      go_ret
      exact ⟨rfl, BEL⟩

end Go.Proofs.Ytmkmaeblnnfheab
