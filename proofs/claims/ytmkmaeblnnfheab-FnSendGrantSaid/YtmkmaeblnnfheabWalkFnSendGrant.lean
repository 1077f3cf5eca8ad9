/- The walk of the law FnSendGrant. -/
import Derived.Test.YtmkmaeblnnfheabLawKit
import Derived.Test.YtmkmaeblnnfheabMg6
import Derived.Test.YtmkmaeblnnfheabMg5
namespace Go.Proofs.Ytmkmaeblnnfheab
open Go.RowKit
attribute [local irreducible] Go.wpQuiet

set_option linter.unusedVariables false in
set_option maxRecDepth 100000 in
set_option maxHeartbeats 8000000 in
theorem walkFnSendGrant (w : World) (a : Option Addr) (len cap : Nat) (zs : List Int) (h : IsRow .u8 w a len cap zs) :
    Calls Try.prog 7 #[.slice a len cap] w fun e w' => e = .returned (.bool true) ∧ Below w.heap.size w w' := by
  by_cases hllen : 1048576 < len
  · go_enter Try.func7, Try.ntmps7
    go_wp2
    go_ret
    exact ⟨rfl, Below.refl _ _⟩
  have BEL : Below w.heap.size w w := Below.refl _ _
  go_enter Try.func7, Try.ntmps7
  go_wp2_with fail
  with_reducible refine (drawGrant_any _ a len cap zs h).mono ?_
  rintro e w1 ⟨d, f, l, n', LA, LB, A, ca, B, cb, _, rfl, ⟨k, rfl, hk0, hk1⟩, ⟨hd, hA, hB⟩, hI, hJ, hb⟩
  have hsz1 := hb.size
  have BEL := BEL.trans (hb.mono BEL.size)
  have I0 := hid_of (In2.of hI hJ)
  clear hI hJ hb
  clear h
  obtain ⟨⟨⟨d1, f1, l1, n1, LA1, LB1⟩, b⟩, hx⟩ : ∃ x, sendGrant ⟨d, f, l, n', LA, LB⟩ k = x := ⟨_, rfl⟩
  have hlen : LA1.length ≤ 2000000 ∧ LB1.length ≤ 2000000 := by have := sendGrant_len ⟨d, f, l, n', LA, LB⟩ k; rw [hx] at this; exact ⟨by have := this.1; dsimp only at this; omega, by have := this.2; dsimp only at this; omega⟩
  obtain ⟨hl1, hl2⟩ := hlen
  have HX := hid_of hx
  clear hx
  go_upto_region 4 with (fail)
  generalize hW : World.alloc w1 _ = w2
  have hb : Below w1.heap.size w1 w2 := by rw [← hW]; exact ba (Below.refl _ _) _
  have I0 := hid_of (I0.out.grow hb)
  have BEL := BEL.trans (hb.mono BEL.size)
  have hsz2 : w1.heap.size + 1 ≤ w2.heap.size := by rw [← hW]; simp
  have X3 : Hid (Own6 w2 w1.heap.size d f l n' A LA.length ca B LB.length cb) := by rw [← hW]; exact hid_of (Own6.newT _ _)
  clear hW hb
  obtain ⟨⟨c30, c31, c32, c33, c34, c35⟩, c3f⟩ := X3.out
  go_wp2_with fail
  clear c30 c31 c32 c33 c34 c35 c3f
  with_reducible refine (grant_i _ _ _ _ LA LB A ca B cb k _ I0.out.a I0.out.b I0.out.ea I0.out.eb (by omega) (by omega)).mono ?_
  rw [HX.out]
  rintro e w3 ⟨⟨_, rfl, A1, c1a, B1, c1b, rfl, hI, hJ, hap⟩, hb⟩
  dsimp only at hI hJ
  have hsz3 := hb.size
  have X3 := hid_of (X3.out.grow hb)
  have I0 := hid_of (I0.out.grow hb)
  have BEL := BEL.trans (hb.mono BEL.size)
  have I1 := hid_of (In2.of hI hJ)
  clear hI hJ hap hb
  go_upto_region 5 with (fail)
  generalize hW : World.alloc w3 _ = w4
  have hb : Below w3.heap.size w3 w4 := by rw [← hW]; exact ba (Below.refl _ _) _
  have X3 := hid_of (X3.out.grow hb)
  have I0 := hid_of (I0.out.grow hb)
  have I1 := hid_of (I1.out.grow hb)
  have BEL := BEL.trans (hb.mono BEL.size)
  have hsz4 : w3.heap.size + 1 ≤ w4.heap.size := by rw [← hW]; simp
  have X5 : Hid (Own6 w4 w3.heap.size d1 f1 l1 n1 A1 LA1.length c1a B1 LB1.length c1b) := by rw [← hW]; exact hid_of (Own6.newT _ _)
  clear hW hb
  obtain ⟨⟨c30, c31, c32, c33, c34, c35⟩, c3f⟩ := X3.out
  go_wp2_with fail
  clear c30 c31 c32 c33 c34 c35 c3f
  with_reducible refine (grant_s _ _ _ _ LA LB A ca B cb k _ I0.out.a I0.out.b I0.out.ea I0.out.eb (by omega) (by omega)).mono ?_
  rw [HX.out]
  rintro e w5 ⟨⟨_, rfl, A2, c2a, B2, c2b, rfl, hI, hJ, hap⟩, hb⟩
  dsimp only at hI hJ
  have hsz5 := hb.size
  have X3 := hid_of (X3.out.grow hb)
  have X5 := hid_of (X5.out.grow hb)
  have I0 := hid_of (I0.out.grow hb)
  have I1 := hid_of (I1.out.grow hb)
  have BEL := BEL.trans (hb.mono BEL.size)
  have I2 := hid_of (In2.of hI hJ)
  clear hI hJ hap hb
  go_upto_region 6 with (fail)
  generalize hW : World.alloc w5 _ = w6
  have hb : Below w5.heap.size w5 w6 := by rw [← hW]; exact ba (Below.refl _ _) _
  have X3 := hid_of (X3.out.grow hb)
  have X5 := hid_of (X5.out.grow hb)
  have I0 := hid_of (I0.out.grow hb)
  have I1 := hid_of (I1.out.grow hb)
  have I2 := hid_of (I2.out.grow hb)
  have BEL := BEL.trans (hb.mono BEL.size)
  have hsz6 : w5.heap.size + 1 ≤ w6.heap.size := by rw [← hW]; simp
  have X7 : Hid (Own6 w6 w5.heap.size d1 f1 l1 n1 A2 LA1.length c2a B2 LB1.length c2b) := by rw [← hW]; exact hid_of (Own6.newT _ _)
  clear hW hb
  cases b with
  | false =>
    obtain ⟨⟨c30, c31, c32, c33, c34, c35⟩, c3f⟩ := X3.out
    obtain ⟨⟨c50, c51, c52, c53, c54, c55⟩, c5f⟩ := X5.out
    obtain ⟨⟨c70, c71, c72, c73, c74, c75⟩, c7f⟩ := X7.out
    go_wp2_with (go_at_call 16; (with_reducible refine (sameS_any _ _ _ _ _ _ _ _ _ _ _ _ _ _ _ I1.out.a I1.out.b I2.out.a I2.out.b (by omega) (by omega)).mono ?_); rintro e wn ⟨rfl, hb⟩; have X3 := hid_of (X3.out.grow hb); have X5 := hid_of (X5.out.grow hb); have X7 := hid_of (X7.out.grow hb); have I0 := hid_of (I0.out.grow hb); have I1 := hid_of (I1.out.grow hb); have I2 := hid_of (I2.out.grow hb); have BEL := BEL.trans (hb.mono BEL.size); obtain ⟨⟨c30, c31, c32, c33, c34, c35⟩, c3f⟩ := X3.out; obtain ⟨⟨c50, c51, c52, c53, c54, c55⟩, c5f⟩ := X5.out; obtain ⟨⟨c70, c71, c72, c73, c74, c75⟩, c7f⟩ := X7.out; clear hb)
    go_ret
    exact ⟨rfl, BEL⟩
  | true =>
    obtain ⟨hs, hlm, hm30, he⟩ := sendGrant_yes HX.out
    dsimp only at hlm he
    have hga := grant_after (m := k) hs hlm hm30
    cases he
    clear HX hs
    obtain ⟨⟨⟨d2, f2, l2, n2, LA2, LB2⟩, ⟨o2, p2, g2⟩, b2⟩, hx2⟩ : ∃ x, sendNext ⟨d, f, l, n', LA, LB⟩ 12 = x := ⟨_, rfl⟩
    obtain ⟨⟨⟨d3, f3, l3, n3, LA3, LB3⟩, ⟨o3, p3, g3⟩, b3⟩, hx3⟩ : ∃ x, sendNext ⟨d, f, k, n', LA, LB⟩ 12 = x := ⟨_, rfl⟩
    dsimp only at hga
    rw [hx2, hx3] at hga
    dsimp only at hga
    have HX2 := hid_of hx2
    have HX3 := hid_of hx3
    have HGA := hid_of hga
    clear hx2 hx3 hga
    obtain ⟨⟨c30, c31, c32, c33, c34, c35⟩, c3f⟩ := X3.out
    obtain ⟨⟨c50, c51, c52, c53, c54, c55⟩, c5f⟩ := X5.out
    obtain ⟨⟨c70, c71, c72, c73, c74, c75⟩, c7f⟩ := X7.out
    go_upto_region 8 with (go_at_call 16; (with_reducible refine (sameS_any _ _ _ _ _ _ _ _ _ _ _ _ _ _ _ I1.out.a I1.out.b I2.out.a I2.out.b (by omega) (by omega)).mono ?_); rintro e wn ⟨rfl, hb⟩; have X3 := hid_of (X3.out.grow hb); have X5 := hid_of (X5.out.grow hb); have X7 := hid_of (X7.out.grow hb); have I0 := hid_of (I0.out.grow hb); have I1 := hid_of (I1.out.grow hb); have I2 := hid_of (I2.out.grow hb); have BEL := BEL.trans (hb.mono BEL.size); obtain ⟨⟨c30, c31, c32, c33, c34, c35⟩, c3f⟩ := X3.out; obtain ⟨⟨c50, c51, c52, c53, c54, c55⟩, c5f⟩ := X5.out; obtain ⟨⟨c70, c71, c72, c73, c74, c75⟩, c7f⟩ := X7.out; clear hb)
    rename World => w7
    clear c30 c31 c32 c33 c34 c35 c3f
    clear c50 c51 c52 c53 c54 c55 c5f
    clear c70 c71 c72 c73 c74 c75 c7f
    obtain ⟨⟨c30, c31, c32, c33, c34, c35⟩, c3f⟩ := X3.out
    go_upto_region 9 with (fail)
    generalize hA : World.alloc w7 _ = wa
    have XA : Hid (Own6 wa w7.heap.size d f l n' A LA.length ca B LB.length cb) := by rw [← hA]; exact hid_of (Own6.newT _ _)
    have hba : Below w7.heap.size w7 wa := by rw [← hA]; exact ba (Below.refl _ _) _
    have hsa : w7.heap.size + 1 ≤ wa.heap.size := by rw [← hA]; simp
    clear c30 c31 c32 c33 c34 c35 c3f
    obtain ⟨⟨ca0, ca1, ca2, ca3, ca4, ca5⟩, caf⟩ := XA.out
    clear hA
    go_upto_region 10 with (fail)
    generalize hW : World.setCell wa _ _ = w8
    have hb : Below w7.heap.size w7 w8 := by rw [← hW]; exact hba.setCell (Nat.le_refl _) _
    have X3 := hid_of (X3.out.grow hb)
    have X5 := hid_of (X5.out.grow hb)
    have X7 := hid_of (X7.out.grow hb)
    have I0 := hid_of (I0.out.grow hb)
    have I1 := hid_of (I1.out.grow hb)
    have I2 := hid_of (I2.out.grow hb)
    have BEL := BEL.trans (hb.mono BEL.size)
    have hsz8 : w7.heap.size + 1 ≤ w8.heap.size := by rw [← hW]; simpa [World.setCell] using hsa
    have X9 : Hid (Own6 w8 w7.heap.size d f k n' A LA.length ca B LB.length cb) := by rw [← hW]; exact hid_of (XA.out.set2 _)
    clear hW hb hba hsa XA ca0 ca1 ca2 ca3 ca4 ca5 caf
    obtain ⟨⟨c30, c31, c32, c33, c34, c35⟩, c3f⟩ := X3.out
    go_wp2_with fail
    clear c30 c31 c32 c33 c34 c35 c3f
    with_reducible refine (snext_i _ _ _ _ LA LB A ca B cb 12 _ I0.out.a I0.out.b I0.out.ea I0.out.eb (by omega) (by omega)).mono ?_
    rw [HX2.out]
    rintro e w9 ⟨⟨_, rfl, A4, c4a, B4, c4b, rfl, hI, hJ, hap⟩, hb⟩
    dsimp only at hI hJ
    have hsz9 := hb.size
    have X3 := hid_of (X3.out.grow hb)
    have X5 := hid_of (X5.out.grow hb)
    have X7 := hid_of (X7.out.grow hb)
    have X9 := hid_of (X9.out.grow hb)
    have I0 := hid_of (I0.out.grow hb)
    have I1 := hid_of (I1.out.grow hb)
    have I2 := hid_of (I2.out.grow hb)
    have BEL := BEL.trans (hb.mono BEL.size)
    have I4 := hid_of (In2.of hI hJ)
    clear hI hJ hap hb
    go_upto_region 11 with (fail)
    generalize hW : World.alloc (World.alloc w9 _) _ = w10
    have hb : Below w9.heap.size w9 w10 := by rw [← hW]; exact ba (ba (Below.refl _ _) _) _
    have X3 := hid_of (X3.out.grow hb)
    have X5 := hid_of (X5.out.grow hb)
    have X7 := hid_of (X7.out.grow hb)
    have X9 := hid_of (X9.out.grow hb)
    have I0 := hid_of (I0.out.grow hb)
    have I1 := hid_of (I1.out.grow hb)
    have I2 := hid_of (I2.out.grow hb)
    have I4 := hid_of (I4.out.grow hb)
    have BEL := BEL.trans (hb.mono BEL.size)
    have hsz10 : w9.heap.size + 2 ≤ w10.heap.size := by rw [← hW]; simp
    have X10 : Hid (Own6 w10 w9.heap.size d2 f2 l2 n2 A4 LA2.length c4a B4 LB2.length c4b) := by rw [← hW]; exact hid_of ((Own6.newT _ _).alloc _)
    have X11 : Hid (Own3 w10 (w9.heap.size + 1) o2 p2 g2) := by rw [← hW]; exact hid_of (Own3.newT2 _ _)
    clear hW hb
    obtain ⟨⟨c50, c51, c52, c53, c54, c55⟩, c5f⟩ := X5.out
    go_wp2_with fail
    clear c50 c51 c52 c53 c54 c55 c5f
    with_reducible refine (snext_i _ _ _ _ LA LB A1 c1a B1 c1b 12 _ I1.out.a I1.out.b I1.out.ea I1.out.eb (by omega) (by omega)).mono ?_
    rw [HX3.out]
    rintro e w11 ⟨⟨_, rfl, A5, c5a, B5, c5b, rfl, hI, hJ, hap⟩, hb⟩
    dsimp only at hI hJ
    have hsz11 := hb.size
    have X3 := hid_of (X3.out.grow hb)
    have X5 := hid_of (X5.out.grow hb)
    have X7 := hid_of (X7.out.grow hb)
    have X9 := hid_of (X9.out.grow hb)
    have X10 := hid_of (X10.out.grow hb)
    have X11 := hid_of (X11.out.grow hb)
    have I0 := hid_of (I0.out.grow hb)
    have I1 := hid_of (I1.out.grow hb)
    have I2 := hid_of (I2.out.grow hb)
    have I4 := hid_of (I4.out.grow hb)
    have BEL := BEL.trans (hb.mono BEL.size)
    have I5 := hid_of (In2.of hI hJ)
    clear hI hJ hap hb
    go_upto_region 12 with (fail)
    generalize hW : World.alloc (World.alloc w11 _) _ = w12
    have hb : Below w11.heap.size w11 w12 := by rw [← hW]; exact ba (ba (Below.refl _ _) _) _
    have X3 := hid_of (X3.out.grow hb)
    have X5 := hid_of (X5.out.grow hb)
    have X7 := hid_of (X7.out.grow hb)
    have X9 := hid_of (X9.out.grow hb)
    have X10 := hid_of (X10.out.grow hb)
    have X11 := hid_of (X11.out.grow hb)
    have I0 := hid_of (I0.out.grow hb)
    have I1 := hid_of (I1.out.grow hb)
    have I2 := hid_of (I2.out.grow hb)
    have I4 := hid_of (I4.out.grow hb)
    have I5 := hid_of (I5.out.grow hb)
    have BEL := BEL.trans (hb.mono BEL.size)
    have hsz12 : w11.heap.size + 2 ≤ w12.heap.size := by rw [← hW]; simp
    have X13 : Hid (Own6 w12 w11.heap.size d3 f3 l3 n3 A5 LA3.length c5a B5 LB3.length c5b) := by rw [← hW]; exact hid_of ((Own6.newT _ _).alloc _)
    have X14 : Hid (Own3 w12 (w11.heap.size + 1) o3 p3 g3) := by rw [← hW]; exact hid_of (Own3.newT2 _ _)
    clear hW hb
    have hlm' : l ≤ k := hlm
    cases b2 with
    | true =>
      have hb3 : b3 = true := HGA.out rfl
      subst hb3
      obtain ⟨⟨c30, c31, c32, c33, c34, c35⟩, c3f⟩ := X3.out
      obtain ⟨⟨c50, c51, c52, c53, c54, c55⟩, c5f⟩ := X5.out
      obtain ⟨⟨c90, c91, c92, c93, c94, c95⟩, c9f⟩ := X9.out
      go_wp2_with (go_at_call 16; (with_reducible refine (sameS_any _ _ _ _ _ _ _ _ _ _ _ _ _ _ _ I1.out.a I1.out.b I0.out.a I0.out.b (by omega) (by omega)).mono ?_); rintro e wn ⟨rfl, hb⟩; have X3 := hid_of (X3.out.grow hb); have X5 := hid_of (X5.out.grow hb); have X7 := hid_of (X7.out.grow hb); have X9 := hid_of (X9.out.grow hb); have X10 := hid_of (X10.out.grow hb); have X11 := hid_of (X11.out.grow hb); have X13 := hid_of (X13.out.grow hb); have X14 := hid_of (X14.out.grow hb); have I0 := hid_of (I0.out.grow hb); have I1 := hid_of (I1.out.grow hb); have I2 := hid_of (I2.out.grow hb); have I4 := hid_of (I4.out.grow hb); have I5 := hid_of (I5.out.grow hb); have BEL := BEL.trans (hb.mono BEL.size); obtain ⟨⟨c30, c31, c32, c33, c34, c35⟩, c3f⟩ := X3.out; obtain ⟨⟨c50, c51, c52, c53, c54, c55⟩, c5f⟩ := X5.out; obtain ⟨⟨c90, c91, c92, c93, c94, c95⟩, c9f⟩ := X9.out; clear hb)
      go_ret
      exact ⟨rfl, BEL⟩
    | false =>
      cases b3 with
      | true =>
        obtain ⟨⟨c30, c31, c32, c33, c34, c35⟩, c3f⟩ := X3.out
        obtain ⟨⟨c50, c51, c52, c53, c54, c55⟩, c5f⟩ := X5.out
        obtain ⟨⟨c90, c91, c92, c93, c94, c95⟩, c9f⟩ := X9.out
        go_wp2_with (go_at_call 16; (with_reducible refine (sameS_any _ _ _ _ _ _ _ _ _ _ _ _ _ _ _ I1.out.a I1.out.b I0.out.a I0.out.b (by omega) (by omega)).mono ?_); rintro e wn ⟨rfl, hb⟩; have X3 := hid_of (X3.out.grow hb); have X5 := hid_of (X5.out.grow hb); have X7 := hid_of (X7.out.grow hb); have X9 := hid_of (X9.out.grow hb); have X10 := hid_of (X10.out.grow hb); have X11 := hid_of (X11.out.grow hb); have X13 := hid_of (X13.out.grow hb); have X14 := hid_of (X14.out.grow hb); have I0 := hid_of (I0.out.grow hb); have I1 := hid_of (I1.out.grow hb); have I2 := hid_of (I2.out.grow hb); have I4 := hid_of (I4.out.grow hb); have I5 := hid_of (I5.out.grow hb); have BEL := BEL.trans (hb.mono BEL.size); obtain ⟨⟨c30, c31, c32, c33, c34, c35⟩, c3f⟩ := X3.out; obtain ⟨⟨c50, c51, c52, c53, c54, c55⟩, c5f⟩ := X5.out; obtain ⟨⟨c90, c91, c92, c93, c94, c95⟩, c9f⟩ := X9.out; clear hb)
        go_ret
        exact ⟨rfl, BEL⟩
      | false =>
        obtain ⟨⟨c30, c31, c32, c33, c34, c35⟩, c3f⟩ := X3.out
        obtain ⟨⟨c50, c51, c52, c53, c54, c55⟩, c5f⟩ := X5.out
        obtain ⟨⟨c90, c91, c92, c93, c94, c95⟩, c9f⟩ := X9.out
        go_wp2_with (go_at_call 16; (with_reducible refine (sameS_any _ _ _ _ _ _ _ _ _ _ _ _ _ _ _ I1.out.a I1.out.b I0.out.a I0.out.b (by omega) (by omega)).mono ?_); rintro e wn ⟨rfl, hb⟩; have X3 := hid_of (X3.out.grow hb); have X5 := hid_of (X5.out.grow hb); have X7 := hid_of (X7.out.grow hb); have X9 := hid_of (X9.out.grow hb); have X10 := hid_of (X10.out.grow hb); have X11 := hid_of (X11.out.grow hb); have X13 := hid_of (X13.out.grow hb); have X14 := hid_of (X14.out.grow hb); have I0 := hid_of (I0.out.grow hb); have I1 := hid_of (I1.out.grow hb); have I2 := hid_of (I2.out.grow hb); have I4 := hid_of (I4.out.grow hb); have I5 := hid_of (I5.out.grow hb); have BEL := BEL.trans (hb.mono BEL.size); obtain ⟨⟨c30, c31, c32, c33, c34, c35⟩, c3f⟩ := X3.out; obtain ⟨⟨c50, c51, c52, c53, c54, c55⟩, c5f⟩ := X5.out; obtain ⟨⟨c90, c91, c92, c93, c94, c95⟩, c9f⟩ := X9.out; clear hb)
        go_ret
        exact ⟨rfl, BEL⟩

end Go.Proofs.Ytmkmaeblnnfheab
