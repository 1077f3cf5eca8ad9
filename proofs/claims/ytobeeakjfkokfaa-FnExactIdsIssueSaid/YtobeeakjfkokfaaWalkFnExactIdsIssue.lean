/- The walk of the law FnExactIdsIssue: the program's and the reference's function return the same, so the law answers true. -/
import Derived.Test.YtobeeakjfkokfaaIdsC
import Derived.Test.YtobeeakjfkokfaaIdsH
import Derived.Test.YtobeeakjfkokfaaIdsI
namespace Go.Proofs.Ytobeeakjfkokfaa
open Go.RowKit

set_option maxHeartbeats 4000000 in
theorem walkFnExactIdsIssue (w : World) (A : Option Addr) (n c : Nat) (L : List Cid) (hm : n ≤ maxLen) (h : LawIds w A n L) (v : Int) :
    Calls Try.prog 9 #[.slice A n c, .int .i64 v] w fun e w' => e = .returned (.bool true) ∧ Below w.heap.size w w' := by
  unfold maxLen at hm
  obtain rfl := h.1
  by_cases hbig : 1048576 < L.length
  · go_enter Try.func9, Try.ntmps9
    go_wp2_with fail
    refine (sz_any _ _ _ _ (by omega)).mono ?_
    rintro e w1 ⟨rfl, rfl⟩
    rw [if_pos hbig]
    go_wp2_with fail
    go_ret
    exact ⟨rfl, Below.refl _ _⟩
  have hn : L.length ≤ 2000000 := by omega
  have hM : (issue L v).1.length ≤ 2000000 := by have := len_issue L v; omega
  obtain ⟨M, k, b, hr⟩ : ∃ M k b, issue L v = (M, k, b) := ⟨_, _, _, rfl⟩
  rw [hr] at hM
  dsimp only at hM
  have HR := hid_of hr
  clear hr
  go_enter Try.func9, Try.ntmps9
  go_wp2_with fail
  refine (sz_any _ _ _ _ (by omega)).mono ?_
  rintro e w0 ⟨rfl, rfl⟩
  rw [if_neg hbig]
  have HB0 : Below w.heap.size w w := Below.refl _ _
  go_wp2_with fail
  refine (toS_any _ _ _ _ _ (h.below HB0) (by omega)).mono ?_
  rintro e w1 ⟨A1, n1, c1, rfl, I1, hb1⟩
  obtain rfl := I1.1
  have HB1 : Below w.heap.size w w1 := HB0.trans (hb1.mono HB0.size)
  have hs1 := hb1.size
  go_wp2_with fail
  refine (idsIssue_s _ _ _ _ _ v I1 hn).mono ?_
  rw [HR.out]
  rintro e w2 ⟨A2, n2, c2, rfl, I2, hb2⟩
  obtain rfl := I2.1
  dsimp only at I2
  have HB2 : Below w.heap.size w w2 := HB1.trans (hb2.mono HB1.size)
  have I1 := I1.below hb2
  have hs2 := hb2.size
  go_wp2_with fail
  refine (toS_any _ _ _ _ _ (h.below HB2) (by omega)).mono ?_
  rintro e w3 ⟨A3, n3, c3, rfl, I3, hb3⟩
  obtain rfl := I3.1
  have HB3 : Below w.heap.size w w3 := HB2.trans (hb3.mono HB2.size)
  have I1 := I1.below hb3
  have I2 := I2.below hb3
  have hs3 := hb3.size
  go_wp2_with fail
  refine (idsIssue_i _ _ _ _ _ v I3 hn).mono ?_
  rw [HR.out]
  rintro e w4 ⟨A4, n4, c4, rfl, I4, hb4⟩
  obtain rfl := I4.1
  dsimp only at I4
  have HB4 : Below w.heap.size w w4 := HB3.trans (hb4.mono HB3.size)
  have I1 := I1.below hb4
  have I2 := I2.below hb4
  have I3 := I3.below hb4
  have hs4 := hb4.size
  go_wp2_with fail
  refine (eqS_any _ _ _ _ _ _ _ I4 I2 hM).mono ?_
  rintro e w5 ⟨rfl, hb5⟩
  have HB5 : Below w.heap.size w w5 := HB4.trans (hb5.mono HB4.size)
  have I1 := I1.below hb5
  have I2 := I2.below hb5
  have I3 := I3.below hb5
  have I4 := I4.below hb5
  have hs5 := hb5.size
  go_wp2_with fail
  refine (toS_any _ _ _ _ _ (h.below HB5) (by omega)).mono ?_
  rintro e w6 ⟨A6, n6, c6, rfl, I5, hb6⟩
  obtain rfl := I5.1
  have HB6 : Below w.heap.size w w6 := HB5.trans (hb6.mono HB5.size)
  have I1 := I1.below hb6
  have I2 := I2.below hb6
  have I3 := I3.below hb6
  have I4 := I4.below hb6
  have hs6 := hb6.size
  go_wp2_with fail
  refine (eqS_any _ _ _ _ _ _ _ I3 I5 hn).mono ?_
  rintro e w7 ⟨rfl, hb7⟩
  have HB7 : Below w.heap.size w w7 := HB6.trans (hb7.mono HB6.size)
  have I1 := I1.below hb7
  have I2 := I2.below hb7
  have I3 := I3.below hb7
  have I4 := I4.below hb7
  have I5 := I5.below hb7
  have hs7 := hb7.size
  clear I1 I5
  go_wp2_with fail
  refine (mark_any _ _ _ _ _ 1 I3 (by omega) (by omega) hn).mono ?_
  rintro e w8 ⟨rfl, I, ht8⟩
  have HB8 : Below w.heap.size w w8 := below_touch HB7 ht8 (by omega) (by omega)
  have I2 := I2.touch ht8 (.inl (by omega))
  have I4 := I4.touch ht8 (.inr (by omega))
  have I3 := I
  have hs8 := ht8.size
  go_wp2_with fail
  refine (eqS_any _ _ _ _ _ _ _ I4 I2 hM).mono ?_
  rintro e w9 ⟨rfl, hb9⟩
  have HB9 : Below w.heap.size w w9 := HB8.trans (hb9.mono HB8.size)
  have I2 := I2.below hb9
  have I3 := I3.below hb9
  have I4 := I4.below hb9
  have hs9 := hb9.size
  go_wp2_with fail
  refine (mark_any _ _ _ _ _ 1 I4 (by omega) (by omega) hM).mono ?_
  rintro e w10 ⟨rfl, I, ht10⟩
  have HB10 : Below w.heap.size w w10 := below_touch HB9 ht10 (by omega) (by omega)
  have I2 := I2.touch ht10 (.inl (by omega))
  have I3 := I3.touch ht10 (.inl (by omega))
  have I4 := I
  have hs10 := ht10.size
  clear I3
  go_wp2_with fail
  refine (held_any _ _ _ _ 1 I4 (by omega) (by omega) hM).mono ?_
  rintro e wh ⟨rfl, rfl⟩
  go_wp2_with fail
  refine (toS_any _ _ _ _ _ (h.below HB10) (by omega)).mono ?_
  rintro e w11 ⟨A11, n11, c11, rfl, I6, hb11⟩
  obtain rfl := I6.1
  have HB11 : Below w.heap.size w w11 := HB10.trans (hb11.mono HB10.size)
  have I2 := I2.below hb11
  have I4 := I4.below hb11
  have hs11 := hb11.size
  go_wp2_with fail
  refine (idsIssue_i _ _ _ _ _ v I6 hn).mono ?_
  rw [HR.out]
  rintro e w12 ⟨A12, n12, c12, rfl, I7, hb12⟩
  obtain rfl := I7.1
  dsimp only at I7
  have HB12 : Below w.heap.size w w12 := HB11.trans (hb12.mono HB11.size)
  have I2 := I2.below hb12
  have I4 := I4.below hb12
  have I6 := I6.below hb12
  have hs12 := hb12.size
  go_wp2_with fail
  refine (eqS_any _ _ _ _ _ _ _ I7 I2 hM).mono ?_
  rintro e w13 ⟨rfl, hb13⟩
  have HB13 : Below w.heap.size w w13 := HB12.trans (hb13.mono HB12.size)
  have I2 := I2.below hb13
  have I4 := I4.below hb13
  have I6 := I6.below hb13
  have I7 := I7.below hb13
  have hs13 := hb13.size
  go_wp2_with fail
  refine (held_any _ _ _ _ 1 I4 (by omega) (by omega) hM).mono ?_
  rintro e wh ⟨rfl, rfl⟩
  go_wp2_with fail
  go_ret
  exact ⟨rfl, HB13⟩

end Go.Proofs.Ytobeeakjfkokfaa
