/- The walk of the law FnExactIdsOn: the program's and the reference's function return the same, so the law answers true. -/
import Derived.Test.YtobeeakjfkokfaaIdsC
import Derived.Test.YtobeeakjfkokfaaIdsH
namespace Go.Proofs.Ytobeeakjfkokfaa
open Go.RowKit

set_option maxHeartbeats 4000000 in
theorem walkFnExactIdsOn (w : World) (A : Option Addr) (n c : Nat) (L : List Cid) (hm : n ≤ maxLen) (h : LawIds w A n L) (v : Int) :
    Calls Try.prog 4 #[.slice A n c, .int .i64 v] w fun e w' => e = .returned (.bool true) ∧ Below w.heap.size w w' := by
  unfold maxLen at hm
  obtain rfl := h.1
  by_cases hbig : 1048576 < L.length
  · go_enter Try.func4, Try.ntmps4
    go_wp2_with fail
    refine (sz_any _ _ _ _ (by omega)).mono ?_
    rintro e w1 ⟨rfl, rfl⟩
    rw [if_pos hbig]
    go_wp2_with fail
    go_ret
    exact ⟨rfl, Below.refl _ _⟩
  have hn : L.length ≤ 2000000 := by omega
  go_enter Try.func4, Try.ntmps4
  go_wp2_with fail
  refine (sz_any _ _ _ _ (by omega)).mono ?_
  rintro e w0 ⟨rfl, rfl⟩
  rw [if_neg hbig]
  have HB0 : Below w.heap.size w w := Below.refl _ _
  go_wp2_with fail
  refine (toS_any _ _ _ _ _ (h.below HB0) (by omega)).mono ?_
  rintro e w1 ⟨A1, n1, c1, rfl, I1, hb1⟩
  obtain rfl := I1.1
  have HB1 : Below w.heap.size w w1 := HB0.trans (hb1.mono HB0.size)
  have hs1 := hb1.size
  go_wp2_with fail
  refine (idsOn_s _ _ _ _ _ v I1 hn).mono ?_
  rintro e w2 ⟨rfl, hb2⟩
  have HB2 : Below w.heap.size w w2 := HB1.trans (hb2.mono HB1.size)
  have I1 := I1.below hb2
  have hs2 := hb2.size
  go_wp2_with fail
  refine (toS_any _ _ _ _ _ (h.below HB2) (by omega)).mono ?_
  rintro e w3 ⟨A3, n3, c3, rfl, I3, hb3⟩
  obtain rfl := I3.1
  have HB3 : Below w.heap.size w w3 := HB2.trans (hb3.mono HB2.size)
  have I1 := I1.below hb3
  have hs3 := hb3.size
  go_wp2_with fail
  refine (idsOn_i _ _ _ _ _ v I3 hn).mono ?_
  rintro e w4 ⟨rfl, hb4⟩
  have HB4 : Below w.heap.size w w4 := HB3.trans (hb4.mono HB3.size)
  have I1 := I1.below hb4
  have I3 := I3.below hb4
  have hs4 := hb4.size
  go_wp2_with fail
  refine (toS_any _ _ _ _ _ (h.below HB4) (by omega)).mono ?_
  rintro e w5 ⟨A5, n5, c5, rfl, I5, hb5⟩
  obtain rfl := I5.1
  have HB5 : Below w.heap.size w w5 := HB4.trans (hb5.mono HB4.size)
  have I1 := I1.below hb5
  have I3 := I3.below hb5
  have hs5 := hb5.size
  go_wp2_with fail
  refine (eqS_any _ _ _ _ _ _ _ I3 I5 hn).mono ?_
  rintro e w6 ⟨rfl, hb6⟩
  have HB6 : Below w.heap.size w w6 := HB5.trans (hb6.mono HB5.size)
  have I1 := I1.below hb6
  have I3 := I3.below hb6
  have I5 := I5.below hb6
  have hs6 := hb6.size
  go_wp2_with fail
  go_ret
  exact ⟨rfl, HB6⟩

end Go.Proofs.Ytobeeakjfkokfaa
