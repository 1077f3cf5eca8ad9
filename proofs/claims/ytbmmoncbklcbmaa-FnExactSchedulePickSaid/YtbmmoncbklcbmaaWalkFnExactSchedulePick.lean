/- The walk of the law FnExactSchedulePick: the program's and the reference's function return the same, so the law answers true. -/
import Derived.Test.YtbmmoncbklcbmaaOrdT
namespace Go.Proofs.Ytbmmoncbklcbmaa
open Go.RowKit

set_option maxHeartbeats 4000000 in
theorem walkFnExactSchedulePick (w : World) (A : Option Addr) (n c : Nat) (L : List Opt) (hm : n ≤ maxLen) (h : OptsAt w A n L) :
    Calls Try.prog 6 #[.slice A n c] w fun e w' => e = .returned (.bool true) ∧ Below w.heap.size w w' := by
  unfold maxLen at hm
  obtain rfl := h.1
  by_cases hbig : 1048576 < L.length
  · go_enter Try.func6, Try.ntmps6
    go_wp2_with fail
    refine (sz_any _ _ _ _ (by omega)).mono ?_
    rintro e w1 ⟨rfl, rfl⟩
    rw [if_pos hbig]
    go_wp2_with fail
    go_ret
    exact ⟨rfl, Below.refl _ _⟩
  have hn : L.length ≤ 2000000 := by omega
  go_enter Try.func6, Try.ntmps6
  go_wp2_with fail
  refine (sz_any _ _ _ _ (by omega)).mono ?_
  rintro e w0 ⟨rfl, rfl⟩
  rw [if_neg hbig]
  go_wp2_with fail
  refine (toS_any _ _ _ _ _ h (by omega)).mono ?_
  rintro e w1 ⟨A1, n1, c1, rfl, I1, hb1⟩
  obtain rfl := I1.1
  go_wp2_with fail
  refine (pick_s _ _ _ _ _ I1.reads hn).mono ?_
  rintro e w2 ⟨out, ho, rfl, hb2⟩
  have HB2 : Below w.heap.size w w2 := hb1.trans (hb2.mono hb1.size)
  go_wp2_with fail
  refine (toS_any _ _ _ _ _ (h.below HB2) (by omega)).mono ?_
  rintro e w3 ⟨A3, n3, c3, rfl, I3, hb3⟩
  obtain rfl := I3.1
  have HB3 : Below w.heap.size w w3 := HB2.trans (hb3.mono HB2.size)
  go_wp2_with fail
  refine (pick_i _ _ _ _ _ I3.reads hn).mono ?_
  rintro e w4 ⟨out', ho', rfl, hb4⟩
  obtain rfl := ordered_unique ho ho'
  clear ho ho'
  have HB4 : Below w.heap.size w w4 := HB3.trans (hb4.mono HB3.size)
  have I3 := I3.below hb4
  go_wp2_with fail
  refine (toS_any _ _ _ _ _ (h.below HB4) (by omega)).mono ?_
  rintro e w5 ⟨A5, n5, c5, rfl, I5, hb5⟩
  obtain rfl := I5.1
  have HB5 : Below w.heap.size w w5 := HB4.trans (hb5.mono HB4.size)
  have I3 := I3.below hb5
  go_wp2_with fail
  refine (eqS_any _ _ _ _ _ _ _ I3.reads I5.reads hn).mono ?_
  rintro e w6 ⟨rfl, hb6⟩
  have HB6 : Below w.heap.size w w6 := HB5.trans (hb6.mono HB5.size)
  go_wp2_with fail
  go_ret
  exact ⟨rfl, HB6⟩

end Go.Proofs.Ytbmmoncbklcbmaa
