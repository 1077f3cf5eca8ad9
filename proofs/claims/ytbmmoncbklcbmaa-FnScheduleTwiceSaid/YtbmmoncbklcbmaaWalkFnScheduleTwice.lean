/- The walk of the law FnScheduleTwice. -/
import Derived.Test.YtbmmoncbklcbmaaOrdU
namespace Go.Proofs.Ytbmmoncbklcbmaa
open Go.RowKit

set_option maxRecDepth 100000 in
set_option maxHeartbeats 4000000 in
theorem walkFnScheduleTwice (w : World) (a : Option Addr) (len cap : Nat) (zs : List Int) (h : IsRow .u8 w a len cap zs) :
    Calls Try.prog 8 #[.slice a len cap] w fun e w' => e = .returned (.bool true) ∧ Below w.heap.size w w' := by
  by_cases hllen : 1048576 < len
  · go_enter Try.func8, Try.ntmps8
    go_wp2
    go_ret
    exact ⟨rfl, Below.refl _ _⟩
  go_enter Try.func8, Try.ntmps8
  go_wp2_with fail
  with_reducible refine (drawTwice_any w a len cap zs h).mono ?_
  rintro e w1 ⟨A0, c0, L, rfl, hl, hnil, I0, hb1⟩
  clear h
  have HB1 : Below w.heap.size w w1 := hb1
  go_wp2_with fail
  with_reducible refine (two_i _ _ _ L _ I0 (by omega)).mono ?_
  rintro e w2 ⟨A2, n2, c2, out, ho, rfl, I2, hb2⟩
  have HB2 : Below w.heap.size w w2 := HB1.trans (hb2.mono HB1.size)
  have I0 := I0.below hb2
  go_wp2_with fail
  with_reducible refine (two_s _ _ _ L _ I0 (by omega)).mono ?_
  rintro e w3 ⟨A3, n3, c3, out3, ho3, rfl, I3, hb3⟩
  have HB3 : Below w.heap.size w w3 := HB2.trans (hb3.mono HB2.size)
  have I0 := I0.below hb3
  have I2 := I2.below hb3
  obtain rfl := ordered_unique ho ho3
  clear ho3
  have HO := hid_of ho
  clear ho
  have hn3 : n3 = n2 := I3.1.symm.trans I2.1
  subst hn3
  have hn2 : n3 ≤ 2 := by rw [← I2.1, ints_len, List.length_take]; omega
  go_wp2_with fail
  with_reducible refine (sameI_any _ _ _ _ _ _ _ I2 I3 (by omega)).mono ?_
  rintro e w4 ⟨rfl, hb4⟩
  have HB4 : Below w.heap.size w w4 := HB3.trans (hb4.mono HB3.size)
  have I0 := I0.below hb4
  have I2 := I2.below hb4
  go_wp2_with fail
  with_reducible refine (order_i _ _ _ L _ I0 (by omega)).mono ?_
  rintro e w5 ⟨A5, c5, out5, rfl, ho5, hA, hlc, hcm, I5, hb5⟩
  have HB5 : Below w.heap.size w w5 := HB4.trans (hb5.mono HB4.size)
  have I2 := I2.below hb5
  obtain rfl := ordered_unique HO.out ho5
  clear ho5 HO
  rcases hA with ⟨rfl, rfl⟩ | ⟨g, rfl⟩
  · have e0 : n3 = 0 := I2.1.symm
    subst e0
    go_wp2_with fail
    with_reducible refine (sameI_any _ _ 0 _ _ [] _ (IntsAt.empty _ _) (IntsAt.empty _ _) (by omega)).mono ?_
    rintro e w6 ⟨rfl, hb6⟩
    go_wp2_with fail
    go_ret
    exact ⟨rfl, HB5.trans (hb6.mono HB5.size)⟩
  · obtain ⟨len5, hlen⟩ : ∃ x, x = out.length := ⟨_, rfl⟩
    have hn5 : n3 = min 2 len5 := by rw [hlen, ← I2.1, ints_len, List.length_take]
    unfold maxLen at hcm
    rw [← hlen] at I5 hlc ⊢
    clear hlen
    rcases (show len5 ≤ 1 ∨ 2 ≤ len5 from by omega) with h1 | h2
    · obtain rfl : n3 = len5 := by omega
      have i0 : (0 : Int) ≤ (n3 : Int) := Int.natCast_nonneg _
      have i1 : (n3 : Int) ≤ (c5 : Int) := by omega
      have i2 : (n3 : Int) ≤ 2 := by omega
      have i4 : (n3 : Int) < 2 := by omega
      have I6 : IntsAt w5 (some ⟨g, 0, none⟩) n3 (ints (out.take 2)) := by
        have h6 := take_at I5 (Nat.le_refl _)
        have el : out.length = n3 := by have := I5.1; rw [ints_len] at this; exact this
        rw [List.take_of_length_le (by omega)] at h6
        rw [List.take_of_length_le (by omega)]
        exact h6
      clear hn5
      go_wp2_with fail
      all_goals
        with_reducible refine (sameI_any _ _ _ _ _ _ _ I2 I6 (by omega)).mono ?_
        rintro e w6 ⟨rfl, hb6⟩
        go_wp2_with fail
        go_ret
        exact ⟨rfl, HB5.trans (hb6.mono HB5.size)⟩
    · obtain rfl : n3 = 2 := by omega
      have i1 : (2 : Int) ≤ (c5 : Int) := by omega
      have I6 := take_at I5 h2
      rcases (show len5 = 2 ∨ 2 < len5 from by omega) with rfl | h3
      · clear hn5
        go_wp2_with fail
        all_goals
          with_reducible refine (sameI_any _ _ _ _ _ _ _ I2 I6 (by omega)).mono ?_
          rintro e w6 ⟨rfl, hb6⟩
          go_wp2_with fail
          go_ret
          exact ⟨rfl, HB5.trans (hb6.mono HB5.size)⟩
      · have i2 : (2 : Int) ≤ (len5 : Int) := by omega
        have i3 : ¬ (len5 : Int) ≤ 2 := by omega
        have i4 : (2 : Int) < (len5 : Int) := by omega
        clear hn5
        go_wp2_with fail
        all_goals
          with_reducible refine (sameI_any _ _ _ _ _ _ _ I2 I6 (by omega)).mono ?_
          rintro e w6 ⟨rfl, hb6⟩
          go_wp2_with fail
          go_ret
          exact ⟨rfl, HB5.trans (hb6.mono HB5.size)⟩

end Go.Proofs.Ytbmmoncbklcbmaa
