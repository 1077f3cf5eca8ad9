/- The walk of the law FnIdsUnlinkable. -/
import Derived.Test.YtobeeakjfkokfabIdsDrawF
namespace Go.Proofs.Ytobeeakjfkokfab
open Go.RowKit

set_option maxRecDepth 100000 in
set_option maxHeartbeats 8000000 in
theorem walkFnIdsUnlinkable (w : World) (a : Option Addr) (len cap : Nat) (zs : List Int) (h : IsRow .u8 w a len cap zs) (a1 : Option Addr) (len1 cap1 : Nat) (zs1 : List Int) (h1 : IsRow .u8 w a1 len1 cap1 zs1) :
    Calls Try.prog 10 #[.slice a len cap, .slice a1 len1 cap1] w fun e w' => e = .returned (.bool true) ∧ Below w.heap.size w w' := by
  have hl0 : (len1 : Int) ≤ 9223372036854775807 := by rcases h1 with ⟨_, rfl, _⟩ | ⟨_, _, hle, hm, _⟩ <;> (try unfold maxLen at hm) <;> omega
  clear h1
  by_cases hllen : 1048576 < len
  · go_enter Try.func10, Try.ntmps10
    go_wp2
    go_ret
    exact ⟨rfl, Below.refl _ _⟩
  by_cases hllen1 : 1048576 < len1
  · go_enter Try.func10, Try.ntmps10
    go_wp2
    go_ret
    exact ⟨rfl, Below.refl _ _⟩
  go_enter Try.func10, Try.ntmps10
  go_wp2_with fail
  with_reducible refine (drawIdsMigrate_any w a len cap zs h).mono ?_
  rintro e w1 ⟨A0, c0, L, p, rfl, hp0, hp1, hl, I0, hb1⟩
  clear h
  have HB1 : Below w.heap.size w w1 := hb1
  obtain ⟨⟨M, z, b⟩, E⟩ : ∃ r, migrate L p = r := ⟨_, rfl⟩
  have hM9 : M.length ≤ 2000000 := by have := len_migrate L p; rw [E] at this; dsimp only at this; omega
  have HE := hid_of E
  clear E
  go_wp2_with fail
  with_reducible refine (idsMigrate_i _ _ _ _ _ _ I0 (by omega)).mono ?_
  rw [HE.out]
  rintro e w2 ⟨A2, n2, c2, rfl, I2, hb2⟩
  obtain rfl := I2.1
  dsimp only at I2
  have HB2 : Below w.heap.size w w2 := HB1.trans (hb2.mono HB1.size)
  have I0 := I0.below hb2
  go_wp2_with fail
  with_reducible refine (idsMigrate_s _ _ _ _ _ _ I0 (by omega)).mono ?_
  rw [HE.out]
  rintro e w3 ⟨A3, n3, c3, rfl, I3, hb3⟩
  obtain rfl := I3.1
  dsimp only at I3
  have HB3 : Below w.heap.size w w3 := HB2.trans (hb3.mono HB2.size)
  have I0 := I0.below hb3
  have I2 := I2.below hb3
  go_wp2_with fail
  with_reducible refine (same_any _ _ _ _ _ _ _ I2 I3 (by first | omega | (simp; done) | (dsimp only; omega) | (simp; omega))).mono ?_
  rintro e w4 ⟨rfl, hb4⟩
  have HB4 : Below w.heap.size w w4 := HB3.trans (hb4.mono HB3.size)
  have I0 := I0.below hb4
  have I2 := I2.below hb4
  have I3 := I3.below hb4
  cases hok : okI L with
  | false =>
    have HO := hid_of hok
    clear hok
    go_wp2_with fail
    with_reducible refine (valid_s I0 (by omega) HO.out).mono ?_
    rintro e w5 ⟨rfl, hb5⟩
    have HB5 : Below w.heap.size w w5 := HB4.trans (hb5.mono HB4.size)
    have I0 := I0.below hb5
    have I2 := I2.below hb5
    have I3 := I3.below hb5
    go_wp2_with fail
    with_reducible refine (same_any _ _ _ _ _ _ _ I2 I3 (by first | omega | (simp; done) | (dsimp only; omega) | (simp; omega))).mono ?_
    rintro e w6 ⟨rfl, hb6⟩
    have HB6 : Below w.heap.size w w6 := HB5.trans (hb6.mono HB5.size)
    have I0 := I0.below hb6
    have I2 := I2.below hb6
    have I3 := I3.below hb6
    go_wp2_with fail
    go_ret
    exact ⟨rfl, HB6⟩
  | true =>
    have HO := hid_of hok
    clear hok
    go_wp2_with fail
    with_reducible refine (valid_s I0 (by omega) HO.out).mono ?_
    rintro e w5 ⟨rfl, hb5⟩
    have HB5 : Below w.heap.size w w5 := HB4.trans (hb5.mono HB4.size)
    have I0 := I0.below hb5
    have I2 := I2.below hb5
    have I3 := I3.below hb5
    rcases (show p < 0 ∨ 3 < p ∨ (0 ≤ p ∧ p ≤ 3) from by omega) with hp | hp | ⟨hq0, hq1⟩
    ·
      go_wp2_with fail
      with_reducible refine (same_any _ _ _ _ _ _ _ I2 I3 (by first | omega | (simp; done) | (dsimp only; omega) | (simp; omega))).mono ?_
      rintro e w6 ⟨rfl, hb6⟩
      have HB6 : Below w.heap.size w w6 := HB5.trans (hb6.mono HB5.size)
      have I0 := I0.below hb6
      have I2 := I2.below hb6
      have I3 := I3.below hb6
      go_wp2_with fail
      go_ret
      exact ⟨rfl, HB6⟩
    ·
      go_wp2_with fail
      with_reducible refine (same_any _ _ _ _ _ _ _ I2 I3 (by first | omega | (simp; done) | (dsimp only; omega) | (simp; omega))).mono ?_
      rintro e w6 ⟨rfl, hb6⟩
      have HB6 : Below w.heap.size w w6 := HB5.trans (hb6.mono HB5.size)
      have I0 := I0.below hb6
      have I2 := I2.below hb6
      have I3 := I3.below hb6
      go_wp2_with fail
      go_ret
      exact ⟨rfl, HB6⟩
    ·
      have hrng : 0 ≤ p ∧ p ≤ 3 := ⟨hq0, hq1⟩
      have m0 : 0 ≤ (len1 : Int) % 100 ∧ (len1 : Int) % 100 ≤ 9999 := by omega
      have K1 : Hid (Keeps L M) := by have := keeps_migrate HO.out hrng; rw [HE.out] at this; exact this
      obtain ⟨⟨N1, z1, b1⟩, E1⟩ : ∃ r, issue L ((len1 : Int) % 100) = r := ⟨_, rfl⟩
      have K2 : Hid (Keeps L N1) := by have := keeps_issue (v := (len1 : Int) % 100) HO.out m0; rw [E1] at this; exact this
      have hN1 : N1.length ≤ 2000000 := by have := len_issue L ((len1 : Int) % 100); rw [E1] at this; dsimp only at this; omega
      obtain ⟨⟨N2, z2, b2⟩, E2⟩ : ∃ r, assign L p = r := ⟨_, rfl⟩
      have K3 : Hid (Keeps L N2) := by have := keeps_assign HO.out hrng; rw [E2] at this; exact this
      have hN2 : N2.length ≤ 2000000 := by have := len_assign L p; rw [E2] at this; dsimp only at this; omega
      obtain ⟨⟨N3, b3⟩, E3⟩ : ∃ r, retire L ((len1 : Int) % 4) = r := ⟨_, rfl⟩
      have K4 : Hid (Keeps L N3) := by have := keeps_retire (s := (len1 : Int) % 4) HO.out; rw [E3] at this; exact this
      have hN3 : N3.length ≤ 2000000 := by have := len_retire L ((len1 : Int) % 4); rw [E3] at this; dsimp only at this; omega
      have H1 := hid_of E1
      have H2 := hid_of E2
      have H3 := hid_of E3
      clear E1 E2 E3 hrng m0
      go_wp2_with fail
      with_reducible refine (idsIssue_i _ _ _ _ _ _ I0 (by omega)).mono ?_
      rw [H1.out]
      rintro e w6 ⟨A6, n6, c6, rfl, I5, hb6⟩
      obtain rfl := I5.1
      dsimp only at I5
      have HB6 : Below w.heap.size w w6 := HB5.trans (hb6.mono HB5.size)
      have I0 := I0.below hb6
      have I2 := I2.below hb6
      have I3 := I3.below hb6
      go_wp2_with fail
      with_reducible refine (idsAssign_i _ _ _ _ _ _ I0 (by omega)).mono ?_
      rw [H2.out]
      rintro e w7 ⟨A7, n7, c7, rfl, I6, hb7⟩
      obtain rfl := I6.1
      dsimp only at I6
      have HB7 : Below w.heap.size w w7 := HB6.trans (hb7.mono HB6.size)
      have I0 := I0.below hb7
      have I2 := I2.below hb7
      have I3 := I3.below hb7
      have I5 := I5.below hb7
      go_wp2_with fail
      with_reducible refine (idsRetire_i _ _ _ _ _ _ I0 (by omega)).mono ?_
      rw [H3.out]
      rintro e w8 ⟨A8, n8, c8, rfl, I7, hb8⟩
      obtain rfl := I7.1
      dsimp only at I7
      have HB8 : Below w.heap.size w w8 := HB7.trans (hb8.mono HB7.size)
      have I0 := I0.below hb8
      have I2 := I2.below hb8
      have I3 := I3.below hb8
      have I5 := I5.below hb8
      have I6 := I6.below hb8
      go_wp2_with fail
      with_reducible refine (keep_any _ _ _ _ _ _ _ _ _ I0 I2 (by omega) (by first | omega | (simp; done) | (dsimp only; omega) | (simp; omega)) K1.out).mono ?_
      rintro e w9 ⟨rfl, hb9⟩
      have HB9 : Below w.heap.size w w9 := HB8.trans (hb9.mono HB8.size)
      have I0 := I0.below hb9
      have I2 := I2.below hb9
      have I3 := I3.below hb9
      have I5 := I5.below hb9
      have I6 := I6.below hb9
      have I7 := I7.below hb9
      go_wp2_with fail
      with_reducible refine (keep_any _ _ _ _ _ _ _ _ _ I0 I5 (by omega) (by first | omega | (simp; done) | (dsimp only; omega) | (simp; omega)) K2.out).mono ?_
      rintro e w10 ⟨rfl, hb10⟩
      have HB10 : Below w.heap.size w w10 := HB9.trans (hb10.mono HB9.size)
      have I0 := I0.below hb10
      have I2 := I2.below hb10
      have I3 := I3.below hb10
      have I5 := I5.below hb10
      have I6 := I6.below hb10
      have I7 := I7.below hb10
      go_wp2_with fail
      with_reducible refine (keep_any _ _ _ _ _ _ _ _ _ I0 I6 (by omega) (by first | omega | (simp; done) | (dsimp only; omega) | (simp; omega)) K3.out).mono ?_
      rintro e w11 ⟨rfl, hb11⟩
      have HB11 : Below w.heap.size w w11 := HB10.trans (hb11.mono HB10.size)
      have I0 := I0.below hb11
      have I2 := I2.below hb11
      have I3 := I3.below hb11
      have I5 := I5.below hb11
      have I6 := I6.below hb11
      have I7 := I7.below hb11
      go_wp2_with fail
      with_reducible refine (keep_any _ _ _ _ _ _ _ _ _ I0 I7 (by omega) (by first | omega | (simp; done) | (dsimp only; omega) | (simp; omega)) K4.out).mono ?_
      rintro e w12 ⟨rfl, hb12⟩
      have HB12 : Below w.heap.size w w12 := HB11.trans (hb12.mono HB11.size)
      have I0 := I0.below hb12
      have I2 := I2.below hb12
      have I3 := I3.below hb12
      have I5 := I5.below hb12
      have I6 := I6.below hb12
      have I7 := I7.below hb12
      go_wp2_with fail
      go_ret
      exact ⟨rfl, HB12⟩

end Go.Proofs.Ytobeeakjfkokfab
