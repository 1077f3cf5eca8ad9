/- The walk of the law FnIdsFail. -/
import Derived.Test.YtobeeakjfkokfabIdsDrawF
namespace Go.Proofs.Ytobeeakjfkokfab
open Go.RowKit

set_option maxRecDepth 100000 in
set_option maxHeartbeats 8000000 in
theorem walkFnIdsFail (w : World) (a : Option Addr) (len cap : Nat) (zs : List Int) (h : IsRow .u8 w a len cap zs) :
    Calls Try.prog 8 #[.slice a len cap] w fun e w' => e = .returned (.bool true) ∧ Below w.heap.size w w' := by
  by_cases hllen : 1048576 < len
  · go_enter Try.func8, Try.ntmps8
    go_wp2
    go_ret
    exact ⟨rfl, Below.refl _ _⟩
  go_enter Try.func8, Try.ntmps8
  go_wp2_with fail
  with_reducible refine (drawIdsAssign_any w a len cap zs h).mono ?_
  rintro e w1 ⟨A0, c0, L, p, rfl, hp0, hp1, hl, I0, hb1⟩
  clear h
  have HB1 : Below w.heap.size w w1 := hb1
  obtain ⟨⟨M, z, b⟩, E⟩ : ∃ r, assign L p = r := ⟨_, rfl⟩
  have hM9 : M.length ≤ 2000000 := by have := len_assign L p; rw [E] at this; dsimp only at this; omega
  have HE := hid_of E
  clear E
  go_wp2_with fail
  with_reducible refine (idsAssign_i _ _ _ _ _ _ I0 (by omega)).mono ?_
  rw [HE.out]
  rintro e w2 ⟨A2, n2, c2, rfl, I2, hb2⟩
  obtain rfl := I2.1
  dsimp only at I2
  have HB2 : Below w.heap.size w w2 := HB1.trans (hb2.mono HB1.size)
  have I0 := I0.below hb2
  go_wp2_with fail
  with_reducible refine (idsAssign_s _ _ _ _ _ _ I0 (by omega)).mono ?_
  rw [HE.out]
  rintro e w3 ⟨A3, n3, c3, rfl, I3, hb3⟩
  obtain rfl := I3.1
  dsimp only at I3
  have HB3 : Below w.heap.size w w3 := HB2.trans (hb3.mono HB2.size)
  have I0 := I0.below hb3
  have I2 := I2.below hb3
  go_wp2_with fail
  with_reducible refine (same_any _ _ _ _ _ _ _ I2 I3 (by first | omega | (simp; done) | (dsimp only; omega) | (simp; omega))).mono ?_
  rintro e w4 ⟨rfl, hb4⟩
  have HB4 : Below w.heap.size w w4 := HB3.trans (hb4.mono HB3.size)
  have I0 := I0.below hb4
  have I2 := I2.below hb4
  have I3 := I3.below hb4
  cases hok : okI L with
  | false =>
    have HO := hid_of hok
    clear hok
    go_wp2_with fail
    with_reducible refine (valid_s I0 (by omega) HO.out).mono ?_
    rintro e w5 ⟨rfl, hb5⟩
    have HB5 : Below w.heap.size w w5 := HB4.trans (hb5.mono HB4.size)
    have I0 := I0.below hb5
    have I2 := I2.below hb5
    have I3 := I3.below hb5
    go_wp2_with fail
    with_reducible refine (same_any _ _ _ _ _ _ _ I2 I3 (by first | omega | (simp; done) | (dsimp only; omega) | (simp; omega))).mono ?_
    rintro e w6 ⟨rfl, hb6⟩
    have HB6 : Below w.heap.size w w6 := HB5.trans (hb6.mono HB5.size)
    have I0 := I0.below hb6
    have I2 := I2.below hb6
    have I3 := I3.below hb6
    go_wp2_with fail
    go_ret
    exact ⟨rfl, HB6⟩
  | true =>
    have HO := hid_of hok
    clear hok
    go_wp2_with fail
    with_reducible refine (valid_s I0 (by omega) HO.out).mono ?_
    rintro e w5 ⟨rfl, hb5⟩
    have HB5 : Below w.heap.size w w5 := HB4.trans (hb5.mono HB4.size)
    have I0 := I0.below hb5
    have I2 := I2.below hb5
    have I3 := I3.below hb5
    rcases (show p < 0 ∨ 3 < p ∨ (0 ≤ p ∧ p ≤ 3) from by omega) with hp | hp | ⟨hq0, hq1⟩
    ·
      go_wp2_with fail
      with_reducible refine (same_any _ _ _ _ _ _ _ I2 I3 (by first | omega | (simp; done) | (dsimp only; omega) | (simp; omega))).mono ?_
      rintro e w6 ⟨rfl, hb6⟩
      have HB6 : Below w.heap.size w w6 := HB5.trans (hb6.mono HB5.size)
      have I0 := I0.below hb6
      have I2 := I2.below hb6
      have I3 := I3.below hb6
      go_wp2_with fail
      go_ret
      exact ⟨rfl, HB6⟩
    ·
      go_wp2_with fail
      with_reducible refine (same_any _ _ _ _ _ _ _ I2 I3 (by first | omega | (simp; done) | (dsimp only; omega) | (simp; omega))).mono ?_
      rintro e w6 ⟨rfl, hb6⟩
      have HB6 : Below w.heap.size w w6 := HB5.trans (hb6.mono HB5.size)
      have I0 := I0.below hb6
      have I2 := I2.below hb6
      have I3 := I3.below hb6
      go_wp2_with fail
      go_ret
      exact ⟨rfl, HB6⟩
    ·
      have hrng : 0 ≤ p ∧ p ≤ 3 := ⟨hq0, hq1⟩
      have F1 : b = false → M = L := by have := fail_assign HO.out hrng; rw [HE.out] at this; exact this
      obtain ⟨⟨N1, z1, b1⟩, E1⟩ : ∃ r, migrate L p = r := ⟨_, rfl⟩
      have F2 : b1 = false → N1 = L := by have := fail_migrate HO.out hrng; rw [E1] at this; exact this
      have hN1 : N1.length ≤ 2000000 := by have := len_migrate L p; rw [E1] at this; dsimp only at this; omega
      obtain ⟨⟨N2, b2⟩, E2⟩ : ∃ r, retire L p = r := ⟨_, rfl⟩
      have F3 : b2 = false → N2 = L := by have := fail_retire (s := p) HO.out; rw [E2] at this; exact this
      have hN2 : N2.length ≤ 2000000 := by have := len_retire L p; rw [E2] at this; dsimp only at this; omega
      have H1 := hid_of E1
      have H2 := hid_of E2
      have G1 := hid_of F1
      have G2 := hid_of F2
      have G3 := hid_of F3
      clear E1 E2 F1 F2 F3 hrng
      go_wp2_with fail
      with_reducible refine (idsMigrate_i _ _ _ _ _ _ I0 (by omega)).mono ?_
      rw [H1.out]
      rintro e w6 ⟨A6, n6, c6, rfl, I5, hb6⟩
      obtain rfl := I5.1
      dsimp only at I5
      have HB6 : Below w.heap.size w w6 := HB5.trans (hb6.mono HB5.size)
      have I0 := I0.below hb6
      have I2 := I2.below hb6
      have I3 := I3.below hb6
      go_wp2_with fail
      with_reducible refine (idsRetire_i _ _ _ _ _ _ I0 (by omega)).mono ?_
      rw [H2.out]
      rintro e w7 ⟨A7, n7, c7, rfl, I6, hb7⟩
      obtain rfl := I6.1
      dsimp only at I6
      have HB7 : Below w.heap.size w w7 := HB6.trans (hb7.mono HB6.size)
      have I0 := I0.below hb7
      have I2 := I2.below hb7
      have I3 := I3.below hb7
      have I5 := I5.below hb7
      cases b with
      | true =>
        cases b1 with
        | true =>
          cases b2 with
          | true =>
            go_wp2_with fail
            go_ret
            exact ⟨rfl, HB7⟩
          | false =>
            obtain rfl := G3.out rfl
            go_wp2_with fail
            with_reducible refine (same_any _ _ _ _ _ _ _ I6 I0 (by first | omega | (simp; done) | (dsimp only; omega) | (simp; omega))).mono ?_
            rintro e w8 ⟨rfl, hb8⟩
            have HB8 : Below w.heap.size w w8 := HB7.trans (hb8.mono HB7.size)
            have I0 := I0.below hb8
            have I2 := I2.below hb8
            have I3 := I3.below hb8
            have I5 := I5.below hb8
            have I6 := I6.below hb8
            go_wp2_with fail
            go_ret
            exact ⟨rfl, HB8⟩
        | false =>
          obtain rfl := G2.out rfl
          go_wp2_with fail
          with_reducible refine (same_any _ _ _ _ _ _ _ I5 I0 (by first | omega | (simp; done) | (dsimp only; omega) | (simp; omega))).mono ?_
          rintro e w8 ⟨rfl, hb8⟩
          have HB8 : Below w.heap.size w w8 := HB7.trans (hb8.mono HB7.size)
          have I0 := I0.below hb8
          have I2 := I2.below hb8
          have I3 := I3.below hb8
          have I5 := I5.below hb8
          have I6 := I6.below hb8
          cases b2 with
          | true =>
            go_wp2_with fail
            go_ret
            exact ⟨rfl, HB8⟩
          | false =>
            obtain rfl := G3.out rfl
            go_wp2_with fail
            with_reducible refine (same_any _ _ _ _ _ _ _ I6 I0 (by first | omega | (simp; done) | (dsimp only; omega) | (simp; omega))).mono ?_
            rintro e w9 ⟨rfl, hb9⟩
            have HB9 : Below w.heap.size w w9 := HB8.trans (hb9.mono HB8.size)
            have I0 := I0.below hb9
            have I2 := I2.below hb9
            have I3 := I3.below hb9
            have I5 := I5.below hb9
            have I6 := I6.below hb9
            go_wp2_with fail
            go_ret
            exact ⟨rfl, HB9⟩
      | false =>
        obtain rfl := G1.out rfl
        go_wp2_with fail
        with_reducible refine (same_any _ _ _ _ _ _ _ I2 I0 (by first | omega | (simp; done) | (dsimp only; omega) | (simp; omega))).mono ?_
        rintro e w8 ⟨rfl, hb8⟩
        have HB8 : Below w.heap.size w w8 := HB7.trans (hb8.mono HB7.size)
        have I0 := I0.below hb8
        have I2 := I2.below hb8
        have I3 := I3.below hb8
        have I5 := I5.below hb8
        have I6 := I6.below hb8
        cases b1 with
        | true =>
          cases b2 with
          | true =>
            go_wp2_with fail
            go_ret
            exact ⟨rfl, HB8⟩
          | false =>
            obtain rfl := G3.out rfl
            go_wp2_with fail
            with_reducible refine (same_any _ _ _ _ _ _ _ I6 I0 (by first | omega | (simp; done) | (dsimp only; omega) | (simp; omega))).mono ?_
            rintro e w9 ⟨rfl, hb9⟩
            have HB9 : Below w.heap.size w w9 := HB8.trans (hb9.mono HB8.size)
            have I0 := I0.below hb9
            have I2 := I2.below hb9
            have I3 := I3.below hb9
            have I5 := I5.below hb9
            have I6 := I6.below hb9
            go_wp2_with fail
            go_ret
            exact ⟨rfl, HB9⟩
        | false =>
          obtain rfl := G2.out rfl
          go_wp2_with fail
          with_reducible refine (same_any _ _ _ _ _ _ _ I5 I0 (by first | omega | (simp; done) | (dsimp only; omega) | (simp; omega))).mono ?_
          rintro e w9 ⟨rfl, hb9⟩
          have HB9 : Below w.heap.size w w9 := HB8.trans (hb9.mono HB8.size)
          have I0 := I0.below hb9
          have I2 := I2.below hb9
          have I3 := I3.below hb9
          have I5 := I5.below hb9
          have I6 := I6.below hb9
          cases b2 with
          | true =>
            go_wp2_with fail
            go_ret
            exact ⟨rfl, HB9⟩
          | false =>
            obtain rfl := G3.out rfl
            go_wp2_with fail
            with_reducible refine (same_any _ _ _ _ _ _ _ I6 I0 (by first | omega | (simp; done) | (dsimp only; omega) | (simp; omega))).mono ?_
            rintro e w10 ⟨rfl, hb10⟩
            have HB10 : Below w.heap.size w w10 := HB9.trans (hb10.mono HB9.size)
            have I0 := I0.below hb10
            have I2 := I2.below hb10
            have I3 := I3.below hb10
            have I5 := I5.below hb10
            have I6 := I6.below hb10
            go_wp2_with fail
            go_ret
            exact ⟨rfl, HB10⟩

end Go.Proofs.Ytobeeakjfkokfab
