/- The walk of the law FnIdsReplace. -/
import Derived.Test.YtobeeakjfkokfabIdsDrawF
namespace Go.Proofs.Ytobeeakjfkokfab
open Go.RowKit

set_option maxRecDepth 100000 in
set_option maxHeartbeats 8000000 in
theorem walkFnIdsReplace (w : World) (a : Option Addr) (len cap : Nat) (zs : List Int) (h : IsRow .u8 w a len cap zs) :
    Calls Try.prog 9 #[.slice a len cap] w fun e w' => e = .returned (.bool true) ∧ Below w.heap.size w w' := by
  by_cases hllen : 1048576 < len
  · go_enter Try.func9, Try.ntmps9
    go_wp2
    go_ret
    exact ⟨rfl, Below.refl _ _⟩
  go_enter Try.func9, Try.ntmps9
  go_wp2_with fail
  with_reducible refine (drawIdsMigrate_any w a len cap zs h).mono ?_
  rintro e w1 ⟨A0, c0, L, p, rfl, hp0, hp1, hl, I0, hb1⟩
  clear h
  have HB1 : Below w.heap.size w w1 := hb1
  rcases migrate_cases L p with E | ⟨E, _⟩ | ⟨i, k, hi, hk, hik, E, hok, hp, hri, hpi, hrk, hpk, hon, hok2, hon2, hu, hret, hasg⟩
  ·
    have HE := hid_of E
    clear E
    go_wp2_with fail
    with_reducible refine (idsMigrate_i _ _ _ _ _ _ I0 (by omega)).mono ?_
    rw [HE.out]
    rintro e w2 ⟨A2, n2, c2, rfl, I2, hb2⟩
    obtain rfl : n2 = 0 := I2.1.symm
    dsimp only at I2
    have HB2 : Below w.heap.size w w2 := HB1.trans (hb2.mono HB1.size)
    have I0 := I0.below hb2
    go_wp2_with fail
    with_reducible refine (idsMigrate_s _ _ _ _ _ _ I0 (by omega)).mono ?_
    rw [HE.out]
    rintro e w3 ⟨A3, n3, c3, rfl, I3, hb3⟩
    obtain rfl : n3 = 0 := I3.1.symm
    dsimp only at I3
    have HB3 : Below w.heap.size w w3 := HB2.trans (hb3.mono HB2.size)
    have I0 := I0.below hb3
    have I2 := I2.below hb3
    go_wp2_with fail
    with_reducible refine (same_any _ _ _ _ _ _ _ I2 I3 (by first | omega | (simp; done) | (dsimp only; omega) | (simp; omega))).mono ?_
    rintro e w4 ⟨rfl, hb4⟩
    have HB4 : Below w.heap.size w w4 := HB3.trans (hb4.mono HB3.size)
    have I0 := I0.below hb4
    have I2 := I2.below hb4
    have I3 := I3.below hb4
    go_wp2_with fail
    with_reducible refine (same_any _ _ _ _ _ _ _ I2 I3 (by first | omega | (simp; done) | (dsimp only; omega) | (simp; omega))).mono ?_
    rintro e w5 ⟨rfl, hb5⟩
    have HB5 : Below w.heap.size w w5 := HB4.trans (hb5.mono HB4.size)
    have I0 := I0.below hb5
    have I2 := I2.below hb5
    have I3 := I3.below hb5
    go_wp2_with fail
    go_ret
    exact ⟨rfl, HB5⟩
  ·
    have HE := hid_of E
    clear E
    go_wp2_with fail
    with_reducible refine (idsMigrate_i _ _ _ _ _ _ I0 (by omega)).mono ?_
    rw [HE.out]
    rintro e w2 ⟨A2, n2, c2, rfl, I2, hb2⟩
    obtain rfl := I2.1
    dsimp only at I2
    have HB2 : Below w.heap.size w w2 := HB1.trans (hb2.mono HB1.size)
    have I0 := I0.below hb2
    go_wp2_with fail
    with_reducible refine (idsMigrate_s _ _ _ _ _ _ I0 (by omega)).mono ?_
    rw [HE.out]
    rintro e w3 ⟨A3, n3, c3, rfl, I3, hb3⟩
    obtain rfl := I3.1
    dsimp only at I3
    have HB3 : Below w.heap.size w w3 := HB2.trans (hb3.mono HB2.size)
    have I0 := I0.below hb3
    have I2 := I2.below hb3
    go_wp2_with fail
    with_reducible refine (same_any _ _ _ _ _ _ _ I2 I3 (by first | omega | (simp; done) | (dsimp only; omega) | (simp; omega))).mono ?_
    rintro e w4 ⟨rfl, hb4⟩
    have HB4 : Below w.heap.size w w4 := HB3.trans (hb4.mono HB3.size)
    have I0 := I0.below hb4
    have I2 := I2.below hb4
    have I3 := I3.below hb4
    go_wp2_with fail
    with_reducible refine (same_any _ _ _ _ _ _ _ I2 I3 (by first | omega | (simp; done) | (dsimp only; omega) | (simp; omega))).mono ?_
    rintro e w5 ⟨rfl, hb5⟩
    have HB5 : Below w.heap.size w w5 := HB4.trans (hb5.mono HB4.size)
    have I0 := I0.below hb5
    have I2 := I2.below hb5
    have I3 := I3.below hb5
    go_wp2_with fail
    go_ret
    exact ⟨rfl, HB5⟩
  ·
    have hoi : onB (nth L i) p = true := onB_iff.2 ⟨hri, hpi⟩
    obtain ⟨N, hN⟩ : ∃ N, N = setR L i := ⟨_, rfl⟩
    obtain ⟨M, hM⟩ : ∃ M, M = setP (setR L i) k p := ⟨_, rfl⟩
    rw [← hM] at E hasg
    rw [← hN] at hret hasg
    have hM9 : M.length ≤ 2000000 := by rw [hM, len_setP, len_setR]; omega
    have hN9 : N.length ≤ 2000000 := by rw [hN, len_setR]; omega
    generalize (nth L k).v = vk at E hasg
    have HE := hid_of E
    have HR := hid_of hret
    have HA := hid_of hasg
    have HU := hid_of hu
    have HI := hid_of hoi
    clear E hret hasg hu hoi hon hon2 hok2 hM hN hok hri hpi hrk hpk
    go_wp2_with fail
    with_reducible refine (idsMigrate_i _ _ _ _ _ _ I0 (by omega)).mono ?_
    rw [HE.out]
    rintro e w2 ⟨A2, n2, c2, rfl, I2, hb2⟩
    obtain rfl := I2.1
    dsimp only at I2
    have HB2 : Below w.heap.size w w2 := HB1.trans (hb2.mono HB1.size)
    have I0 := I0.below hb2
    go_wp2_with fail
    with_reducible refine (idsMigrate_s _ _ _ _ _ _ I0 (by omega)).mono ?_
    rw [HE.out]
    rintro e w3 ⟨A3, n3, c3, rfl, I3, hb3⟩
    obtain rfl := I3.1
    dsimp only at I3
    have HB3 : Below w.heap.size w w3 := HB2.trans (hb3.mono HB2.size)
    have I0 := I0.below hb3
    have I2 := I2.below hb3
    go_wp2_with fail
    with_reducible refine (same_any _ _ _ _ _ _ _ I2 I3 (by first | omega | (simp; done) | (dsimp only; omega) | (simp; omega))).mono ?_
    rintro e w4 ⟨rfl, hb4⟩
    have HB4 : Below w.heap.size w w4 := HB3.trans (hb4.mono HB3.size)
    have I0 := I0.below hb4
    have I2 := I2.below hb4
    have I3 := I3.below hb4
    go_wp2_with fail
    go_loop [11, 12] (fun s x => ∃ j : Nat, x = .int .i64 (j : Nat) ∧ s = .int .i64 (if i < j then (i : Int) else 0) ∧ j ≤ L.length) (fun _ x => L.length - (intOf x).toNat)
    case atStart => exact ⟨0, rfl, rfl, Nat.zero_le _⟩
    case round =>
      obtain ⟨j, rfl, rfl, hj⟩ := hrel
      by_cases hlt : j < L.length
      ·
        obtain ⟨g, rfl, _, _, _, _, hc⟩ := I0.at_ (by omega)
        obtain ⟨d0, d1, d2⟩ := hc j hlt
        clear hc
        by_cases hji : j = i
        ·
          subst hji
          have e1 := onB_iff.1 HI.out
          rw [e1.1] at d2
          rw [e1.2] at d1
          clear e1
          go_wp2_with fail
          go_round
          case rel => exact ⟨j + 1, by go_num, by rw [if_pos (by omega)], by omega⟩
          case measure => simp [intOf]; omega
        ·
          have e1 := HU.out j hlt hji
          generalize nth L j = y at d0 d1 d2 e1
          obtain ⟨yv, yp, yr⟩ := y
          dsimp only at d0 d1 d2
          have hif : (if i < j + 1 then (i : Int) else 0) = if i < j then (i : Int) else 0 := by by_cases h : i < j <;> simp [h] <;> omega
          obtain ⟨z, hz⟩ : ∃ z, z = if i < j then (i : Int) else 0 := ⟨_, rfl⟩
          rw [← hz] at hif ⊢
          have HZ := hid_of hif
          clear hif hz
          cases yr with
          | true =>
            clear e1
            go_wp2_with fail
            go_round
            case rel => exact ⟨j + 1, by go_num, by rw [HZ.out], by omega⟩
            case measure => simp [intOf]; omega
          | false =>
            have hpp : (yp == p) = false := by rw [beq_eq_false_iff_ne]; intro e; subst e; simp [onB] at e1
            clear e1
            go_wp2_with fail
            go_round
            case rel => exact ⟨j + 1, by go_num, by rw [HZ.out], by omega⟩
            case measure => simp [intOf]; omega
      ·
        have hjn : j = L.length := by omega
        subst hjn
        clear hlt
        rw [if_pos (by omega)]
        go_wp2_with fail
        with_reducible refine (idsRetire_i _ _ _ _ _ _ I0 (by omega)).mono ?_
        rw [HR.out]
        rintro e w5 ⟨A5, n5, c5, rfl, I5, hb5⟩
        obtain rfl := I5.1
        dsimp only at I5
        have HB5 : Below w.heap.size w w5 := HB4.trans (hb5.mono HB4.size)
        have I0 := I0.below hb5
        have I2 := I2.below hb5
        have I3 := I3.below hb5
        go_wp2_with fail
        with_reducible refine (idsAssign_i _ _ _ _ _ _ I5 (by omega)).mono ?_
        rw [HA.out]
        rintro e w6 ⟨A6, n6, c6, rfl, I6, hb6⟩
        obtain rfl := I6.1
        dsimp only at I6
        have HB6 : Below w.heap.size w w6 := HB5.trans (hb6.mono HB5.size)
        have I0 := I0.below hb6
        have I2 := I2.below hb6
        have I3 := I3.below hb6
        have I5 := I5.below hb6
        go_wp2_with fail
        with_reducible refine (same_any _ _ _ _ _ _ _ I6 I2 (by first | omega | (simp; done) | (dsimp only; omega) | (simp; omega))).mono ?_
        rintro e w7 ⟨rfl, hb7⟩
        have HB7 : Below w.heap.size w w7 := HB6.trans (hb7.mono HB6.size)
        have I0 := I0.below hb7
        have I2 := I2.below hb7
        have I3 := I3.below hb7
        have I5 := I5.below hb7
        have I6 := I6.below hb7
        go_wp2_with fail
        go_ret
        exact ⟨rfl, HB7⟩

end Go.Proofs.Ytobeeakjfkokfab
