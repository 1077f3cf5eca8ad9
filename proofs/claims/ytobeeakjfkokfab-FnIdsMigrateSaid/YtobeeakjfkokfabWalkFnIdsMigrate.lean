/- The walk of the law FnIdsMigrate. -/
import Derived.Test.YtobeeakjfkokfabIdsDrawF
namespace Go.Proofs.Ytobeeakjfkokfab
open Go.RowKit

set_option maxRecDepth 100000 in
set_option maxHeartbeats 8000000 in
theorem walkFnIdsMigrate (w : World) (a : Option Addr) (len cap : Nat) (zs : List Int) (h : IsRow .u8 w a len cap zs) :
    Calls Try.prog 7 #[.slice a len cap] w fun e w' => e = .returned (.bool true) ∧ Below w.heap.size w w' := by
  by_cases hllen : 1048576 < len
  · go_enter Try.func7, Try.ntmps7
    go_wp2
    go_ret
    exact ⟨rfl, Below.refl _ _⟩
  go_enter Try.func7, Try.ntmps7
  go_wp2_with fail
  with_reducible refine (drawIdsMigrate_any w a len cap zs h).mono ?_
  rintro e w1 ⟨A0, c0, L, p, rfl, hp0, hp1, hl, I0, hb1⟩
  clear h
  have HB1 : Below w.heap.size w w1 := hb1
  rcases migrate_cases L p with E | ⟨E, _⟩ | ⟨i, k, hi, hk, hik, E, hok, hp, hri, hpi, hrk, hpk, hon, hok2, hon2, _, _, _⟩
  ·
    have HE := hid_of E
    clear E
    go_wp2_with fail
    with_reducible refine (idsMigrate_i _ _ _ _ _ _ I0 (by omega)).mono ?_
    rw [HE.out]
    rintro e w2 ⟨A2, n2, c2, rfl, I2, hb2⟩
    obtain rfl : n2 = 0 := I2.1.symm
    dsimp only at I2
    have HB2 : Below w.heap.size w w2 := HB1.trans (hb2.mono HB1.size)
    have I0 := I0.below hb2
    go_wp2_with fail
    with_reducible refine (idsMigrate_s _ _ _ _ _ _ I0 (by omega)).mono ?_
    rw [HE.out]
    rintro e w3 ⟨A3, n3, c3, rfl, I3, hb3⟩
    obtain rfl : n3 = 0 := I3.1.symm
    dsimp only at I3
    have HB3 : Below w.heap.size w w3 := HB2.trans (hb3.mono HB2.size)
    have I0 := I0.below hb3
    have I2 := I2.below hb3
    go_wp2_with fail
    with_reducible refine (same_any _ _ _ _ _ _ _ I2 I3 (by first | omega | (simp; done) | (dsimp only; omega) | (simp; omega))).mono ?_
    rintro e w4 ⟨rfl, hb4⟩
    have HB4 : Below w.heap.size w w4 := HB3.trans (hb4.mono HB3.size)
    have I0 := I0.below hb4
    have I2 := I2.below hb4
    have I3 := I3.below hb4
    go_wp2_with fail
    with_reducible refine (same_any _ _ _ _ _ _ _ I2 I3 (by first | omega | (simp; done) | (dsimp only; omega) | (simp; omega))).mono ?_
    rintro e w5 ⟨rfl, hb5⟩
    have HB5 : Below w.heap.size w w5 := HB4.trans (hb5.mono HB4.size)
    have I0 := I0.below hb5
    have I2 := I2.below hb5
    have I3 := I3.below hb5
    go_wp2_with fail
    go_ret
    exact ⟨rfl, HB5⟩
  ·
    have HE := hid_of E
    clear E
    go_wp2_with fail
    with_reducible refine (idsMigrate_i _ _ _ _ _ _ I0 (by omega)).mono ?_
    rw [HE.out]
    rintro e w2 ⟨A2, n2, c2, rfl, I2, hb2⟩
    obtain rfl := I2.1
    dsimp only at I2
    have HB2 : Below w.heap.size w w2 := HB1.trans (hb2.mono HB1.size)
    have I0 := I0.below hb2
    go_wp2_with fail
    with_reducible refine (idsMigrate_s _ _ _ _ _ _ I0 (by omega)).mono ?_
    rw [HE.out]
    rintro e w3 ⟨A3, n3, c3, rfl, I3, hb3⟩
    obtain rfl := I3.1
    dsimp only at I3
    have HB3 : Below w.heap.size w w3 := HB2.trans (hb3.mono HB2.size)
    have I0 := I0.below hb3
    have I2 := I2.below hb3
    go_wp2_with fail
    with_reducible refine (same_any _ _ _ _ _ _ _ I2 I3 (by first | omega | (simp; done) | (dsimp only; omega) | (simp; omega))).mono ?_
    rintro e w4 ⟨rfl, hb4⟩
    have HB4 : Below w.heap.size w w4 := HB3.trans (hb4.mono HB3.size)
    have I0 := I0.below hb4
    have I2 := I2.below hb4
    have I3 := I3.below hb4
    go_wp2_with fail
    with_reducible refine (same_any _ _ _ _ _ _ _ I2 I3 (by first | omega | (simp; done) | (dsimp only; omega) | (simp; omega))).mono ?_
    rintro e w5 ⟨rfl, hb5⟩
    have HB5 : Below w.heap.size w w5 := HB4.trans (hb5.mono HB4.size)
    have I0 := I0.below hb5
    have I2 := I2.below hb5
    have I3 := I3.below hb5
    go_wp2_with fail
    go_ret
    exact ⟨rfl, HB5⟩
  ·
    have hgone : ∀ j, j < (setP (setR L i) k p).length → (nth (setP (setR L i) k p) j).v = (nth L i).v → (nth (setP (setR L i) k p) j).r = true := migrate_gone hok hi hk hik
    have hvi := (ok_range hok hi).1
    have hne : (nth L i).v ≠ (nth L k).v := fun e => hik (ok_vals hok hi hk e)
    have hkeep : Keeps L (setP (setR L i) k p) := keeps_trans (keeps_setR hi) (keeps_setP (by rw [len_setR]; exact hk) (by rw [setR_ne (Ne.symm hik)]; exact hpk))
    obtain ⟨M, hM⟩ : ∃ M, M = setP (setR L i) k p := ⟨_, rfl⟩
    rw [← hM] at E hok2 hon2 hgone hkeep
    have hM9 : M.length ≤ 2000000 := by rw [hM, len_setP, len_setR]; omega
    generalize (nth L i).v = vi at hgone hvi hne hon
    generalize (nth L k).v = vk at hne E hon2
    have HK := hid_of hkeep
    have HG := hid_of hgone
    have HE := hid_of E
    have HN := hid_of hon
    have HN2 := hid_of hon2
    have HO := hid_of hok2
    obtain ⟨hvi0, hvi1⟩ := hvi
    have hne' : (vi != vk) = true := by rw [bne_iff_ne]; exact hne
    clear E hon hon2 hok2 hM hok hri hpi hrk hpk hkeep hgone hne
    go_wp2_with fail
    with_reducible refine (idsMigrate_i _ _ _ _ _ _ I0 (by omega)).mono ?_
    rw [HE.out]
    rintro e w2 ⟨A2, n2, c2, rfl, I2, hb2⟩
    obtain rfl := I2.1
    dsimp only at I2
    have HB2 : Below w.heap.size w w2 := HB1.trans (hb2.mono HB1.size)
    have I0 := I0.below hb2
    go_wp2_with fail
    with_reducible refine (idsMigrate_s _ _ _ _ _ _ I0 (by omega)).mono ?_
    rw [HE.out]
    rintro e w3 ⟨A3, n3, c3, rfl, I3, hb3⟩
    obtain rfl := I3.1
    dsimp only at I3
    have HB3 : Below w.heap.size w w3 := HB2.trans (hb3.mono HB2.size)
    have I0 := I0.below hb3
    have I2 := I2.below hb3
    go_wp2_with fail
    with_reducible refine (same_any _ _ _ _ _ _ _ I2 I3 (by first | omega | (simp; done) | (dsimp only; omega) | (simp; omega))).mono ?_
    rintro e w4 ⟨rfl, hb4⟩
    have HB4 : Below w.heap.size w w4 := HB3.trans (hb4.mono HB3.size)
    have I0 := I0.below hb4
    have I2 := I2.below hb4
    have I3 := I3.below hb4
    go_wp2_with fail
    with_reducible refine (idsOn_i _ _ _ _ _ p I0 (by omega)).mono ?_
    rw [HN.out]
    rintro e w5 ⟨rfl, hb5⟩
    have HB5 : Below w.heap.size w w5 := HB4.trans (hb5.mono HB4.size)
    have I0 := I0.below hb5
    have I2 := I2.below hb5
    have I3 := I3.below hb5
    go_wp2_with fail
    go_loop [12] (fun x => ∃ j : Nat, x = .int .i64 (j : Nat) ∧ j ≤ M.length) (fun x => M.length - (intOf x).toNat)
    case atStart => exact ⟨0, rfl, Nat.zero_le _⟩
    case round =>
      obtain ⟨j, rfl, hj⟩ := hrel
      by_cases hlt : j < M.length
      ·
        obtain ⟨g, rfl, _, _, _, _, hc⟩ := I2.at_ (by omega)
        obtain ⟨d0, d1, d2⟩ := hc j hlt
        have hgj := HG.out j hlt
        generalize nth M j = y at d0 d1 d2 hgj
        obtain ⟨yv, yp, yr⟩ := y
        dsimp only at d0 d1 d2 hgj
        clear hc
        by_cases hv : yv = vi
        ·
          have e := hgj hv
          subst hv e
          clear hgj
          go_wp2_with fail
          go_round
          case rel => exact ⟨j + 1, by go_num, by omega⟩
          case measure => simp [intOf]; omega
        ·
          have hv' : (yv == vi) = false := by rw [beq_eq_false_iff_ne]; exact hv
          clear hgj hv
          go_wp2_with fail
          go_round
          case rel => exact ⟨j + 1, by go_num, by omega⟩
          case measure => simp [intOf]; omega
      ·
        have hjn : j = M.length := by omega
        subst hjn
        clear hlt
        go_wp2_with fail
        with_reducible refine (idsOn_i _ _ _ _ _ p I2 (by omega)).mono ?_
        rw [HN2.out]
        rintro e w6 ⟨rfl, hb6⟩
        have HB6 : Below w.heap.size w w6 := HB5.trans (hb6.mono HB5.size)
        have I0 := I0.below hb6
        have I2 := I2.below hb6
        have I3 := I3.below hb6
        go_wp2_with fail
        with_reducible refine (valid_i I2 (by omega) HO.out).mono ?_
        rintro e w7 ⟨rfl, hb7⟩
        have HB7 : Below w.heap.size w w7 := HB6.trans (hb7.mono HB6.size)
        have I0 := I0.below hb7
        have I2 := I2.below hb7
        have I3 := I3.below hb7
        go_wp2_with fail
        with_reducible refine (keep_any _ _ _ _ _ _ _ _ _ I0 I2 (by omega) (by first | omega | (simp; done) | (dsimp only; omega) | (simp; omega)) HK.out).mono ?_
        rintro e w8 ⟨rfl, hb8⟩
        have HB8 : Below w.heap.size w w8 := HB7.trans (hb8.mono HB7.size)
        have I0 := I0.below hb8
        have I2 := I2.below hb8
        have I3 := I3.below hb8
        go_wp2_with fail
        go_ret
        exact ⟨rfl, HB8⟩

end Go.Proofs.Ytobeeakjfkokfab
