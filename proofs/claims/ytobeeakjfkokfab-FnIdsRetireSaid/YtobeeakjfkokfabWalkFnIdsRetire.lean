/- The walk of the law FnIdsRetire. -/
import Derived.Test.YtobeeakjfkokfabIdsDrawF
import Derived.Deep.RegionHeld3
import Derived.Deep.RegionWith
namespace Go.Proofs.Ytobeeakjfkokfab
open Go.RowKit

set_option maxRecDepth 100000 in
set_option maxHeartbeats 8000000 in
theorem walkFnIdsRetire (w : World) (a : Option Addr) (len cap : Nat) (zs : List Int) (h : IsRow .u8 w a len cap zs) :
    Calls Try.prog 5 #[.slice a len cap] w fun e w' => e = .returned (.bool true) ∧ Below w.heap.size w w' := by
  by_cases hllen : 1048576 < len
  · go_enter Try.func5, Try.ntmps5
    go_wp2
    go_ret
    exact ⟨rfl, Below.refl _ _⟩
  go_enter Try.func5, Try.ntmps5
  go_wp2_with fail
  with_reducible refine (drawIdsRetire_any w a len cap zs h).mono ?_
  rintro e w1 ⟨A0, c0, L, p, rfl, hp0, hp1, hl, I0, hb1⟩
  clear h
  have HB1 : Below w.heap.size w w1 := hb1
  rcases retire_cases L p with E | ⟨E, _⟩ | ⟨k, hk, rfl, E, hok, hr, hok2, E2, hnot⟩
  ·
    have HE := hid_of E
    clear E
    go_wp2_with fail
    with_reducible refine (idsRetire_i _ _ _ _ _ _ I0 (by omega)).mono ?_
    rw [HE.out]
    rintro e w2 ⟨A2, n2, c2, rfl, I2, hb2⟩
    obtain rfl : n2 = 0 := I2.1.symm
    dsimp only at I2
    have HB2 : Below w.heap.size w w2 := HB1.trans (hb2.mono HB1.size)
    have I0 := I0.below hb2
    go_wp2_with fail
    with_reducible refine (idsRetire_s _ _ _ _ _ _ I0 (by omega)).mono ?_
    rw [HE.out]
    rintro e w3 ⟨A3, n3, c3, rfl, I3, hb3⟩
    obtain rfl : n3 = 0 := I3.1.symm
    dsimp only at I3
    have HB3 : Below w.heap.size w w3 := HB2.trans (hb3.mono HB2.size)
    have I0 := I0.below hb3
    have I2 := I2.below hb3
    go_wp2_with fail
    with_reducible refine (same_any _ _ _ _ _ _ _ I2 I3 (by first | omega | (simp; done) | (dsimp only; omega) | (simp; omega))).mono ?_
    rintro e w4 ⟨rfl, hb4⟩
    have HB4 : Below w.heap.size w w4 := HB3.trans (hb4.mono HB3.size)
    have I0 := I0.below hb4
    have I2 := I2.below hb4
    have I3 := I3.below hb4
    go_wp2_with fail
    with_reducible refine (same_any _ _ _ _ _ _ _ I2 I3 (by first | omega | (simp; done) | (dsimp only; omega) | (simp; omega))).mono ?_
    rintro e w5 ⟨rfl, hb5⟩
    have HB5 : Below w.heap.size w w5 := HB4.trans (hb5.mono HB4.size)
    have I0 := I0.below hb5
    have I2 := I2.below hb5
    have I3 := I3.below hb5
    go_wp2_with fail
    go_ret
    exact ⟨rfl, HB5⟩
  ·
    have HE := hid_of E
    clear E
    go_wp2_with fail
    with_reducible refine (idsRetire_i _ _ _ _ _ _ I0 (by omega)).mono ?_
    rw [HE.out]
    rintro e w2 ⟨A2, n2, c2, rfl, I2, hb2⟩
    obtain rfl := I2.1
    dsimp only at I2
    have HB2 : Below w.heap.size w w2 := HB1.trans (hb2.mono HB1.size)
    have I0 := I0.below hb2
    go_wp2_with fail
    with_reducible refine (idsRetire_s _ _ _ _ _ _ I0 (by omega)).mono ?_
    rw [HE.out]
    rintro e w3 ⟨A3, n3, c3, rfl, I3, hb3⟩
    obtain rfl := I3.1
    dsimp only at I3
    have HB3 : Below w.heap.size w w3 := HB2.trans (hb3.mono HB2.size)
    have I0 := I0.below hb3
    have I2 := I2.below hb3
    go_wp2_with fail
    with_reducible refine (same_any _ _ _ _ _ _ _ I2 I3 (by first | omega | (simp; done) | (dsimp only; omega) | (simp; omega))).mono ?_
    rintro e w4 ⟨rfl, hb4⟩
    have HB4 : Below w.heap.size w w4 := HB3.trans (hb4.mono HB3.size)
    have I0 := I0.below hb4
    have I2 := I2.below hb4
    have I3 := I3.below hb4
    go_wp2_with fail
    with_reducible refine (same_any _ _ _ _ _ _ _ I2 I3 (by first | omega | (simp; done) | (dsimp only; omega) | (simp; omega))).mono ?_
    rintro e w5 ⟨rfl, hb5⟩
    have HB5 : Below w.heap.size w w5 := HB4.trans (hb5.mono HB4.size)
    have I0 := I0.below hb5
    have I2 := I2.below hb5
    have I3 := I3.below hb5
    go_wp2_with fail
    go_ret
    exact ⟨rfl, HB5⟩
  ·
    obtain ⟨M, hM⟩ : ∃ M, M = setR L k := ⟨_, rfl⟩
    rw [← hM] at E E2 hok2 hnot
    have hM9 : M.length ≤ 2000000 := by rw [hM, len_setR]; omega
    have HE := hid_of E
    have HE2 := hid_of E2
    have HO := hid_of hok2
    have HN := hid_of hnot
    clear E E2 hok2 hnot hM hok hr
    go_wp2_with fail
    with_reducible refine (idsRetire_i _ _ _ _ _ _ I0 (by omega)).mono ?_
    rw [HE.out]
    rintro e w2 ⟨A2, n2, c2, rfl, I2, hb2⟩
    obtain rfl := I2.1
    dsimp only at I2
    have HB2 : Below w.heap.size w w2 := HB1.trans (hb2.mono HB1.size)
    have I0 := I0.below hb2
    go_wp2_with fail
    with_reducible refine (idsRetire_s _ _ _ _ _ _ I0 (by omega)).mono ?_
    rw [HE.out]
    rintro e w3 ⟨A3, n3, c3, rfl, I3, hb3⟩
    obtain rfl := I3.1
    dsimp only at I3
    have HB3 : Below w.heap.size w w3 := HB2.trans (hb3.mono HB2.size)
    have I0 := I0.below hb3
    have I2 := I2.below hb3
    go_wp2_with fail
    with_reducible refine (same_any _ _ _ _ _ _ _ I2 I3 (by first | omega | (simp; done) | (dsimp only; omega) | (simp; omega))).mono ?_
    rintro e w4 ⟨rfl, hb4⟩
    have HB4 : Below w.heap.size w w4 := HB3.trans (hb4.mono HB3.size)
    have I0 := I0.below hb4
    have I2 := I2.below hb4
    have I3 := I3.below hb4
    go_wp2_with fail
    go_loopw [9] (fun x wr => ∃ j : Nat, x = .int .i64 (j : Nat) ∧ j ≤ 4 ∧ Below w4.heap.size w4 wr) (fun x _ => 4 - (intOf x).toNat)
    case atStart => exact ⟨0, rfl, Nat.zero_le _, Below.refl _ _⟩
    case round =>
      obtain ⟨j, rfl, hj, hbr⟩ := hrel
      have HBr := HB4.trans (hbr.mono HB4.size)
      have I0 := I0.below hbr
      have I2 := I2.below hbr
      by_cases hlt : j < 4
      ·
        obtain ⟨g, rfl, _, _, hgl, _, hc⟩ := I0.at_ (by omega)
        obtain ⟨d0, _, _⟩ := hc k hk
        clear hc
        have hnj := HN.out j
        generalize (nth L k).v = vk at d0 hnj
        obtain ⟨y, hy⟩ : ∃ y, onV M j = y := ⟨_, rfl⟩
        rw [hy] at hnj
        have HY := hid_of hy
        clear hy
        have hne : (y == vk) = false := by rw [beq_eq_false_iff_ne]; exact hnj
        clear hnj
        go_wp2_with fail
        have hS := d0
        go_region_held3 (fun w' => w'.cell? ⟨g, k * 3, none⟩ = some (.int .i64 vk))
          (first | (with_reducible exact cell_drew hS) | (with_reducible exact hS) | (with_reducible exact hS2) | (with_reducible exact cell_drew hS2) | fail)
          (first
            | (go_at_call 20; (with_reducible refine (on_step I2 hgl hS HY.out (by omega)).mono ?_); rintro e wx ⟨rfl, hS2, hbx⟩)
            | (go_at_call 20; (with_reducible refine (on_step I2.drew (lt_drew hgl) (cell_drew hS) HY.out (by omega)).mono ?_); rintro e wx ⟨rfl, hS2, hbx⟩))
        all_goals go_wp2_with fail
        all_goals go_roundw
        case rel => exact ⟨j + 1, by go_num, by omega, by first | exact hbr.drew.trans (Below.mono hbx hbr.size) | exact (hbr.drew.trans (Below.mono hbx hbr.size)).drew | exact below_drewN (hbr.drew.trans (Below.mono hbx hbr.size)) _⟩
        case measure => simp [intOf]; omega
      ·
        have hj4 : j = 4 := by omega
        subst hj4
        clear hlt
        go_wp2_with fail
        with_reducible refine (idsRetire_i _ _ _ _ _ _ I2 (by omega)).mono ?_
        rw [HE2.out]
        rintro e wx ⟨Ax, nx, cx, rfl, Ix, hbx⟩
        have HBx := HBr.trans (hbx.mono HBr.size)
        have I2 := I2.below hbx
        go_wp2_with fail
        with_reducible refine (valid_i I2 (by omega) HO.out).mono ?_
        rintro e wy ⟨rfl, hby⟩
        go_wp2_with fail
        go_ret
        exact ⟨rfl, HBx.trans (hby.mono HBx.size)⟩

end Go.Proofs.Ytobeeakjfkokfab
