/- The walk of the law FnScheduleOrder. -/
import Derived.Test.YtbmmoncbklcbmaaOrdU
namespace Go.Proofs.Ytbmmoncbklcbmaa
open Go.RowKit

set_option maxRecDepth 100000 in
set_option maxHeartbeats 4000000 in
theorem walkFnScheduleOrder (w : World) (a : Option Addr) (len cap : Nat) (zs : List Int) (h : IsRow .u8 w a len cap zs) :
    Calls Try.prog 7 #[.slice a len cap] w fun e w' => e = .returned (.bool true) ∧ Below w.heap.size w w' := by
  by_cases hllen : 1048576 < len
  · go_enter Try.func7, Try.ntmps7
    go_wp2
    go_ret
    exact ⟨rfl, Below.refl _ _⟩
  go_enter Try.func7, Try.ntmps7
  go_wp2_with fail
  with_reducible refine (drawOrder_any w a len cap zs h).mono ?_
  rintro e w1 ⟨A0, c0, L, rfl, hl, hnil, I0, hb1⟩
  clear h
  have HB1 : Below w.heap.size w w1 := hb1
  go_wp2_with fail
  with_reducible refine (order_i _ _ _ L _ I0 (by omega)).mono ?_
  rintro e w2 ⟨A2, c2, out, rfl, ho, _, _, _, I2, hb2⟩
  have HB2 : Below w.heap.size w w2 := HB1.trans (hb2.mono HB1.size)
  have I0 := I0.below hb2
  go_wp2_with fail
  with_reducible refine (order_s _ _ _ L _ I0 (by omega)).mono ?_
  rintro e w3 ⟨A3, c3, out3, rfl, ho3, _, _, _, I3, hb3⟩
  have HB3 : Below w.heap.size w w3 := HB2.trans (hb3.mono HB2.size)
  have I0 := I0.below hb3
  have I2 := I2.below hb3
  obtain rfl := ordered_unique ho ho3
  clear ho3
  have hol := ordered_len ho
  have hom := ordered_mem ho
  have HO := hid_of ho
  have HM := hid_of hom
  clear ho hom
  go_wp2_with fail
  with_reducible refine (sameI_any _ _ _ _ _ _ _ I2 I3 (by omega)).mono ?_
  rintro e w4 ⟨rfl, hb4⟩
  have HB4 : Below w.heap.size w w4 := HB3.trans (hb4.mono HB3.size)
  have I0 := I0.below hb4
  have I2 := I2.below hb4
  have I3 := I3.below hb4
  go_wp2_with fail
  with_reducible refine (valid_spec _ _ _ L _ I0 (by omega)).mono ?_
  rintro e w5 ⟨rfl, hb5⟩
  have HB5 : Below w.heap.size w w5 := HB4.trans (hb5.mono HB4.size)
  have I0 := I0.below hb5
  have I2 := I2.below hb5
  have I3 := I3.below hb5
  cases hok : okO L with
  | false =>
    clear hok
    go_wp2_with fail
    with_reducible refine (sameI_any _ _ _ _ _ _ _ I2 I3 (by omega)).mono ?_
    rintro e w6 ⟨rfl, hb6⟩
    go_wp2_with fail
    go_ret
    exact ⟨rfl, HB5.trans (hb6.mono HB5.size)⟩
  | true =>
    have hord : IsOrder L out := by
      rcases HO.out with h | h
      · exact h.2
      · rw [hok] at h
        cases h.1
    have hhas : ∀ k, k < L.length → decide (k ∈ out) = freeB (onth L k) := fun k hk => by
      rw [Bool.eq_iff_iff, decide_eq_true_iff, hord.2 k]
      exact ⟨fun h => h.2, fun h => ⟨hk, h⟩⟩
    have hpw : ∀ j, j + 1 < out.length → Lt L (out.getD j 0) (out.getD (j + 1) 0) := fun j hj => by
      rw [List.getD_eq_getElem?_getD, List.getD_eq_getElem?_getD, List.getElem?_eq_getElem (by omega), List.getElem?_eq_getElem hj]
      exact List.pairwise_iff_getElem.1 hord.1 j (j + 1) (by omega) hj (by omega)
    have hmm : ∀ j, j < out.length → out.getD j 0 < L.length := fun j hj => by
      rw [List.getD_eq_getElem?_getD, List.getElem?_eq_getElem hj]
      exact HM.out _ (List.getElem_mem hj)
    have HH := hid_of hhas
    have HP := hid_of hpw
    have HMM := hid_of hmm
    clear hok hord hhas hpw hmm
    obtain ⟨len5, hlen⟩ : ∃ x, x = out.length := ⟨_, rfl⟩
    rw [← hlen] at I2 I3 hol HP HMM ⊢
    clear hlen
    go_wp2_with fail
    go_loopw [6] (fun x wr => ∃ k : Nat, x = .int .i64 (k : Nat) ∧ k ≤ L.length ∧ Below w5.heap.size w5 wr) (fun x _ => L.length - (intOf x).toNat)
    case atStart => exact ⟨0, rfl, Nat.zero_le _, Below.refl _ _⟩
    case round =>
      obtain ⟨k, rfl, hk, hb⟩ := hrel
      by_cases hlt : k < L.length
      · obtain ⟨g, off, rfl, _, hc⟩ := (I0.below hb).2 (by omega)
        obtain ⟨d0, d1, d2, d3⟩ := hc k hlt
        have J2 := I2.below hb
        have hhk := HH.out k hlt
        generalize onth L k = x at d0 d1 d2 d3 hhk
        obtain ⟨xa, xt, xw, xf⟩ := x
        dsimp only at d0 d1 d2 d3
        obtain ⟨hv, hhv⟩ : ∃ b, b = decide (k ∈ out) := ⟨_, rfl⟩
        rw [← hhv] at hhk
        have HHV := hid_of hhv
        clear hc hhv
        cases xa with
        | false =>
          obtain rfl : hv = false := hhk.trans (by simp [freeB])
          clear hhk
          go_wp2_with fail
          go_quiet ((go_at_call 23; exact Calls.quiet_of_same (has_q J2 HHV.out (by omega) _)))
          go_wp2_with fail
          go_roundw
          case rel => exact ⟨k + 1, by go_num, by omega, below_drewN' hb _⟩
          case measure => simp [intOf]; omega
        | true =>
          by_cases hfw : xf < xw
          · obtain rfl : hv = true := hhk.trans (by simp [freeB, hfw])
            clear hhk
            go_wp2_with fail
            go_quiet ((go_at_call 23; exact Calls.quiet_of_same (has_q J2 HHV.out (by omega) _)))
            go_wp2_with fail
            go_roundw
            case rel => exact ⟨k + 1, by go_num, by omega, below_drewN' hb _⟩
            case measure => simp [intOf]; omega
          · obtain rfl : hv = false := hhk.trans (by simp [freeB]; omega)
            have hfw' : decide (xf < xw) = false := decide_eq_false hfw
            clear hhk
            go_wp2_with fail
            go_quiet ((go_at_call 23; exact Calls.quiet_of_same (has_q J2 HHV.out (by omega) _)))
            go_wp2_with fail
            go_roundw
            case rel => exact ⟨k + 1, by go_num, by omega, below_drewN' hb _⟩
            case measure => simp [intOf]; omega
      · have HB6 : Below w.heap.size w wr := HB5.trans (hb.mono HB5.size)
        have I0 := I0.below hb
        have I2 := I2.below hb
        go_wp2_with fail
        go_loopw [7] (fun x wx => ∃ j : Nat, x = .int .i64 ((j : Int) + 1) ∧ j ≤ len5 ∧ Below wr.heap.size wr wx) (fun x _ => len5 + 1 - (intOf x).toNat)
        case atStart => exact ⟨0, rfl, Nat.zero_le _, Below.refl _ _⟩
        case round =>
          obtain ⟨j, rfl, hj, hbj⟩ := hrel
          by_cases hlj : j + 1 < len5
          · obtain ⟨g, off, rfl, _, hc⟩ := (I0.below hbj).2 (by have := HMM.out j (by omega); omega)
            obtain ⟨g2, off2, rfl, _, hc2⟩ := (I2.below hbj).2 (by omega)
            have e0 := hc2 j (by omega)
            have e1 := hc2 (j + 1) hlj
            rw [inth_ints] at e0 e1
            have hx := HMM.out j (by omega)
            have hy := HMM.out (j + 1) hlj
            have hP := HP.out j hlj
            generalize out.getD j 0 = x at e0 hx hP
            generalize out.getD (j + 1) 0 = y at e1 hy hP
            obtain ⟨_, d1, _, _⟩ := hc x hx
            obtain ⟨_, f1, _, _⟩ := hc y hy
            unfold Lt at hP
            generalize (onth L x).t = tx at d1 hP
            generalize (onth L y).t = ty at f1 hP
            clear hc hc2
            have e1' : wr.cell? ⟨g2, off2 + j + 1, none⟩ = some (.int .i64 (y : Int)) := e1
            have i0 : (0 : Int) ≤ (j : Int) := Int.natCast_nonneg _
            have i1 : (j : Int) < (len5 : Int) := by omega
            have i2 : (j : Int) + 1 < (len5 : Int) := by omega
            have i3 : (x : Int) < (L.length : Int) := by omega
            have i4 : (y : Int) < (L.length : Int) := by omega
            have i5 : (0 : Int) ≤ (x : Int) := Int.natCast_nonneg _
            have i6 : (0 : Int) ≤ (y : Int) := Int.natCast_nonneg _
            rcases hP with hP | ⟨rfl, hP⟩
            · have c1 : decide (ty < tx) = false := decide_eq_false (by omega)
              have c2 : (tx == ty) = false := by rw [beq_eq_false_iff_ne]; omega
              go_wp2_with fail
              go_quiet (fail)
              go_wp2_with fail
              go_roundw
              case rel => exact ⟨j + 1, by go_num, by omega, below_drewN' hbj _⟩
              case measure => simp [intOf]; omega
            · have c1 : decide (tx < tx) = false := decide_eq_false (by omega)
              have c2 : decide ((y : Int) ≤ (x : Int)) = false := decide_eq_false (by omega)
              go_wp2_with fail
              go_quiet (fail)
              go_wp2_with fail
              go_roundw
              case rel => exact ⟨j + 1, by go_num, by omega, below_drewN' hbj _⟩
              case measure => simp [intOf]; omega
          · go_wp2_with fail
            go_ret
            exact ⟨rfl, HB6.trans (hbj.mono HB6.size)⟩

end Go.Proofs.Ytbmmoncbklcbmaa
