/- The walk of the law FnIdsIssueFail. -/
import Derived.Test.YtobeeakjfkokfabIdsDrawF
namespace Go.Proofs.Ytobeeakjfkokfab
open Go.RowKit

set_option maxRecDepth 100000 in
set_option maxHeartbeats 8000000 in
theorem walkFnIdsIssueFail (w : World) (a : Option Addr) (len cap : Nat) (zs : List Int) (h : IsRow .u8 w a len cap zs) :
    Calls Try.prog 4 #[.slice a len cap] w fun e w' => e = .returned (.bool true) ∧ Below w.heap.size w w' := by
  by_cases hllen : 1048576 < len
  · go_enter Try.func4, Try.ntmps4
    go_wp2
    go_ret
    exact ⟨rfl, Below.refl _ _⟩
  go_enter Try.func4, Try.ntmps4
  go_wp2_with fail
  with_reducible refine (drawIdsIssue_any w a len cap zs h).mono ?_
  rintro e w1 ⟨A0, c0, L, p, rfl, hp0, hp1, hl, I0, hb1⟩
  clear h
  have HB1 : Below w.heap.size w w1 := hb1
  obtain ⟨⟨M, z, b⟩, E⟩ : ∃ r, issue L p = r := ⟨_, rfl⟩
  have hM9 : M.length ≤ 2000000 := by have := len_issue L p; rw [E] at this; dsimp only at this; omega
  have HE := hid_of E
  clear E
  go_wp2_with fail
  with_reducible refine (idsIssue_i _ _ _ _ _ _ I0 (by omega)).mono ?_
  rw [HE.out]
  rintro e w2 ⟨A2, n2, c2, rfl, I2, hb2⟩
  obtain rfl := I2.1
  dsimp only at I2
  have HB2 : Below w.heap.size w w2 := HB1.trans (hb2.mono HB1.size)
  have I0 := I0.below hb2
  go_wp2_with fail
  with_reducible refine (idsIssue_s _ _ _ _ _ _ I0 (by omega)).mono ?_
  rw [HE.out]
  rintro e w3 ⟨A3, n3, c3, rfl, I3, hb3⟩
  obtain rfl := I3.1
  dsimp only at I3
  have HB3 : Below w.heap.size w w3 := HB2.trans (hb3.mono HB2.size)
  have I0 := I0.below hb3
  have I2 := I2.below hb3
  go_wp2_with fail
  with_reducible refine (same_any _ _ _ _ _ _ _ I2 I3 (by first | omega | (simp; done) | (dsimp only; omega) | (simp; omega))).mono ?_
  rintro e w4 ⟨rfl, hb4⟩
  have HB4 : Below w.heap.size w w4 := HB3.trans (hb4.mono HB3.size)
  have I0 := I0.below hb4
  have I2 := I2.below hb4
  have I3 := I3.below hb4
  cases hok : okI L with
  | false =>
    have HO := hid_of hok
    clear hok
    go_wp2_with fail
    with_reducible refine (valid_s I0 (by omega) HO.out).mono ?_
    rintro e w5 ⟨rfl, hb5⟩
    have HB5 : Below w.heap.size w w5 := HB4.trans (hb5.mono HB4.size)
    have I0 := I0.below hb5
    have I2 := I2.below hb5
    have I3 := I3.below hb5
    go_wp2_with fail
    with_reducible refine (same_any _ _ _ _ _ _ _ I2 I3 (by first | omega | (simp; done) | (dsimp only; omega) | (simp; omega))).mono ?_
    rintro e w6 ⟨rfl, hb6⟩
    have HB6 : Below w.heap.size w w6 := HB5.trans (hb6.mono HB5.size)
    have I0 := I0.below hb6
    have I2 := I2.below hb6
    have I3 := I3.below hb6
    go_wp2_with fail
    go_ret
    exact ⟨rfl, HB6⟩
  | true =>
    have HO := hid_of hok
    clear hok
    go_wp2_with fail
    with_reducible refine (valid_s I0 (by omega) HO.out).mono ?_
    rintro e w5 ⟨rfl, hb5⟩
    have HB5 : Below w.heap.size w w5 := HB4.trans (hb5.mono HB4.size)
    have I0 := I0.below hb5
    have I2 := I2.below hb5
    have I3 := I3.below hb5
    rcases (show p < 0 ∨ 9999 < p ∨ (0 ≤ p ∧ p ≤ 9999) from by omega) with hp | hp | ⟨hq0, hq1⟩
    ·
      go_wp2_with fail
      with_reducible refine (same_any _ _ _ _ _ _ _ I2 I3 (by first | omega | (simp; done) | (dsimp only; omega) | (simp; omega))).mono ?_
      rintro e w6 ⟨rfl, hb6⟩
      have HB6 : Below w.heap.size w w6 := HB5.trans (hb6.mono HB5.size)
      have I0 := I0.below hb6
      have I2 := I2.below hb6
      have I3 := I3.below hb6
      go_wp2_with fail
      go_ret
      exact ⟨rfl, HB6⟩
    ·
      go_wp2_with fail
      with_reducible refine (same_any _ _ _ _ _ _ _ I2 I3 (by first | omega | (simp; done) | (dsimp only; omega) | (simp; omega))).mono ?_
      rintro e w6 ⟨rfl, hb6⟩
      have HB6 : Below w.heap.size w w6 := HB5.trans (hb6.mono HB5.size)
      have I0 := I0.below hb6
      have I2 := I2.below hb6
      have I3 := I3.below hb6
      go_wp2_with fail
      go_ret
      exact ⟨rfl, HB6⟩
    ·
      have HX := hid_of (issue_end HO.out ⟨hq0, hq1⟩ HE.out)
      go_wp2_with fail
      go_loop [11, 12, 13] (fun t u x => ∃ j : Nat, x = .int .i64 (j : Nat) ∧ t = .int .i64 (act (L.take j) : Nat) ∧ u = .bool ((L.take j).any fun y => decide (y.v = p)) ∧ j ≤ L.length) (fun _ _ x => L.length - (intOf x).toNat)
      case atStart => exact ⟨0, rfl, rfl, rfl, Nat.zero_le _⟩
      case round =>
        obtain ⟨j, rfl, rfl, rfl, hj⟩ := hrel
        have hact := act_small (L.take j)
        rw [List.length_take] at hact
        by_cases hlt : j < L.length
        ·
          obtain ⟨g, rfl, _, _, _, _, hc⟩ := I0.at_ (by omega)
          obtain ⟨d0, d1, d2⟩ := hc j hlt
          clear hc
          have hts := act_next (L := L) (k := j) hlt
          have hus : ((L.take (j + 1)).any fun y => decide (y.v = p)) = (((L.take j).any fun y => decide (y.v = p)) || (nth L j).v == p) := by rw [List.take_succ_eq_append_getElem hlt, List.any_append, ← nth_eq hlt]; simp; rfl
          generalize nth L j = y at d0 d1 d2 hts hus
          obtain ⟨yv, yp, yr⟩ := y
          dsimp only at d0 d1 d2 hts hus
          generalize ((L.take j).any fun y => decide (y.v = p)) = u0 at hus ⊢
          have HU := hid_of hus
          have HT := hid_of hts
          clear hus hts
          cases u0 <;> cases yr
          all_goals
            go_wp2_with fail
            go_round
            case rel => exact ⟨j + 1, by go_num, by rw [HT.out]; first | rfl | go_num, by rw [HU.out]; rfl, by omega⟩
            case measure => simp [intOf]; omega
        ·
          have hjn : j = L.length := by omega
          subst hjn
          clear hlt
          rw [List.take_of_length_le (Nat.le_refl _)] at *
          obtain ⟨u0, hu⟩ : ∃ u, u = (L.any fun y => decide (y.v = p)) := ⟨_, rfl⟩
          rw [← hu]
          obtain ⟨na, hna⟩ : ∃ a, a = act L := ⟨_, rfl⟩
          rw [← hna]
          have HX' := HX.out
          rw [← hu, ← hna] at HX'
          have HU := hid_of hu
          clear hu hna
          rcases HX' with ⟨rfl, rfl, hML⟩ | ⟨rfl, rfl, hML, h8⟩ | ⟨rfl, rfl, hML, h8, rfl⟩ | ⟨rfl, rfl, h8, h4⟩
          ·
            obtain rfl := hML.symm
            go_wp2_with fail
            with_reducible refine (same_any _ _ _ _ _ _ _ I2 I0 (by first | omega | (simp; done) | (dsimp only; omega) | (simp; omega))).mono ?_
            rintro e w6 ⟨rfl, hb6⟩
            have HB6 : Below w.heap.size w w6 := HB5.trans (hb6.mono HB5.size)
            have I0 := I0.below hb6
            have I2 := I2.below hb6
            have I3 := I3.below hb6
            go_wp2_with fail
            go_ret
            exact ⟨rfl, HB6⟩
          ·
            obtain rfl := hML.symm
            have e8 : ((L.length : Int) == 8) = true := by rw [beq_iff_eq]; omega
            clear h8
            go_wp2_with fail
            with_reducible refine (same_any _ _ _ _ _ _ _ I2 I0 (by first | omega | (simp; done) | (dsimp only; omega) | (simp; omega))).mono ?_
            rintro e w6 ⟨rfl, hb6⟩
            have HB6 : Below w.heap.size w w6 := HB5.trans (hb6.mono HB5.size)
            have I0 := I0.below hb6
            have I2 := I2.below hb6
            have I3 := I3.below hb6
            go_wp2_with fail
            go_ret
            exact ⟨rfl, HB6⟩
          ·
            obtain rfl := hML.symm
            have e8 : ((L.length : Int) == 8) = false := by rw [beq_eq_false_iff_ne]; omega
            go_wp2_with fail
            with_reducible refine (same_any _ _ _ _ _ _ _ I2 I0 (by first | omega | (simp; done) | (dsimp only; omega) | (simp; omega))).mono ?_
            rintro e w6 ⟨rfl, hb6⟩
            have HB6 : Below w.heap.size w w6 := HB5.trans (hb6.mono HB5.size)
            have I0 := I0.below hb6
            have I2 := I2.below hb6
            have I3 := I3.below hb6
            go_wp2_with fail
            go_ret
            exact ⟨rfl, HB6⟩
          ·
            have e8 : ((L.length : Int) == 8) = false := by rw [beq_eq_false_iff_ne]; omega
            have e4 : ((na : Int) == 4) = false := by rw [beq_eq_false_iff_ne]; omega
            go_wp2_with fail
            go_ret
            exact ⟨rfl, HB5⟩

end Go.Proofs.Ytobeeakjfkokfab
