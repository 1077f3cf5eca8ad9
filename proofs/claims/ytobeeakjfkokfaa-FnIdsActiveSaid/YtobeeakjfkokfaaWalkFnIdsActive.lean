/- The walk of the law FnIdsActive. -/
import Derived.Test.YtobeeakjfkokfaaIdsDrawF
namespace Go.Proofs.Ytobeeakjfkokfaa
open Go.RowKit

set_option maxRecDepth 100000 in
set_option maxHeartbeats 8000000 in
theorem walkFnIdsActive (w : World) (a : Option Addr) (len cap : Nat) (zs : List Int) (h : IsRow .u8 w a len cap zs) :
    Calls Try.prog 8 #[.slice a len cap] w fun e w' => e = .returned (.bool true) ∧ Below w.heap.size w w' := by
  by_cases hllen : 1048576 < len
  · go_enter Try.func8, Try.ntmps8
    go_wp2
    go_ret
    exact ⟨rfl, Below.refl _ _⟩
  go_enter Try.func8, Try.ntmps8
  go_wp2_with fail
  with_reducible refine (drawIdsValid_any w a len cap zs h).mono ?_
  rintro e w1 ⟨A0, c0, L, rfl, hl, I0, hb1⟩
  clear h
  have HB1 : Below w.heap.size w w1 := hb1
  cases hok : okI L with
  | false =>
    have HO := hid_of hok
    clear hok
    go_wp2_with fail
    with_reducible refine (valid_i I0 (by omega) HO.out).mono ?_
    rintro e w2 ⟨rfl, hb2⟩
    have HB2 : Below w.heap.size w w2 := HB1.trans (hb2.mono HB1.size)
    have I0 := I0.below hb2
    go_wp2_with fail
    with_reducible refine (valid_s I0 (by omega) HO.out).mono ?_
    rintro e w3 ⟨rfl, hb3⟩
    have HB3 : Below w.heap.size w w3 := HB2.trans (hb3.mono HB2.size)
    have I0 := I0.below hb3
    go_wp2_with fail
    go_ret
    exact ⟨rfl, HB3⟩
  | true =>
    have h8 := ok_len hok
    have h4 := ok_act hok
    have HC := hid_of (fun i k hi hk => ok_clash (i := i) (k := k) hok hi hk)
    have HO := hid_of hok
    clear hok
    go_wp2_with fail
    with_reducible refine (valid_i I0 (by omega) HO.out).mono ?_
    rintro e w2 ⟨rfl, hb2⟩
    have HB2 : Below w.heap.size w w2 := HB1.trans (hb2.mono HB1.size)
    have I0 := I0.below hb2
    go_wp2_with fail
    with_reducible refine (valid_s I0 (by omega) HO.out).mono ?_
    rintro e w3 ⟨rfl, hb3⟩
    have HB3 : Below w.heap.size w w3 := HB2.trans (hb3.mono HB2.size)
    have I0 := I0.below hb3
    go_wp2_with fail
    go_loopw [6, 7] (fun t x wr => ∃ j : Nat, x = .int .i64 (j : Nat) ∧ t = .int .i64 (act (L.take j) : Nat) ∧ j ≤ L.length ∧ Below w3.heap.size w3 wr) (fun _ x _ => L.length - (intOf x).toNat)
    case atStart => exact ⟨0, rfl, rfl, Nat.zero_le _, Below.refl _ _⟩
    case round =>
      obtain ⟨j, rfl, rfl, hj, hbr⟩ := hrel
      have hact := act_small (L.take j)
      rw [List.length_take] at hact
      by_cases hlt : j < L.length
      ·
        go_wp2_with fail
        go_loopw [8] (fun x wx => ∃ q : Nat, x = .int .i64 (q : Nat) ∧ q ≤ j ∧ Below w3.heap.size w3 wx) (fun x _ => j - (intOf x).toNat)
        case atStart => exact ⟨0, rfl, Nat.zero_le _, hbr⟩
        case round =>
          obtain ⟨q, rfl, hq, hbx⟩ := hrel
          obtain ⟨g, rfl, _, _, _, _, hc⟩ := (I0.below hbx).at_ (by omega)
          obtain ⟨d0, d1, d2⟩ := hc j hlt
          by_cases hqj : q < j
          ·
            obtain ⟨e0, e1, e2⟩ := hc q (by omega)
            have hcl := HC.out j q hlt hqj
            generalize nth L j = x at d0 d1 d2 hcl
            generalize nth L q = y at e0 e1 e2 hcl
            obtain ⟨xv, xp, xr⟩ := x
            obtain ⟨yv, yp, yr⟩ := y
            dsimp only at d0 d1 d2 e0 e1 e2
            clear hc
            obtain ⟨hv, hcl⟩ := clashB_false.1 hcl
            dsimp only at hv hcl
            have hv' : (xv == yv) = false := by rw [beq_eq_false_iff_ne]; exact fun e => hv e.symm
            have HCL := hid_of hcl
            clear hcl hv
            cases xr <;> cases yr
            case false.false =>
              by_cases hp : 0 ≤ xp
              ·
                have hp2 : (xp == yp) = false := by rw [beq_eq_false_iff_ne]; exact fun e => HCL.out ⟨rfl, rfl, hp, e.symm⟩
                go_wp2_with fail
                go_quiet (fail)
                go_wp2_with fail
                go_roundw
                case rel => exact ⟨q + 1, by go_num, by omega, below_drewN hbx _⟩
                case measure => simp [intOf]; omega
              ·
                have hp' : decide (0 ≤ xp) = false := decide_eq_false hp
                go_wp2_with fail
                go_quiet (fail)
                go_wp2_with fail
                go_roundw
                case rel => exact ⟨q + 1, by go_num, by omega, below_drewN hbx _⟩
                case measure => simp [intOf]; omega
            all_goals
              go_wp2_with fail
              go_quiet (fail)
              go_wp2_with fail
              go_roundw
              case rel => exact ⟨q + 1, by go_num, by omega, below_drewN hbx _⟩
              case measure => simp [intOf]; omega
          ·
            have hqe : q = j := by omega
            subst hqe
            clear hqj
            have hts := act_next (L := L) (k := q) hlt
            generalize (nth L q).r = r at d2 hts
            have HT := hid_of hts
            clear hts hc
            cases r <;> go_wp2_with fail
            all_goals
              go_roundw
              case rel => exact ⟨q + 1, by go_num, by rw [HT.out]; first | rfl | go_num, by omega, hbx⟩
              case measure => simp [intOf]; omega
      ·
        have hjn : j = L.length := by omega
        subst hjn
        clear hlt
        rw [List.take_of_length_le (Nat.le_refl _)] at *
        generalize act L = na at *
        go_wp2_with fail
        go_ret
        exact ⟨ret_bool (decide_eq_true (by omega)), HB3.trans (hbr.mono HB3.size)⟩

end Go.Proofs.Ytobeeakjfkokfaa
