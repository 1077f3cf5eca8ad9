/- The reference's check of a list of identifiers. -/
import Derived.Test.YtobeeakjfkokfabIdsA
import Derived.Deep.QuietTactic
import Derived.BigQuiet
namespace Go.Proofs.Ytobeeakjfkokfab
open Go.RowKit

theorem l6In_v {n lo hi : Int} {b : Bool} (h : decide (lo ≤ n ∧ n ≤ hi) = b) (w : World) :
    Calls Try.prog 35 #[.int .i64 n, .int .i64 lo, .int .i64 hi] w fun e w' => e = .returned (.bool b) ∧ w = w' :=
  (l6In_any n lo hi w).mono fun _ _ ⟨he, hw⟩ => ⟨by rw [he, h], hw⟩

theorem act_take_succ {L : List Cid} {k : Nat} (h : k < L.length) : act (L.take (k + 1)) = act (L.take k) + (if (nth L k).r = true then 0 else 1) := by
  rw [List.take_succ_eq_append_getElem h, act_snoc, nth_eq h]
theorem act_le (L : List Cid) : act L ≤ L.length := by unfold act; exact List.countP_le_length
theorem range_true {x : Cid} (h0 : decide (0 ≤ x.v ∧ x.v ≤ 9999) = true) (h1 : decide (-1 ≤ x.p ∧ x.p ≤ 3) = true) : rangeB x = true := by
  rw [rangeB_iff]; simp at h0 h1; exact ⟨h0, h1⟩
theorem range_false0 {x : Cid} (h0 : decide (0 ≤ x.v ∧ x.v ≤ 9999) = false) : rangeB x = false := by
  unfold rangeB; simp at h0 ⊢; intro a b; have := h0 a; omega
theorem range_false1 {x : Cid} (h1 : decide (-1 ≤ x.p ∧ x.p ≤ 3) = false) : rangeB x = false := by
  unfold rangeB; simp at h1 ⊢; intro _ _ c; exact h1 c
theorem clash_next {x : Cid} {L : List Cid} {m : Nat} (h : ∀ q, q < m → clashB x (nth L q) = false) (h1 : clashB x (nth L m) = false) (q : Nat) (hq : q < m + 1) : clashB x (nth L q) = false := by
  rcases (show q < m ∨ q = m from by omega) with e | e
  · exact h q e
  · rw [e]; exact h1
theorem ok_next {L : List Cid} {m : Nat} (h : ∀ q, q < m → okAt L q = true) (h1 : okAt L m = true) (q : Nat) (hq : q < m + 1) : okAt L q = true := by
  rcases (show q < m ∨ q = m from by omega) with e | e
  · exact h q e
  · rw [e]; exact h1
theorem ok_no {L : List Cid} (h : ¬ okI L = true) : okI L = false := by
  cases hk : okI L with
  | false => rfl
  | true => exact absurd hk h
/-- The cases of two identifiers on one list. -/
theorem clash_cases (x y : Cid) :
    (y.v = x.v ∧ Hid (clashB x y = true)) ∨ ((y.v == x.v) = false ∧ x.r = true ∧ Hid (clashB x y = false)) ∨ ((y.v == x.v) = false ∧ x.r = false ∧ y.r = true ∧ Hid (clashB x y = false)) ∨
    ((y.v == x.v) = false ∧ x.r = false ∧ y.r = false ∧ decide (0 ≤ x.p) = false ∧ Hid (clashB x y = false)) ∨
    ((y.v == x.v) = false ∧ x.r = false ∧ y.r = false ∧ 0 ≤ x.p ∧ (y.p == x.p) = false ∧ Hid (clashB x y = false)) ∨
    ((y.v == x.v) = false ∧ x.r = false ∧ y.r = false ∧ 0 ≤ x.p ∧ y.p = x.p ∧ Hid (clashB x y = true)) := by
  by_cases hv : y.v = x.v
  · exact .inl ⟨hv, by unfold Hid clashB; simp [hv]⟩
  · have hv' : (y.v == x.v) = false := by simpa using hv
    refine .inr ?_
    cases hr : x.r with
    | true => exact .inl ⟨hv', rfl, by unfold Hid clashB; simp [hv, hr]⟩
    | false =>
      refine .inr ?_
      cases hr' : y.r with
      | true => exact .inl ⟨hv', rfl, rfl, by unfold Hid clashB; simp [hv, hr']⟩
      | false =>
        refine .inr ?_
        by_cases hp : 0 ≤ x.p
        · by_cases hq : y.p = x.p
          · exact .inr (.inr ⟨hv', rfl, rfl, hp, hq, by unfold Hid clashB; simp [hr, hr', hp, hq]⟩)
          · exact .inr (.inl ⟨hv', rfl, rfl, hp, by simpa using hq, by unfold Hid clashB; simp [hv, hq]⟩)
        · exact .inl ⟨hv', rfl, rfl, by simpa using hp, by unfold Hid clashB; simp [hv, hp]⟩

set_option maxHeartbeats 2000000 in
theorem valid_spec {B S : Nat} (A : Option Addr) (n c : Nat) (L : List Cid) (w : World) (h : IdsIn w B S A n c L) (hn : n ≤ 2000000) :
    Calls Try.prog 16 #[.slice A n c] w fun e w' => e = .returned (.bool (okI L)) ∧ Below w.heap.size w w' := by
  have hl := h.1
  go_enter Try.func16, Try.ntmps16
  go_wp2_with fail
  go_loopw [3, 4] (fun a i wr => ∃ k : Nat, i = .int .i64 (k : Nat) ∧ a = .int .i64 (act (L.take k) : Nat) ∧ k ≤ n ∧ Hid (∀ j, j < k → okAt L j = true) ∧ Below w.heap.size w wr) (fun _ i _ => n - (intOf i).toNat)
  case atStart => exact ⟨0, rfl, rfl, Nat.zero_le _, fun j hj => by omega, Below.refl _ _⟩
  case round =>
    obtain ⟨k, rfl, rfl, hk, HK, hb⟩ := hrel
    have hact := act_le (L.take k)
    rw [List.length_take] at hact
    by_cases hlt : k < n
    · obtain ⟨g, rfl, _, _, hgl, _, hc⟩ := (h.below hb).at_ (by omega)
      obtain ⟨c0, c1, c2⟩ := hc k hlt
      obtain ⟨⟨v, p, r⟩, hx⟩ : ∃ x, x = nth L k := ⟨_, rfl⟩
      rw [← hx] at c0 c1 c2
      dsimp only at c0 c1 c2
      have HC := hid_of hc
      have HX := hid_of hx
      clear hc hx
      obtain ⟨b0, h0⟩ : ∃ b, decide (0 ≤ v ∧ v ≤ 9999) = b := ⟨_, rfl⟩
      obtain ⟨b1, h1⟩ : ∃ b, decide (-1 ≤ p ∧ p ≤ 3) = b := ⟨_, rfl⟩
      have H0 := hid_of h0
      have H1 := hid_of h1
      clear h0 h1
      rcases b0 with _ | _
      · go_wp2_with (go_at_call 35; (with_reducible refine (l6In_v H0.out _).mono ?_); rintro e w2 ⟨rfl, rfl⟩)
        go_ret
        exact ⟨ret_bool (okI_false_at (i := k) (by omega) (okAt_range (by rw [← HX.out]; exact range_false0 H0.out))).symm, hb.alloc hb.size _⟩
      rcases b1 with _ | _
      · go_wp2_with (go_at_call 35; first | ((with_reducible refine (l6In_v H0.out _).mono ?_); rintro e w2 ⟨rfl, rfl⟩) | ((with_reducible refine (l6In_v H1.out _).mono ?_); rintro e w2 ⟨rfl, rfl⟩))
        go_ret
        exact ⟨ret_bool (okI_false_at (i := k) (by omega) (okAt_range (by rw [← HX.out]; exact range_false1 H1.out))).symm, hb.alloc hb.size _⟩
      go_wp2_with (go_at_call 35; first | ((with_reducible refine (l6In_v H0.out _).mono ?_); rintro e w2 ⟨rfl, rfl⟩) | ((with_reducible refine (l6In_v H1.out _).mono ?_); rintro e w2 ⟨rfl, rfl⟩))
      obtain ⟨wo, rfl⟩ : ∃ wo : World, wo = wr := ⟨_, rfl⟩
      go_loopw [6] (fun i wx => ∃ m d : Nat, i = .int .i64 (m : Nat) ∧ m ≤ k ∧ Hid (∀ q, q < m → clashB ⟨v, p, r⟩ (nth L q) = false) ∧ wx = (wo.alloc (.cells #[.int .i64 v, .int .i64 p, .bool r] 30)).drewN d) (fun i _ => k - (intOf i).toNat)
      case atStart => exact ⟨0, 0, rfl, Nat.zero_le _, fun q hq => by omega, rfl⟩
      case round =>
        obtain ⟨m, d, rfl, hm, HM, rfl⟩ := hrel
        by_cases hmk : m < k
        · obtain ⟨d0, d1, d2⟩ := HC.out m (by omega)
          obtain ⟨⟨v', p', r'⟩, hy⟩ : ∃ y, y = nth L m := ⟨_, rfl⟩
          rw [← hy] at d0 d1 d2
          dsimp only at d0 d1 d2
          have HY := hid_of hy
          clear hy
          rcases clash_cases ⟨v, p, r⟩ ⟨v', p', r'⟩ with ⟨e1, HH⟩ | ⟨e1, e2, HH⟩ | ⟨e1, e2, e3, HH⟩ | ⟨e1, e2, e3, e4, HH⟩ | ⟨e1, e2, e3, e4, e5, HH⟩ | ⟨e1, e2, e3, e4, e5, HH⟩
          all_goals (dsimp only at e1; try dsimp only at e2; try dsimp only at e3; try dsimp only at e4; try dsimp only at e5)
          · subst e1
            go_wp2_with fail
            go_quiet (fail)
            go_wp2_with fail
            go_ret
            exact ⟨ret_bool (okI_false_at (i := k) (by omega) (okAt_clash hmk (by rw [← HX.out, ← HY.out]; exact HH.out))).symm, below_drewN (below_drewN (hb.alloc hb.size _) _) _⟩
          · subst e2
            go_wp2_with fail
            go_quiet (fail)
            go_wp2_with fail
            go_roundw
            case rel => exact ⟨m + 1, _, by go_num, by omega, fun q hq => clash_next HM.out (by rw [← HY.out]; exact HH.out) q hq, rfl⟩
            case measure => simp [intOf]; omega
          · subst e2 e3
            go_wp2_with fail
            go_quiet (fail)
            go_wp2_with fail
            go_roundw
            case rel => exact ⟨m + 1, _, by go_num, by omega, fun q hq => clash_next HM.out (by rw [← HY.out]; exact HH.out) q hq, rfl⟩
            case measure => simp [intOf]; omega
          · subst e2 e3
            go_wp2_with fail
            go_quiet (fail)
            go_wp2_with fail
            go_roundw
            case rel => exact ⟨m + 1, _, by go_num, by omega, fun q hq => clash_next HM.out (by rw [← HY.out]; exact HH.out) q hq, rfl⟩
            case measure => simp [intOf]; omega
          · subst e2 e3
            go_wp2_with fail
            go_quiet (fail)
            go_wp2_with fail
            go_roundw
            case rel => exact ⟨m + 1, _, by go_num, by omega, fun q hq => clash_next HM.out (by rw [← HY.out]; exact HH.out) q hq, rfl⟩
            case measure => simp [intOf]; omega
          · subst e2 e3 e5
            go_wp2_with fail
            go_quiet (fail)
            go_wp2_with fail
            go_ret
            exact ⟨ret_bool (okI_false_at (i := k) (by omega) (okAt_clash hmk (by rw [← HX.out, ← HY.out]; exact HH.out))).symm, below_drewN (below_drewN (hb.alloc hb.size _) _) _⟩
        · have hmk' : m = k := by omega
          subst hmk'
          clear hmk
          have hok : okAt L m = true := okAt_iff.2 ⟨by rw [← HX.out]; exact range_true H0.out H1.out, by rw [← HX.out]; exact HM.out⟩
          have hts := act_take_succ (L := L) (k := m) (by omega)
          rw [← HX.out] at hts
          dsimp only at hts
          have HO := hid_of hok
          clear hok
          cases r
          · have HT : Hid (act (L.take (m + 1)) = act (L.take m) + 1) := hts
            clear hts
            go_wp2_with fail
            go_roundw
            case rel => exact ⟨m + 1, by go_num, by rw [HT.out]; go_num, by omega, fun q hq => ok_next HK.out HO.out q hq, below_drewN (hb.alloc hb.size _) _⟩
            case measure => simp [intOf]; omega
          · have HT : Hid (act (L.take (m + 1)) = act (L.take m)) := hts
            clear hts
            go_wp2_with fail
            go_roundw
            case rel => exact ⟨m + 1, by go_num, by rw [HT.out], by omega, fun q hq => ok_next HK.out HO.out q hq, below_drewN (hb.alloc hb.size _) _⟩
            case measure => simp [intOf]; omega
    · have hkn : k = n := by omega
      subst hkn
      clear hlt
      rw [List.take_of_length_le (by omega)] at *
      rcases (show 8 < k ∨ (k ≤ 8 ∧ 4 < act L) ∨ (k ≤ 8 ∧ act L ≤ 4) from by omega) with h8 | ⟨h8, h4⟩ | ⟨h8, h4⟩
      all_goals
        go_wp2_with fail
        go_ret
        refine ⟨ret_bool ?_, hb⟩
      · rw [ok_no (L := L) (fun hh => by have := (okI_iff.1 hh).2.1; omega)]
      · rw [ok_no (L := L) (fun hh => by have := (okI_iff.1 hh).2.2; omega)]
        first | rfl | (simp; omega)
      · rw [okI_iff.2 ⟨fun i hi => HK.out i (by omega), by omega, h4⟩]
        first | rfl | (simp; omega)

end Go.Proofs.Ytobeeakjfkokfab
