/- The program's check of a list of identifiers. -/
import Derived.Test.YtobeeakjfkokfabIdsD
namespace Go.Proofs.Ytobeeakjfkokfab
open Go.RowKit

theorem within_v {n lo hi : Int} {b : Bool} (h : decide (lo ≤ n ∧ n ≤ hi) = b) (w : World) :
    Calls Try.prog 31 #[.int .i64 n, .int .i64 lo, .int .i64 hi] w fun e w' => e = .returned (.bool b) ∧ w = w' :=
  (within_any n lo hi w).mono fun _ _ ⟨he, hw⟩ => ⟨by rw [he, h], hw⟩
theorem on_v {v p q : Int} {r b : Bool} (h : onB ⟨v, p, r⟩ q = b) (w : World) :
    Calls Try.prog 37 #[.agg #[.int .i64 v, .int .i64 p, .bool r], .int .i64 q] w fun e w' => e = .returned (.bool b) ∧ ∃ o, w' = w.alloc o :=
  (on_any v p r q w).mono fun _ _ ⟨he, hw⟩ => ⟨by rw [he, h], hw⟩

theorem ba {W wx : World} (h : Below W.heap.size W wx) (o : Obj) : Below W.heap.size W (wx.alloc o) := h.alloc h.size o

theorem clash_cases2 (v p : Int) (r : Bool) (v' p' : Int) (r' : Bool) :
    (v' = v ∧ Hid (clashB ⟨v, p, r⟩ ⟨v', p', r'⟩ = true)) ∨ ((v' == v) = false ∧ decide (0 ≤ p) = false ∧ Hid (clashB ⟨v, p, r⟩ ⟨v', p', r'⟩ = false)) ∨
    ((v' == v) = false ∧ 0 ≤ p ∧ r = true ∧ Hid (onB ⟨v, p, true⟩ p = false) ∧ Hid (clashB ⟨v, p, true⟩ ⟨v', p', r'⟩ = false)) ∨
    ((v' == v) = false ∧ 0 ≤ p ∧ r = false ∧ Hid (onB ⟨v, p, false⟩ p = true) ∧ Hid (onB ⟨v', p', r'⟩ p = false) ∧ Hid (clashB ⟨v, p, false⟩ ⟨v', p', r'⟩ = false)) ∨
    ((v' == v) = false ∧ 0 ≤ p ∧ r = false ∧ Hid (onB ⟨v, p, false⟩ p = true) ∧ Hid (onB ⟨v', p', r'⟩ p = true) ∧ Hid (clashB ⟨v, p, false⟩ ⟨v', p', r'⟩ = true)) := by
  by_cases hv : v' = v
  · exact .inl ⟨hv, by unfold Hid clashB; simp [hv]⟩
  · have hv' : (v' == v) = false := by simpa using hv
    refine .inr ?_
    by_cases hp : 0 ≤ p
    · refine .inr ?_
      cases r with
      | true => exact .inl ⟨hv', hp, rfl, by unfold Hid onB; simp, by unfold Hid clashB; simp [hv]⟩
      | false =>
        refine .inr ?_
        cases ho : onB ⟨v', p', r'⟩ p with
        | false => exact .inl ⟨hv', hp, rfl, by unfold Hid onB; simp, rfl, by unfold onB at ho; unfold Hid clashB; cases r' <;> simp_all⟩
        | true => exact .inr ⟨hv', hp, rfl, by unfold Hid onB; simp, rfl, by unfold onB at ho; unfold Hid clashB; cases r' <;> simp_all⟩
    · exact .inl ⟨hv', by simpa using hp, by unfold Hid clashB; simp [hv, hp]⟩

set_option maxHeartbeats 4000000 in
theorem valid_impl {B S : Nat} (A : Option Addr) (n c : Nat) (L : List Cid) (w : World) (h : IdsIn w B S A n c L) (hn : n ≤ 2000000) :
    Calls Try.prog 15 #[.slice A n c] w fun e w' => e = .returned (.bool (okI L)) ∧ Below w.heap.size w w' := by
  have hl := h.1
  obtain ⟨hcap, hcm⟩ := h.cap
  unfold maxLen at hcm
  go_enter Try.func15, Try.ntmps15
  go_wp2_with fail
  go_loopw [3, 10] (fun a i wr => ∃ k : Nat, i = .int .i64 (k : Nat) ∧ a = .int .i64 (act (L.take k) : Nat) ∧ k ≤ n ∧ Hid (∀ j, j < k → okAt L j = true) ∧ Below w.heap.size w wr) (fun _ i _ => n - (intOf i).toNat)
  case atStart => exact ⟨0, rfl, rfl, Nat.zero_le _, fun j hj => by omega, Below.refl _ _⟩
  case round =>
    obtain ⟨k, rfl, rfl, hk, HK, hb⟩ := hrel
    have hact := act_le (L.take k)
    rw [List.length_take] at hact
    by_cases hlt : k < n
    · obtain ⟨g, rfl, _, _, hgl, _, hc⟩ := (h.below hb).at_ (by omega)
      obtain ⟨c0, c1, c2⟩ := hc k hlt
      obtain ⟨⟨v, p, r⟩, hx⟩ : ∃ x, x = nth L k := ⟨_, rfl⟩
      rw [← hx] at c0 c1 c2
      dsimp only at c0 c1 c2
      have HC := hid_of hc
      have HX := hid_of hx
      clear hc hx
      obtain ⟨b0, h0⟩ : ∃ b, decide (0 ≤ v ∧ v ≤ 9999) = b := ⟨_, rfl⟩
      obtain ⟨b1, h1⟩ : ∃ b, decide (-1 ≤ p ∧ p ≤ 3) = b := ⟨_, rfl⟩
      have H0 := hid_of h0
      have H1 := hid_of h1
      clear h0 h1
      rcases b0 with _ | _
      · go_wp2_with (go_at_call 31; (with_reducible refine (within_v H0.out _).mono ?_); rintro e w2 ⟨rfl, rfl⟩)
        go_ret
        exact ⟨ret_bool (okI_false_at (i := k) (by omega) (okAt_range (by rw [← HX.out]; exact range_false0 H0.out))).symm, hb.alloc hb.size _⟩
      rcases b1 with _ | _
      · go_wp2_with (go_at_call 31; first | ((with_reducible refine (within_v H0.out _).mono ?_); rintro e w2 ⟨rfl, rfl⟩) | ((with_reducible refine (within_v H1.out _).mono ?_); rintro e w2 ⟨rfl, rfl⟩))
        go_ret
        exact ⟨ret_bool (okI_false_at (i := k) (by omega) (okAt_range (by rw [← HX.out]; exact range_false1 H1.out))).symm, hb.alloc hb.size _⟩
      go_wp2_with (go_at_call 31; first | ((with_reducible refine (within_v H0.out _).mono ?_); rintro e w2 ⟨rfl, rfl⟩) | ((with_reducible refine (within_v H1.out _).mono ?_); rintro e w2 ⟨rfl, rfl⟩))
      generalize hW : World.alloc _ _ = W
      have hs0 : wr.heap.size < W.heap.size := by subst hW; simp
      have hbW : Below wr.heap.size wr W := by subst hW; exact (Below.refl _ _).alloc (Nat.le_refl _) _
      have p0 : W.cell? ⟨wr.heap.size, 0, none⟩ = some (.int .i64 v) := by subst hW; exact cell_of_row _ _ 0 _ _ _ (heap_alloc_new _ _)
      have p1 : W.cell? ⟨wr.heap.size, 1, none⟩ = some (.int .i64 p) := by subst hW; exact cell_of_row _ _ 1 _ _ _ (heap_alloc_new _ _)
      have p2 : W.cell? ⟨wr.heap.size, 2, none⟩ = some (.bool r) := by subst hW; exact cell_of_row _ _ 2 _ _ _ (heap_alloc_new _ _)
      clear hW
      obtain ⟨wo, rfl⟩ : ∃ wo : World, wo = wr := ⟨_, rfl⟩
      go_loopw [29] (fun i wx => ∃ m : Nat, i = .int .i64 (m : Nat) ∧ m ≤ k ∧ Hid (∀ q, q < m → clashB ⟨v, p, r⟩ (nth L q) = false) ∧ Below W.heap.size W wx) (fun i _ => k - (intOf i).toNat)
      case atStart => exact ⟨0, rfl, Nat.zero_le _, fun q hq => by omega, Below.refl _ _⟩
      case round =>
        obtain ⟨m, rfl, hm, HM, hbx⟩ := hrel
        have hsx := hbx.size
        have P0 := (hbx.cell (p := ⟨wo.heap.size, 0, none⟩) hs0).trans p0
        have P1 := (hbx.cell (p := ⟨wo.heap.size, 1, none⟩) hs0).trans p1
        have P2 := (hbx.cell (p := ⟨wo.heap.size, 2, none⟩) hs0).trans p2
        have hlx : wo.heap.size < wr.heap.size := by omega
        have hbwx : Below w.heap.size w wr := (hb.trans (hbW.mono hb.size)).trans (hbx.mono (by have := hb.size; omega))
        by_cases hmk : m < k
        · obtain ⟨d0, d1, d2⟩ := HC.out m (by omega)
          have D0 := (hbx.cell (p := ⟨g, m * 3, none⟩) (by show g < _; omega)).trans ((hbW.cell (p := ⟨g, m * 3, none⟩) hgl).trans d0)
          have D1 := (hbx.cell (p := ⟨g, m * 3 + 1, none⟩) (by show g < _; omega)).trans ((hbW.cell (p := ⟨g, m * 3 + 1, none⟩) hgl).trans d1)
          have D2 := (hbx.cell (p := ⟨g, m * 3 + 2, none⟩) (by show g < _; omega)).trans ((hbW.cell (p := ⟨g, m * 3 + 2, none⟩) hgl).trans d2)
          clear d0 d1 d2 p0 p1 p2 c0 c1 c2
          obtain ⟨⟨v', p', r'⟩, hy⟩ : ∃ y, y = nth L m := ⟨_, rfl⟩
          rw [← hy] at D0 D1 D2
          dsimp only at D0 D1 D2
          have HY := hid_of hy
          clear hy
          rcases clash_cases2 v p r v' p' r' with ⟨e1, HH⟩ | ⟨e1, e2, HH⟩ | ⟨e1, e2, e3, O1, HH⟩ | ⟨e1, e2, e3, O1, O2, HH⟩ | ⟨e1, e2, e3, O1, O2, HH⟩
          · subst e1
            go_wp2_with fail
            go_ret
            exact ⟨ret_bool (okI_false_at (i := k) (by omega) (okAt_clash hmk (by rw [← HX.out, ← HY.out]; exact HH.out))).symm, ba hbwx _⟩
          · go_wp2_with fail
            go_roundw
            case rel => exact ⟨m + 1, by go_num, by omega, fun q hq => clash_next HM.out (by rw [← HY.out]; exact HH.out) q hq, ba hbx _⟩
            case measure => simp [intOf]; omega
          · subst e3
            go_wp2_with (go_at_call 37; first | ((with_reducible refine (on_v O1.out _).mono ?_); rintro e w2 ⟨rfl, o1, rfl⟩))
            go_roundw
            case rel => exact ⟨m + 1, by go_num, by omega, fun q hq => clash_next HM.out (by rw [← HY.out]; exact HH.out) q hq, ba (ba hbx _) _⟩
            case measure => simp [intOf]; omega
          · subst e3
            go_wp2_with (go_at_call 37; first | ((with_reducible refine (on_v O1.out _).mono ?_); rintro e w2 ⟨rfl, o1, rfl⟩) | ((with_reducible refine (on_v O2.out _).mono ?_); rintro e w2 ⟨rfl, o2, rfl⟩))
            go_roundw
            case rel => exact ⟨m + 1, by go_num, by omega, fun q hq => clash_next HM.out (by rw [← HY.out]; exact HH.out) q hq, ba (ba (ba hbx _) _) _⟩
            case measure => simp [intOf]; omega
          · subst e3
            go_wp2_with (go_at_call 37; first | ((with_reducible refine (on_v O1.out _).mono ?_); rintro e w2 ⟨rfl, o1, rfl⟩) | ((with_reducible refine (on_v O2.out _).mono ?_); rintro e w2 ⟨rfl, o2, rfl⟩))
            go_ret
            exact ⟨ret_bool (okI_false_at (i := k) (by omega) (okAt_clash hmk (by rw [← HX.out, ← HY.out]; exact HH.out))).symm, ba (ba (ba hbwx _) _) _⟩
        · have hmk' : m = k := by omega
          subst hmk'
          clear hmk
          have hok : okAt L m = true := okAt_iff.2 ⟨by rw [← HX.out]; exact range_true H0.out H1.out, by rw [← HX.out]; exact HM.out⟩
          have hts := act_take_succ (L := L) (k := m) (by omega)
          rw [← HX.out] at hts
          dsimp only at hts
          have HO := hid_of hok
          clear hok
          cases r
          · have HT : Hid (act (L.take (m + 1)) = act (L.take m) + 1) := hts
            clear hts
            go_wp2_with fail
            go_roundw
            case rel => exact ⟨m + 1, by go_num, by rw [HT.out]; go_num, by omega, fun q hq => ok_next HK.out HO.out q hq, hbwx⟩
            case measure => simp [intOf]; omega
          · have HT : Hid (act (L.take (m + 1)) = act (L.take m)) := hts
            clear hts
            go_wp2_with fail
            go_roundw
            case rel => exact ⟨m + 1, by go_num, by rw [HT.out], by omega, fun q hq => ok_next HK.out HO.out q hq, hbwx⟩
            case measure => simp [intOf]; omega
    · have hkn : k = n := by omega
      subst hkn
      clear hlt
      rw [List.take_of_length_le (by omega)] at *
      rcases (show 8 < k ∨ (k ≤ 8 ∧ 4 < act L) ∨ (k ≤ 8 ∧ act L ≤ 4) from by omega) with h8 | ⟨h8, h4⟩ | ⟨h8, h4⟩
      all_goals
        go_wp2_with fail
        go_ret
        refine ⟨ret_bool ?_, hb⟩
      · rw [ok_no (L := L) (fun hh => by have := (okI_iff.1 hh).2.1; omega)]
      · rw [ok_no (L := L) (fun hh => by have := (okI_iff.1 hh).2.2; omega)]
        first | rfl | (simp; omega)
      · rw [okI_iff.2 ⟨fun i hi => HK.out i (by omega), by omega, h4⟩]
        first | rfl | (simp; omega)

end Go.Proofs.Ytobeeakjfkokfab
