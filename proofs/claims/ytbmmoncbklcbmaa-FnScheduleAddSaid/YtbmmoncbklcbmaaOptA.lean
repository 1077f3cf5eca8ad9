/- Lists of options: small functions, both OptionsValid, copies and comparisons for the exact laws. -/
import Derived.WalkKit
import Derived.Handy
import Derived.Test.YtbmmoncbklcbmaaOptMem
import Derived.StillTailTactics
import Derived.BigQuiet
namespace Go.Proofs.Ytbmmoncbklcbmaa
open Go.RowKit

theorem ret_bool {a b : Bool} (h : a = b) : Ending.returned (.bool a) = .returned (.bool b) := by rw [h]
theorem ret_int {a b : Int} (h : a = b) : Ending.returned (.int .i64 a) = .returned (.int .i64 b) := by rw [h]
theorem below_drewN' {w w' : World} {B : Nat} (h : Below B w w') (n : Nat) : Below B w (w'.drewN n) := ⟨h.os, h.tape, h.output, h.size, h.block⟩

theorem l6In_any (n lo hi : Int) (w : World) :
    Calls Try.prog 30 #[.int .i64 n, .int .i64 lo, .int .i64 hi] w fun e w' => e = .returned (.bool (decide (lo ≤ n ∧ n ≤ hi))) ∧ w = w' := by
  go_enter Try.func30, Try.ntmps30
  go_wp2
  all_goals
    go_returns
    exact ⟨ret_bool (by rw [Bool.eq_iff_iff]; simp_all <;> omega), rfl⟩
theorem within_any (n lo hi : Int) (w : World) :
    Calls Try.prog 32 #[.int .i64 n, .int .i64 lo, .int .i64 hi] w fun e w' => e = .returned (.bool (decide (lo ≤ n ∧ n ≤ hi))) ∧ w = w' := by
  go_enter Try.func32, Try.ntmps32
  go_wp2
  all_goals
    go_returns
    exact ⟨ret_bool (by rw [Bool.eq_iff_iff]; simp_all <;> omega), rfl⟩
theorem l6In_v {n lo hi : Int} {b : Bool} (h : decide (lo ≤ n ∧ n ≤ hi) = b) (w : World) :
    Calls Try.prog 30 #[.int .i64 n, .int .i64 lo, .int .i64 hi] w fun e w' => e = .returned (.bool b) ∧ w = w' :=
  (l6In_any n lo hi w).mono fun _ _ ⟨he, hw⟩ => ⟨by rw [he, h], hw⟩
theorem within_v {n lo hi : Int} {b : Bool} (h : decide (lo ≤ n ∧ n ≤ hi) = b) (w : World) :
    Calls Try.prog 32 #[.int .i64 n, .int .i64 lo, .int .i64 hi] w fun e w' => e = .returned (.bool b) ∧ w = w' :=
  (within_any n lo hi w).mono fun _ _ ⟨he, hw⟩ => ⟨by rw [he, h], hw⟩

theorem opt_true {o : Opt} (h0 : decide (1 ≤ o.t ∧ o.t ≤ 99) = true) (h1 : decide (1 ≤ o.w ∧ o.w ≤ 64) = true) (h2 : decide (0 ≤ o.f ∧ o.f ≤ 64) = true) : optB o = true := by
  rw [optB_iff]; simp at h0 h1 h2; exact ⟨h0, h1, h2⟩
theorem opt_false {o : Opt} (h : decide (1 ≤ o.t ∧ o.t ≤ 99) = false ∨ decide (1 ≤ o.w ∧ o.w ≤ 64) = false ∨ decide (0 ≤ o.f ∧ o.f ≤ 64) = false) : optB o = false := by
  cases hb : optB o with
  | false => rfl
  | true =>
    obtain ⟨h0, h1, h2⟩ := optB_iff.1 hb
    rcases h with h | h | h
    · rw [decide_eq_true h0] at h; cases h
    · rw [decide_eq_true h1] at h; cases h
    · rw [decide_eq_true h2] at h; cases h
theorem opt_next {L : List Opt} {m : Nat} (h : ∀ q, q < m → optB (onth L q) = true) (h1 : optB (onth L m) = true) (q : Nat) (hq : q < m + 1) : optB (onth L q) = true := by
  rcases (show q < m ∨ q = m from by omega) with e | e
  · exact h q e
  · rw [e]; exact h1
theorem okO_end {L : List Opt} {n : Nat} (hl : L.length = n) (h : ∀ q, q < n → optB (onth L q) = true) : decide ((n : Int) ≤ 4) = okO L := by
  rw [Bool.eq_iff_iff, okO_iff, decide_eq_true_iff, hl]
  exact ⟨fun e => ⟨h, by omega⟩, fun e => by have := e.2; omega⟩

set_option maxHeartbeats 2000000 in
theorem valid_impl (A : Option Addr) (n c : Nat) (L : List Opt) (w : World) (h : OptsAt w A n L) (hn : n ≤ 2000000) :
    Calls Try.prog 14 #[.slice A n c] w fun e w' => e = .returned (.bool (okO L)) ∧ Below w.heap.size w w' := by
  have hl := h.1
  go_enter Try.func14, Try.ntmps14
  go_wp2_with fail
  go_loopw [7] (fun i wr => ∃ k : Nat, i = .int .i64 (k : Nat) ∧ k ≤ n ∧ Hid (∀ j, j < k → optB (onth L j) = true) ∧ Below w.heap.size w wr) (fun i _ => n - (intOf i).toNat)
  case atStart => exact ⟨0, rfl, Nat.zero_le _, fun j hj => by omega, Below.refl _ _⟩
  case round =>
    obtain ⟨k, rfl, hk, HK, hb⟩ := hrel
    by_cases hlt : k < n
    · obtain ⟨g, off, rfl, hgl, hc⟩ := (h.below hb).2 (by omega)
      obtain ⟨c0, c1, c2, c3⟩ := hc k hlt
      obtain ⟨⟨a, t, ww, f⟩, hx⟩ : ∃ x, x = onth L k := ⟨_, rfl⟩
      rw [← hx] at c0 c1 c2 c3
      dsimp only at c0 c1 c2 c3
      have HX := hid_of hx
      clear hc hx
      obtain ⟨b0, h0⟩ : ∃ b, decide (1 ≤ t ∧ t ≤ 99) = b := ⟨_, rfl⟩
      obtain ⟨b1, h1⟩ : ∃ b, decide (1 ≤ ww ∧ ww ≤ 64) = b := ⟨_, rfl⟩
      obtain ⟨b2, h2⟩ : ∃ b, decide (0 ≤ f ∧ f ≤ 64) = b := ⟨_, rfl⟩
      have H0 := hid_of h0
      have H1 := hid_of h1
      have H2 := hid_of h2
      clear h0 h1 h2
      rcases b0 with _ | _
      · go_wp2_with (go_at_call 32; (with_reducible refine (within_v H0.out _).mono ?_); rintro e w2 ⟨rfl, rfl⟩)
        go_ret
        exact ⟨ret_bool (okO_false_at (i := k) (by omega) (opt_false (by rw [← HX.out]; exact .inl H0.out))).symm, hb.alloc hb.size _⟩
      rcases b1 with _ | _
      · go_wp2_with (go_at_call 32; first | ((with_reducible refine (within_v H0.out _).mono ?_); rintro e w2 ⟨rfl, rfl⟩) | ((with_reducible refine (within_v H1.out _).mono ?_); rintro e w2 ⟨rfl, rfl⟩))
        go_ret
        exact ⟨ret_bool (okO_false_at (i := k) (by omega) (opt_false (by rw [← HX.out]; exact .inr (.inl H1.out)))).symm, hb.alloc hb.size _⟩
      rcases b2 with _ | _
      · go_wp2_with (go_at_call 32; first | ((with_reducible refine (within_v H0.out _).mono ?_); rintro e w2 ⟨rfl, rfl⟩) | ((with_reducible refine (within_v H1.out _).mono ?_); rintro e w2 ⟨rfl, rfl⟩) | ((with_reducible refine (within_v H2.out _).mono ?_); rintro e w2 ⟨rfl, rfl⟩))
        go_ret
        exact ⟨ret_bool (okO_false_at (i := k) (by omega) (opt_false (by rw [← HX.out]; exact .inr (.inr H2.out)))).symm, hb.alloc hb.size _⟩
      go_wp2_with (go_at_call 32; first | ((with_reducible refine (within_v H0.out _).mono ?_); rintro e w2 ⟨rfl, rfl⟩) | ((with_reducible refine (within_v H1.out _).mono ?_); rintro e w2 ⟨rfl, rfl⟩) | ((with_reducible refine (within_v H2.out _).mono ?_); rintro e w2 ⟨rfl, rfl⟩))
      go_roundw
      case rel => exact ⟨k + 1, by go_num, by omega, fun q hq => opt_next HK.out (by rw [← HX.out]; exact opt_true H0.out H1.out H2.out) q hq, hb.alloc hb.size _⟩
      case measure => simp [intOf]; omega
    · have hkn : k = n := by omega
      subst hkn
      clear hlt
      go_wp2_with fail
      go_ret
      exact ⟨ret_bool (okO_end hl HK.out), hb⟩

set_option maxHeartbeats 2000000 in
theorem valid_spec (A : Option Addr) (n c : Nat) (L : List Opt) (w : World) (h : OptsAt w A n L) (hn : n ≤ 2000000) :
    Calls Try.prog 12 #[.slice A n c] w fun e w' => e = .returned (.bool (okO L)) ∧ Below w.heap.size w w' := by
  have hl := h.1
  go_enter Try.func12, Try.ntmps12
  go_wp2_with fail
  go_loopw [3] (fun i wr => ∃ k : Nat, i = .int .i64 (k : Nat) ∧ k ≤ n ∧ Hid (∀ j, j < k → optB (onth L j) = true) ∧ Below w.heap.size w wr) (fun i _ => n - (intOf i).toNat)
  case atStart => exact ⟨0, rfl, Nat.zero_le _, fun j hj => by omega, Below.refl _ _⟩
  case round =>
    obtain ⟨k, rfl, hk, HK, hb⟩ := hrel
    by_cases hlt : k < n
    · obtain ⟨g, off, rfl, hgl, hc⟩ := (h.below hb).2 (by omega)
      obtain ⟨c0, c1, c2, c3⟩ := hc k hlt
      obtain ⟨⟨a, t, ww, f⟩, hx⟩ : ∃ x, x = onth L k := ⟨_, rfl⟩
      rw [← hx] at c0 c1 c2 c3
      dsimp only at c0 c1 c2 c3
      have HX := hid_of hx
      clear hc hx
      obtain ⟨b0, h0⟩ : ∃ b, decide (1 ≤ t ∧ t ≤ 99) = b := ⟨_, rfl⟩
      obtain ⟨b1, h1⟩ : ∃ b, decide (1 ≤ ww ∧ ww ≤ 64) = b := ⟨_, rfl⟩
      obtain ⟨b2, h2⟩ : ∃ b, decide (0 ≤ f ∧ f ≤ 64) = b := ⟨_, rfl⟩
      have H0 := hid_of h0
      have H1 := hid_of h1
      have H2 := hid_of h2
      clear h0 h1 h2
      rcases b0 with _ | _
      · go_wp2_with (go_at_call 30; (with_reducible refine (l6In_v H0.out _).mono ?_); rintro e w2 ⟨rfl, rfl⟩)
        go_ret
        exact ⟨ret_bool (okO_false_at (i := k) (by omega) (opt_false (by rw [← HX.out]; exact .inl H0.out))).symm, hb.alloc hb.size _⟩
      rcases b1 with _ | _
      · go_wp2_with (go_at_call 30; first | ((with_reducible refine (l6In_v H0.out _).mono ?_); rintro e w2 ⟨rfl, rfl⟩) | ((with_reducible refine (l6In_v H1.out _).mono ?_); rintro e w2 ⟨rfl, rfl⟩))
        go_ret
        exact ⟨ret_bool (okO_false_at (i := k) (by omega) (opt_false (by rw [← HX.out]; exact .inr (.inl H1.out)))).symm, hb.alloc hb.size _⟩
      rcases b2 with _ | _
      · go_wp2_with (go_at_call 30; first | ((with_reducible refine (l6In_v H0.out _).mono ?_); rintro e w2 ⟨rfl, rfl⟩) | ((with_reducible refine (l6In_v H1.out _).mono ?_); rintro e w2 ⟨rfl, rfl⟩) | ((with_reducible refine (l6In_v H2.out _).mono ?_); rintro e w2 ⟨rfl, rfl⟩))
        go_ret
        exact ⟨ret_bool (okO_false_at (i := k) (by omega) (opt_false (by rw [← HX.out]; exact .inr (.inr H2.out)))).symm, hb.alloc hb.size _⟩
      go_wp2_with (go_at_call 30; first | ((with_reducible refine (l6In_v H0.out _).mono ?_); rintro e w2 ⟨rfl, rfl⟩) | ((with_reducible refine (l6In_v H1.out _).mono ?_); rintro e w2 ⟨rfl, rfl⟩) | ((with_reducible refine (l6In_v H2.out _).mono ?_); rintro e w2 ⟨rfl, rfl⟩))
      go_roundw
      case rel => exact ⟨k + 1, by go_num, by omega, fun q hq => opt_next HK.out (by rw [← HX.out]; exact opt_true H0.out H1.out H2.out) q hq, hb.alloc hb.size _⟩
      case measure => simp [intOf]; omega
    · have hkn : k = n := by omega
      subst hkn
      clear hlt
      go_wp2_with fail
      go_ret
      exact ⟨ret_bool (okO_end hl HK.out), hb⟩

theorem sz_any (A : Option Addr) (n c : Nat) (w : World) (hn : n ≤ 9223372036854775807) :
    Calls Try.prog 11 #[.slice A n c, .int .i64 1048576] w fun e w' => e = .returned (.int .i64 (if 1048576 < n then -1 else 1048576 - (n : Int))) ∧ w = w' := by
  go_enter Try.func11, Try.ntmps11
  go_wp2
  all_goals
    go_returns
    refine ⟨ret_int ?_, rfl⟩
    first | rfl | (split <;> simp_all <;> omega) | (simp_all <;> omega)

theorem toOption_any (a : Bool) (t v f : Int) (w : World) :
    Calls Try.prog 31 #[.agg #[.bool a, .int .i64 t, .int .i64 v, .int .i64 f]] w fun e w' => e = .returned (.agg #[.bool a, .int .i64 t, .int .i64 v, .int .i64 f]) ∧ Below w.heap.size w w' := by
  go_enter Try.func31, Try.ntmps31
  go_wp2
  go_returns
  exact ⟨rfl, by go_grown⟩

theorem eqOption_any (a : Bool) (t v f : Int) (w : World) :
    Calls Try.prog 33 #[.agg #[.bool a, .int .i64 t, .int .i64 v, .int .i64 f], .agg #[.bool a, .int .i64 t, .int .i64 v, .int .i64 f]] w fun e w' => e = .returned (.bool true) ∧ Below w.heap.size w w' := by
  go_enter Try.func33, Try.ntmps33
  go_wp2
  go_returns
  exact ⟨rfl, by go_grown⟩

/-- A new slice that reads L was handed back. -/
def GotOpts (w : World) (L : List Opt) (e : Ending) (w' : World) : Prop :=
  ∃ A n c, e = .returned (.slice A n c) ∧ OptsIn w' w.heap.size w'.heap.size A n c L ∧ Below w.heap.size w w'

set_option maxHeartbeats 1000000 in
theorem toS_any (A : Option Addr) (n c : Nat) (L : List Opt) (w : World) (h : OptsAt w A n L) (hn : n ≤ 1048576) :
    Calls Try.prog 13 #[.slice A n c] w (GotOpts w L) := by
  obtain ⟨i0, hi0, hz0, hz1, hz2⟩ := info_parts info_opt
  go_enter Try.func13, Try.ntmps13
  go_wp2_with ((at_make; refine wpList_make_full _ rfl _ _ 25 rfl w.heap.size 35 i0 (.agg #[.bool false, .int .i64 0, .int .i64 0, .int .i64 0]) 4 Try.underlying25 hi0 hz0 hz1 .i64 .i64 _ _ n rfl rfl rfl rfl (by rw [hz2]; omega) (by unfold maxLen; omega) (Nat.le_refl _) ?_; intro w0 hown0 hgrow0))
  have hr0 := RowIn.of_own' hown0
  have hb0 := below_of_none hgrow0
  have hl := h.1
  go_loopw [4] (fun i wr => ∃ k R, i = .int .i64 (k : Nat) ∧ k ≤ n ∧ R.length = (n - k) * 4 ∧ RowIn 35 4 wr w.heap.size w0.heap.size (some ⟨w.heap.size, 0, none⟩) n n (ocells (L.take k) ++ R) ∧ Below w.heap.size w wr ∧ w0.heap.size ≤ wr.heap.size)
    (fun i _ => n - (intOf i).toNat)
  case atStart =>
    exact ⟨0, _, rfl, Nat.zero_le _, by have := hr0.1; omega, by simpa [ocells] using hr0, hb0, Nat.le_refl _⟩
  case round =>
    obtain ⟨k, R, rfl, hk, hR, hrow, hb, hsz⟩ := hrel
    by_cases hlt : k < n
    · obtain ⟨b, off, rfl, hbl, hc⟩ := (h.below (w' := wr) hb).2 (by omega)
      obtain ⟨c0, c1, c2, c3⟩ := hc k hlt
      obtain ⟨v0, q0⟩ := hrow.some_ (j := k * 4) (by omega) (by omega)
      obtain ⟨v1, q1⟩ := hrow.some_ (j := k * 4 + 1) (by omega) (by omega)
      obtain ⟨v2, q2⟩ := hrow.some_ (j := k * 4 + 2) (by omega) (by omega)
      obtain ⟨v3, q3⟩ := hrow.some_ (j := k * 4 + 3) (by omega) (by omega)
      obtain ⟨g', e', _, _, hgl, _, hf⟩ := hrow.blk (by omega)
      cases e'
      clear hc
      go_wp2_with fail
      refine (toOption_any _ _ _ _ _).mono ?_
      rintro e w1 ⟨rfl, hb1⟩
      have q0' := (hb1.cell (p := ⟨w.heap.size, k * 4, none⟩) hgl).trans q0
      have q1' := (hb1.cell (p := ⟨w.heap.size, k * 4 + 1, none⟩) hgl).trans q1
      have q2' := (hb1.cell (p := ⟨w.heap.size, k * 4 + 2, none⟩) hgl).trans q2
      have q3' := (hb1.cell (p := ⟨w.heap.size, k * 4 + 3, none⟩) hgl).trans q3
      have f0' := (hb1.frozen (p := ⟨w.heap.size, k * 4, none⟩) hgl).trans (hf _)
      have f1' := (hb1.frozen (p := ⟨w.heap.size, k * 4 + 1, none⟩) hgl).trans (hf _)
      have f2' := (hb1.frozen (p := ⟨w.heap.size, k * 4 + 2, none⟩) hgl).trans (hf _)
      have f3' := (hb1.frozen (p := ⟨w.heap.size, k * 4 + 3, none⟩) hgl).trans (hf _)
      clear q0 q1 q2 q3 c0 c1 c2 c3 hf
      obtain ⟨R', hR', hrow'⟩ := (hrow.below hb1).fill4 (by rw [ocells_len, List.length_take]; omega) hR hlt (.bool (onth L k).a) (.int .i64 (onth L k).t) (.int .i64 (onth L k).w) (.int .i64 (onth L k).f)
      rw [ocells_take_succ (by omega)] at hrow'
      have hb' : Below w.heap.size w w1 := hb.trans (hb1.mono hb.size)
      go_wp2_with fail
      go_roundw
      case rel => exact ⟨k + 1, R', by go_num, by omega, hR', hrow', (((hb'.setCell (Nat.le_refl _) _).setCell (Nat.le_refl _) _).setCell (Nat.le_refl _) _).setCell (Nat.le_refl _) _, by have := hb1.size; simp; omega⟩
      case measure => simp [intOf]; omega
    · have hkn : k = n := by omega
      subst hkn
      clear hlt
      obtain rfl : R = [] := List.eq_nil_of_length_eq_zero (by simpa using hR)
      rw [List.take_of_length_le (by omega), List.append_nil] at hrow
      go_wp2_with fail
      go_ret
      exact ⟨_, _, _, rfl, ⟨hl, hrow.mono (Nat.le_refl _) hsz⟩, hb⟩

/-- Two equal slices are found equal. -/
theorem eqS_any (A A' : Option Addr) (n c c' : Nat) (L : List Opt) (w : World) (h : OptsAt w A n L) (h' : OptsAt w A' n L) (hn : n ≤ 2000000) :
    Calls Try.prog 15 #[.slice A n c, .slice A' n c'] w fun e w' => e = .returned (.bool true) ∧ Below w.heap.size w w' := by
  go_enter Try.func15, Try.ntmps15
  go_wp2_with fail
  go_loopw [5] (fun i wr => ∃ k, i = .int .i64 (k : Nat) ∧ k ≤ n ∧ Below w.heap.size w wr) (fun i _ => n - (intOf i).toNat)
  case atStart => exact ⟨0, rfl, Nat.zero_le _, Below.refl _ _⟩
  case round =>
    obtain ⟨k, rfl, hk, hb⟩ := hrel
    by_cases hlt : k < n
    · obtain ⟨g, off, rfl, _, hc⟩ := (h.below hb).2 (by omega)
      obtain ⟨g', off', rfl, _, hc'⟩ := (h'.below hb).2 (by omega)
      obtain ⟨c0, c1, c2, c3⟩ := hc k hlt
      obtain ⟨d0, d1, d2, d3⟩ := hc' k hlt
      clear hc hc'
      go_wp2_with fail
      go_still_tail 8, (by kernel_rfl)
      go_wp2_with fail
      refine (eqOption_any _ _ _ _ _).mono ?_
      rintro e w1 ⟨rfl, hb1⟩
      go_wp2_with fail
      go_roundw
      case rel => exact ⟨k + 1, by go_num, by omega, hb.drew.trans (hb1.mono hb.size)⟩
      case measure => simp [intOf]; omega
    · have hkn : k = n := by omega
      subst hkn
      clear hlt
      go_wp2_with fail
      go_ret
      exact ⟨rfl, hb⟩

end Go.Proofs.Ytbmmoncbklcbmaa
