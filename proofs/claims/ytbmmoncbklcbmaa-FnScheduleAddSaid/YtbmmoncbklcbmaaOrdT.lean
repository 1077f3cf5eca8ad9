/- Order, pick and duplication of paths on both sides; numbers compared. -/
import Derived.Test.YtbmmoncbklcbmaaOrdW
namespace Go.Proofs.Ytbmmoncbklcbmaa
open Go.RowKit

set_option maxHeartbeats 2000000 in
theorem order_s (A : Option Addr) (n c : Nat) (L : List Opt) (w : World) (h : OptsAt w A n L) (hn : n ≤ 2000000) :
    Calls Try.prog 18 #[.slice A n c] w (GotOrder w L) := by
  go_enter Try.func18, Try.ntmps18
  go_wp2_with fail
  refine (valid_spec A n c L w h hn).mono ?_
  rintro e w1 ⟨rfl, hb1⟩
  cases hok : okO L with
  | false =>
    have HK := hid_of hok
    clear hok
    go_wp2_with fail
    go_ret
    exact ⟨_, 0, [], rfl, .inr ⟨HK.out, rfl⟩, .inr ⟨_, rfl⟩, Nat.le_refl _, by unfold maxLen; omega, IntsAt.empty _ _, hb1.alloc hb1.size _⟩
  | true =>
    have hl := h.1
    have hn4 : n ≤ 4 := by have := (okO_iff.1 hok).2; omega
    have hbt : ∀ i, i < n → 0 ≤ (onth L i).t ∧ (onth L i).t ≤ 100000 := fun i hi => by
      have := (optB_iff.1 ((okO_iff.1 hok).1 i (by omega))).1
      omega
    have hcon := l43_any A n c L w1 (h.below hb1) (by omega) hbt
    have HK := hid_of hok
    clear hok hbt
    go_wp2_with fail
    refine hcon.mono ?_
    rintro e w2 ⟨g, c1, out, rfl, ho, hI, hb2⟩
    have HO := hid_of ho
    clear ho hcon
    go_wp2_with fail
    go_ret
    exact ⟨_, c1, out, rfl, .inl ⟨HK.out, HO.out⟩, .inr ⟨_, rfl⟩, hI.in_.cap.1, hI.in_.cap.2, hI.in_.reads, hb1.trans (hb2.mono hb1.size)⟩

def pickOf : List Nat → Int
  | [] => -1
  | i :: _ => i
def GotPick (w : World) (L : List Opt) (e : Ending) (w' : World) : Prop :=
  ∃ out, Ordered L out ∧ e = .returned (.int .i64 (pickOf out)) ∧ Below w.heap.size w w'

theorem pick_i (A : Option Addr) (n c : Nat) (L : List Opt) (w : World) (h : OptsAt w A n L) (hn : n ≤ 2000000) :
    Calls Try.prog 21 #[.slice A n c] w (GotPick w L) := by
  go_enter Try.func21, Try.ntmps21
  go_wp2_with fail
  refine (order_i A n c L w h hn).mono ?_
  rintro e w1 ⟨A1, c1, out, rfl, ho, _, _, _, hI, hb1⟩
  have HO := hid_of ho
  clear ho
  cases out with
  | nil =>
    go_wp2_with fail
    go_ret
    exact ⟨[], HO.out, rfl, hb1⟩
  | cons i t =>
    obtain ⟨b, off, rfl, _, hc⟩ := hI.2 (by simp)
    have c0 := hc 0 (by simp)
    have e0 : inth (ints (i :: t)) 0 = i := rfl
    rw [e0, Nat.add_zero] at c0
    have hlp : 0 < (i :: t).length := by simp
    obtain ⟨len, hlen⟩ : ∃ len, len = (i :: t).length := ⟨_, rfl⟩
    rw [← hlen] at hlp ⊢
    have hne : ((len : Int) == 0) = false := by rw [beq_eq_false_iff_ne]; omega
    have hpos : (0 : Int) < (len : Int) := by omega
    clear hc hlen
    go_wp2_with fail
    go_ret
    exact ⟨i :: t, HO.out, rfl, hb1⟩

theorem pick_s (A : Option Addr) (n c : Nat) (L : List Opt) (w : World) (h : OptsAt w A n L) (hn : n ≤ 2000000) :
    Calls Try.prog 22 #[.slice A n c] w (GotPick w L) := by
  go_enter Try.func22, Try.ntmps22
  go_wp2_with fail
  refine (order_s A n c L w h hn).mono ?_
  rintro e w1 ⟨A1, c1, out, rfl, ho, _, _, _, hI, hb1⟩
  have HO := hid_of ho
  clear ho
  cases out with
  | nil =>
    go_wp2_with fail
    go_ret
    exact ⟨[], HO.out, rfl, hb1⟩
  | cons i t =>
    obtain ⟨b, off, rfl, _, hc⟩ := hI.2 (by simp)
    have c0 := hc 0 (by simp)
    have e0 : inth (ints (i :: t)) 0 = i := rfl
    rw [e0, Nat.add_zero] at c0
    have hlp : 0 < (i :: t).length := by simp
    obtain ⟨len, hlen⟩ : ∃ len, len = (i :: t).length := ⟨_, rfl⟩
    rw [← hlen] at hlp ⊢
    have hne : ((len : Int) == 0) = false := by rw [beq_eq_false_iff_ne]; omega
    have hpos : (0 : Int) < (len : Int) := by omega
    clear hc hlen
    go_wp2_with fail
    go_ret
    exact ⟨i :: t, HO.out, rfl, hb1⟩

/-- A slice that reads the numbers was handed back. -/
def GotTwo (w : World) (L : List Opt) (e : Ending) (w' : World) : Prop :=
  ∃ A n c out, Ordered L out ∧ e = .returned (.slice A n c) ∧ IntsAt w' A n (ints (out.take 2)) ∧ Below w.heap.size w w'

theorem take_at {w : World} {A : Option Addr} {n m : Nat} {out : List Nat} (h : IntsAt w A n (ints out)) (hm : m ≤ n) : IntsAt w A m (ints (out.take m)) :=
  ⟨by rw [ints_len, List.length_take]; have := h.1; rw [ints_len] at this; omega, fun hp => by
    obtain ⟨b, off, e, hlt, hc⟩ := h.2 (by omega)
    refine ⟨b, off, e, hlt, fun i hi => ?_⟩
    rw [hc i (by omega), inth_ints, inth_ints, List.getD_eq_getElem?_getD, List.getD_eq_getElem?_getD, List.getElem?_take, if_pos hi]⟩

/-- Equal numbers are found equal. -/
theorem sameI_any (A A' : Option Addr) (n c c' : Nat) (xs : List Int) (w : World) (h : IntsAt w A n xs) (h' : IntsAt w A' n xs) (hn : n ≤ 2000000) :
    Calls Try.prog 19 #[.slice A n c, .slice A' n c'] w fun e w' => e = .returned (.bool true) ∧ Below w.heap.size w w' := by
  go_enter Try.func19, Try.ntmps19
  go_wp2_with fail
  go_loopw [5] (fun i wr => ∃ k, i = .int .i64 (k : Nat) ∧ k ≤ n ∧ Below w.heap.size w wr) (fun i _ => n - (intOf i).toNat)
  case atStart => exact ⟨0, rfl, Nat.zero_le _, Below.refl _ _⟩
  case round =>
    obtain ⟨k, rfl, hk, hb⟩ := hrel
    by_cases hlt : k < n
    · obtain ⟨g, off, rfl, _, hc⟩ := (h.below hb).2 (by omega)
      obtain ⟨g', off', rfl, _, hc'⟩ := (h'.below hb).2 (by omega)
      have c0 := hc k hlt
      have d0 := hc' k hlt
      clear hc hc'
      go_wp2_with fail
      go_quiet (fail)
      go_wp2_with fail
      go_roundw
      case rel => exact ⟨k + 1, by go_num, by omega, below_drewN' hb _⟩
      case measure => simp [intOf]; omega
    · have hkn : k = n := by omega
      subst hkn
      clear hlt
      go_wp2_with fail
      go_ret
      exact ⟨rfl, hb⟩

theorem has_any (A : Option Addr) (n c : Nat) (xs : List Nat) (q : Nat) (w : World) (h : IntsAt w A n (ints xs)) (hn : n ≤ 2000000) :
    Calls Try.prog 23 #[.slice A n c, .int .i64 q] w fun e w' => e = .returned (.bool (decide (q ∈ xs))) ∧ w = w' := by
  have hl : xs.length = n := by have := h.1; rw [ints_len] at this; exact this
  go_enter Try.func23, Try.ntmps23
  go_wp2_with fail
  go_loop [5] (fun i => ∃ k : Nat, i = .int .i64 (k : Nat) ∧ k ≤ n ∧ Hid (∀ j, j < k → inth (ints xs) j ≠ q)) (fun i => n - (intOf i).toNat)
  case atStart => exact ⟨0, rfl, Nat.zero_le _, fun j hj => by omega⟩
  case round =>
    obtain ⟨k, rfl, hk, HN⟩ := hrel
    by_cases hlt : k < n
    · obtain ⟨g, off, rfl, _, hc⟩ := h.2 (by omega)
      have c0 := hc k hlt
      obtain ⟨y, hy⟩ : ∃ y, y = inth (ints xs) k := ⟨_, rfl⟩
      rw [← hy] at c0
      have HY := hid_of hy
      clear hc hy
      by_cases hyq : y = q
      · subst hyq
        have hm : q ∈ xs := by
          have e := HY.out
          rw [inth_ints, List.getD_eq_getElem?_getD, List.getElem?_eq_getElem (by omega)] at e
          have e2 : q = xs[k]'(by omega) := by exact_mod_cast e
          rw [e2]
          exact List.getElem_mem _
        have HM := hid_of hm
        clear hm
        go_wp2_with fail
        go_ret
        exact ⟨ret_bool (decide_eq_true HM.out).symm, rfl⟩
      · have hyq' : (y == (q : Int)) = false := by rw [beq_eq_false_iff_ne]; exact hyq
        have HQ := hid_of hyq
        clear hyq
        go_wp2_with fail
        go_round
        case rel => exact ⟨k + 1, by go_num, by omega, fun j hj => by
          rcases (show j < k ∨ j = k from by omega) with e | e
          · exact HN.out j e
          · rw [e, ← HY.out]; exact HQ.out⟩
        case measure => simp [intOf]; omega
    · have hkn : k = n := by omega
      subst hkn
      clear hlt
      have hm : ¬ q ∈ xs := fun hm => by
        obtain ⟨j, hj, e⟩ := List.mem_iff_getElem.1 hm
        refine HN.out j (by omega) ?_
        rw [inth_ints, List.getD_eq_getElem?_getD, List.getElem?_eq_getElem hj, e]
        rfl
      have HM := hid_of hm
      clear hm
      go_wp2_with fail
      go_ret
      exact ⟨ret_bool (decide_eq_false HM.out).symm, rfl⟩

end Go.Proofs.Ytbmmoncbklcbmaa
