/- Duplication of packets on paths, on both sides; a full path is not used any more. -/
import Derived.Test.YtbmmoncbklcbmaaOptDraw
import Derived.Deep.RegionHeld3
import Derived.Deep.RegionWith
namespace Go.Proofs.Ytbmmoncbklcbmaa
open Go.RowKit

theorem clip_some (g m c : Nat) (w : World) (hm : m ≤ c) :
    Calls Try.prog 39 #[.slice (some ⟨g, 0, none⟩) m c] w fun e w' => (e = .returned (.slice (some ⟨g, 0, none⟩) m m)) ∧ w = w' := by
  have i0 : (0 : Int) ≤ (m : Int) := Int.natCast_nonneg _
  have i1 : (m : Int) ≤ (c : Int) := by omega
  go_enter Try.func39, Try.ntmps39
  go_wp2_with fail
  all_goals
    go_ret
    exact ⟨rfl, rfl⟩
theorem clip_none (c : Nat) (w : World) :
    Calls Try.prog 39 #[.slice none 0 c] w fun e w' => (∃ c', e = .returned (.slice none 0 c')) ∧ w = w' := by
  go_enter Try.func39, Try.ntmps39
  go_wp2_with fail
  all_goals
    go_ret
    exact ⟨⟨_, rfl⟩, rfl⟩

set_option maxHeartbeats 2000000 in
theorem two_i (A : Option Addr) (n c : Nat) (L : List Opt) (w : World) (h : OptsAt w A n L) (hn : n ≤ 2000000) :
    Calls Try.prog 25 #[.slice A n c] w (GotTwo w L) := by
  go_enter Try.func25, Try.ntmps25
  go_wp2_with fail
  refine (order_i A n c L w h hn).mono ?_
  rintro e w1 ⟨A1, c1, out, rfl, ho, hA, hlc, hcm, hI, hb1⟩
  have HO := hid_of ho
  clear ho
  rcases hA with ⟨rfl, rfl⟩ | ⟨g, rfl⟩
  · go_wp2_with fail
    refine (clip_none _ _).mono ?_
    rintro e w2 ⟨⟨c', rfl⟩, rfl⟩
    go_wp2_with fail
    go_ret
    exact ⟨_, 0, c', [], HO.out, rfl, IntsAt.empty _ _, hb1⟩
  · obtain ⟨len, hlen⟩ : ∃ x, x = out.length := ⟨_, rfl⟩
    have hcm' := hcm
    unfold maxLen at hcm'
    rw [← hlen] at hI hlc ⊢
    have HI := hid_of hI
    have HL := hid_of hlen
    clear hI hlen
    rcases (show len ≤ 1 ∨ 2 ≤ len from by omega) with h1 | h2
    · have i0 : (0 : Int) ≤ (len : Int) := Int.natCast_nonneg _
      have i1 : (len : Int) ≤ (c1 : Int) := by omega
      have i2 : (len : Int) ≤ 2 := by omega
      have i3 : ¬ (2 : Int) ≤ (len : Int) := by omega
      have i4 : (len : Int) < 2 := by omega
      go_wp2_with fail
      all_goals
        refine (clip_some _ _ _ _ (by omega)).mono ?_
        rintro e w2 ⟨rfl, rfl⟩
        go_wp2_with fail
        go_ret
        refine ⟨_, len, _, out, HO.out, rfl, ?_, hb1⟩
        have := take_at HI.out (Nat.le_refl _)
        rw [List.take_of_length_le (by rw [← HL.out]; exact Nat.le_refl _)] at this
        rw [List.take_of_length_le (by rw [← HL.out]; omega)]
        exact this
    · have i1 : (2 : Int) ≤ (c1 : Int) := by omega
      have i2 : (2 : Int) ≤ (len : Int) := by omega
      have i3 : ¬ (len : Int) < 2 := by omega
      go_wp2_with fail
      all_goals
        refine (clip_some _ _ _ _ (by omega)).mono ?_
        rintro e w2 ⟨rfl, rfl⟩
        go_wp2_with fail
        go_ret
        first
          | exact ⟨_, 2, _, out, HO.out, rfl, take_at HI.out h2, hb1⟩
          | (obtain rfl : len = 2 := by omega
             exact ⟨_, 2, _, out, HO.out, rfl, take_at HI.out h2, hb1⟩)

set_option maxHeartbeats 2000000 in
theorem two_s (A : Option Addr) (n c : Nat) (L : List Opt) (w : World) (h : OptsAt w A n L) (hn : n ≤ 2000000) :
    Calls Try.prog 26 #[.slice A n c] w (GotTwo w L) := by
  go_enter Try.func26, Try.ntmps26
  go_wp2_with fail
  refine (order_s A n c L w h hn).mono ?_
  rintro e w1 ⟨A1, c1, out, rfl, ho, hA, hlc, hcm, hI, hb1⟩
  have HO := hid_of ho
  clear ho
  rcases hA with ⟨rfl, rfl⟩ | ⟨g, rfl⟩
  · go_wp2_with fail
    go_ret
    exact ⟨_, 0, _, [], HO.out, rfl, IntsAt.empty _ _, hb1⟩
  · obtain ⟨len, hlen⟩ : ∃ x, x = out.length := ⟨_, rfl⟩
    have hcm' := hcm
    unfold maxLen at hcm'
    rw [← hlen] at hI hlc ⊢
    have HI := hid_of hI
    have HL := hid_of hlen
    clear hI hlen
    rcases (show len ≤ 1 ∨ 2 ≤ len from by omega) with h1 | h2
    · have i0 : (0 : Int) ≤ (len : Int) := Int.natCast_nonneg _
      have i1 : (len : Int) ≤ (c1 : Int) := by omega
      have i2 : (len : Int) ≤ 2 := by omega
      have i3 : ¬ (2 : Int) ≤ (len : Int) := by omega
      have i4 : (len : Int) < 2 := by omega
      go_wp2_with fail
      all_goals
        go_ret
        refine ⟨_, len, _, out, HO.out, rfl, ?_, hb1⟩
        have := take_at HI.out (Nat.le_refl _)
        rw [List.take_of_length_le (by rw [← HL.out]; exact Nat.le_refl _)] at this
        rw [List.take_of_length_le (by rw [← HL.out]; omega)]
        exact this
    · have i1 : (2 : Int) ≤ (c1 : Int) := by omega
      have i2 : (2 : Int) ≤ (len : Int) := by omega
      have i3 : ¬ (len : Int) < 2 := by omega
      go_wp2_with fail
      all_goals
        go_ret
        first
          | exact ⟨_, 2, _, out, HO.out, rfl, take_at HI.out h2, hb1⟩
          | (obtain rfl : len = 2 := by omega
             exact ⟨_, 2, _, out, HO.out, rfl, take_at HI.out h2, hb1⟩)

theorem tail_at {w : World} {g n c i : Nat} {t : List Nat} (h : IntsAt w (some ⟨g, 0, none⟩) n (ints (i :: t))) (hc : n ≤ c) : IntsAt w (if c = 1 then some ⟨g, 0, none⟩ else some ⟨g, 1, none⟩) (n - 1) (ints t) := by
  have hl := h.1
  rw [ints_len] at hl
  simp at hl
  refine ⟨by rw [ints_len]; omega, fun hp => ?_⟩
  obtain ⟨b, off, e, hlt, hcell⟩ := h.2 (by omega)
  cases e
  rw [if_neg (by omega)]
  refine ⟨g, 1, rfl, hlt, fun j hj => ?_⟩
  have := hcell (j + 1) (by omega)
  rw [Nat.zero_add] at this
  rw [Nat.add_comm 1 j, this]
  rfl
theorem OptsAt.alloc {w : World} {A : Option Addr} {n : Nat} {L : List Opt} (h : OptsAt w A n L) (o : Obj) : OptsAt (w.alloc o) A n L := h.below ((Below.refl _ w).alloc (Nat.le_refl _) o)
theorem cell_drew {w : World} {p : Addr} {v : Value} (h : w.cell? p = some v) : w.drew.cell? p = some v := h
theorem OptsAt.drew {w : World} {A : Option Addr} {n : Nat} {L : List Opt} (h : OptsAt w A n L) : OptsAt w.drew A n L := h
theorem IntsAt.drew {w : World} {A : Option Addr} {n : Nat} {xs : List Int} (h : IntsAt w A n xs) : IntsAt w.drew A n xs := h
theorem same_of {A A' : Option Addr} {n n' c c' : Nat} {xs ys : List Int} {w : World} (h : IntsAt w A n xs) (h' : IntsAt w A' n' ys) (e : xs = ys) (hn : n ≤ 2000000) :
    Calls Try.prog 19 #[.slice A n c, .slice A' n' c'] w fun e w' => e = .returned (.bool true) ∧ Below w.heap.size w w' := by
  subst e
  obtain rfl : n = n' := h.1.symm.trans h'.1
  exact sameI_any A A' n c c' xs w h h' hn
theorem has_q {A : Option Addr} {n c q : Nat} {xs : List Nat} {w : World} {b : Bool} (h : IntsAt w A n (ints xs)) (hb : b = decide (q ∈ xs)) (hn : n ≤ 2000000) (m : Nat) :
    Calls Try.prog 23 #[.slice A n c, .int .i64 q] (w.drewN m) fun e w' => e = .returned (.bool b) ∧ w' = w.drewN m :=
  (has_any A n c xs q (w.drewN m) (h.below (below_drewN' (Below.refl _ _) m)) hn).mono fun _ _ hx => ⟨by rw [hx.1, hb], hx.2.symm⟩

/-- A full path is not used any more. -/
theorem full_tail {L : List Opt} {i : Nat} {t : List Nat} (h : Ordered L (i :: t)) : i < L.length ∧ Ordered (setF L i (onth L i).w) t := by
  rcases h with ⟨hok, ho⟩ | ⟨_, e⟩
  · have hi := (ho.2 i).1 List.mem_cons_self
    refine ⟨hi.1, .inl ⟨?_, ?_⟩⟩
    · rw [okO_iff] at hok ⊢
      rw [len_setF]
      refine ⟨fun j hj => ?_, hok.2⟩
      have hb := hok.1 j hj
      unfold setF
      rw [onth_set]
      split
      · rename_i e
        rw [e.1] at hb
        rw [optB_iff] at hb ⊢
        refine ⟨hb.1, hb.2.1, ?_⟩
        show 0 ≤ (onth L i).w ∧ (onth L i).w ≤ 64
        omega
      · exact hb
    · have hd : ∀ k, k ∈ t → k ≠ i := fun k hk e => by
        have := (List.pairwise_cons.1 ho.1).1 k hk
        rw [e] at this
        exact this.irrefl
      have e := order_filter (L := L) (M := setF L i (onth L i).w) (g := fun k => decide (k ≠ i)) ho len_setF (fun j => by
        unfold setF
        rw [onth_set]
        split
        · rename_i e
          rw [e.1]
        · rfl) (fun j hj => by
        unfold setF
        rw [onth_set]
        by_cases hji : j = i
        · rw [if_pos ⟨hji, hi.1⟩]
          unfold freeB
          simp [hji]
        · rw [if_neg (fun e => hji e.1)]
          simp [hji])
      rw [List.filter_cons, if_neg (by simp), List.filter_eq_self.2 (fun k hk => by simpa using hd k hk)] at e
      exact e
  · cases e

end Go.Proofs.Ytbmmoncbklcbmaa
