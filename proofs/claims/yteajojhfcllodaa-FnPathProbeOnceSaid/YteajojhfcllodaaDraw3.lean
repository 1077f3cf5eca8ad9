/- Tokens, times and sizes are drawn: a number in a small range; the reader alone has turned. -/
import Derived.Test.YteajojhfcllodaaDraw2
namespace Go.Proofs.Yteajojhfcllodaa
open Go.RowKit
variable {B : Nat}

/-- A block that is not the reader's keeps its cells over a pick. -/
theorem far_cell {w w1 : World} {rb b j : Nat} {v : Value} (hg : w.grownBy w1 (some rb)) (h : w.cell? ⟨b, j, none⟩ = some v) (hne : b ≠ rb) : w1.cell? ⟨b, j, none⟩ = some v :=
  hg.cell h (by intro e; injection e with e; exact hne e)

set_option maxHeartbeats 1000000 in
theorem token_any (w : World) (rb n : Nat) (h : Rd w B rb n) (hn : n ≤ 1000000) :
    Calls Try.prog 32 #[.pointer (some ⟨rb, 0, none⟩)] w (Drawn w B rb n 2 (-1) 10000) := by
  have hlt := h.lt
  go_enter Try.func32, Try.ntmps32
  go_wp2_with fail
  refine (pick_any w rb n 14 h (by omega) (by omega) (by omega)).mono ?_
  rintro e w1 ⟨k, rfl, hk0, hk1, hr1, hg1⟩
  by_cases hk : k = 0
  · subst hk
    have hs := hg1.size
    go_wp2_with fail
    refine (pick_any _ rb (n + 1) 4 (hr1.alloc _) (by omega) (by omega) (by omega)).mono ?_
    rintro e w2 ⟨j, rfl, hj0, hj1, hr2, hg2⟩
    have c0 := far_cell hg2 (b := w1.heap.size) (j := 0) (World.cell?_alloc_new _ _ _ _) (by omega)
    have c1 := far_cell hg2 (b := w1.heap.size) (j := 1) (World.cell?_alloc_new _ _ _ _) (by omega)
    have c2 := far_cell hg2 (b := w1.heap.size) (j := 2) (World.cell?_alloc_new _ _ _ _) (by omega)
    have c3 := far_cell hg2 (b := w1.heap.size) (j := 3) (World.cell?_alloc_new _ _ _ _) (by omega)
    have hg := grown_trans (grown_alloc hg1 _) hg2
    rcases (show j = 0 ∨ j = 1 ∨ j = 2 ∨ j = 3 from by omega) with rfl | rfl | rfl | rfl
    all_goals
      go_wp2
      go_returns
      exact ⟨_, rfl, by omega, by omega, hr2, hg⟩
  · have hk' : (k == 0) = false := by simp; omega
    go_wp2_with fail
    refine (pick_any _ rb (n + 1) 3 hr1 (by omega) (by omega) (by omega)).mono ?_
    rintro e w2 ⟨j, rfl, hj0, hj1, hr2, hg2⟩
    have hg := grown_trans hg1 hg2
    go_wp2
    go_returns
    exact ⟨_, rfl, by omega, by omega, hr2, hg⟩

set_option maxHeartbeats 1000000 in
theorem time_any (w : World) (rb n : Nat) (h : Rd w B rb n) (hn : n ≤ 1000000) :
    Calls Try.prog 33 #[.pointer (some ⟨rb, 0, none⟩)] w (Drawn w B rb n 3 (-1) 1000) := by
  have hlt := h.lt
  go_enter Try.func33, Try.ntmps33
  go_wp2_with fail
  refine (pick_any w rb n 10 h (by omega) (by omega) (by omega)).mono ?_
  rintro e w1 ⟨k, rfl, hk0, hk1, hr1, hg1⟩
  by_cases hk : k = 0
  · subst hk
    have hs := hg1.size
    go_wp2_with fail
    refine (pick_any _ rb (n + 1) 5 (hr1.alloc _) (by omega) (by omega) (by omega)).mono ?_
    rintro e w2 ⟨j, rfl, hj0, hj1, hr2, hg2⟩
    have c0 := far_cell hg2 (b := w1.heap.size) (j := 0) (World.cell?_alloc_new _ _ _ _) (by omega)
    have c1 := far_cell hg2 (b := w1.heap.size) (j := 1) (World.cell?_alloc_new _ _ _ _) (by omega)
    have c2 := far_cell hg2 (b := w1.heap.size) (j := 2) (World.cell?_alloc_new _ _ _ _) (by omega)
    have c3 := far_cell hg2 (b := w1.heap.size) (j := 3) (World.cell?_alloc_new _ _ _ _) (by omega)
    have c4 := far_cell hg2 (b := w1.heap.size) (j := 4) (World.cell?_alloc_new _ _ _ _) (by omega)
    have hg := grown_trans (grown_alloc hg1 _) hg2
    rcases (show j = 0 ∨ j = 1 ∨ j = 2 ∨ j = 3 ∨ j = 4 from by omega) with rfl | rfl | rfl | rfl | rfl
    all_goals
      go_wp2
      go_returns
      exact ⟨_, rfl, by omega, by omega, hr2.mono (by omega), hg⟩
  · have hk' : (k == 0) = false := by simp; omega
    go_wp2_with fail
    refine (pick_any _ rb (n + 1) 100 hr1 (by omega) (by omega) (by omega)).mono ?_
    rintro e w2 ⟨j, rfl, hj0, hj1, hr2, hg2⟩
    go_wp2_with fail
    refine (pick_any _ rb (n + 1 + 1) 10 hr2 (by omega) (by omega) (by omega)).mono ?_
    rintro e w3 ⟨i, rfl, hi0, hi1, hr3, hg3⟩
    have hg := grown_trans (grown_trans hg1 hg2) hg3
    go_wp2
    go_returns
    exact ⟨_, rfl, by omega, by omega, hr3.mono (by omega), hg⟩

set_option maxHeartbeats 1000000 in
theorem size_any (w : World) (rb n : Nat) (h : Rd w B rb n) (hn : n ≤ 1000000) :
    Calls Try.prog 37 #[.pointer (some ⟨rb, 0, none⟩)] w (Drawn w B rb n 2 0 100) := by
  go_enter Try.func37, Try.ntmps37
  go_wp2_with fail
  refine (pick_any w rb n 14 h (by omega) (by omega) (by omega)).mono ?_
  rintro e w1 ⟨k, rfl, hk0, hk1, hr1, hg1⟩
  by_cases hk : k = 0
  · subst hk
    go_wp2_with fail
    refine (pick_any _ rb (n + 1) 2 hr1 (by omega) (by omega) (by omega)).mono ?_
    rintro e w2 ⟨j, rfl, hj0, hj1, hr2, hg2⟩
    have hg := grown_trans hg1 hg2
    go_wp2
    go_returns
    exact ⟨_, rfl, by omega, by omega, hr2, hg⟩
  · have hk' : (k == 0) = false := by simp; omega
    go_wp2_with fail
    refine (pick_any _ rb (n + 1) 99 hr1 (by omega) (by omega) (by omega)).mono ?_
    rintro e w2 ⟨j, rfl, hj0, hj1, hr2, hg2⟩
    have hg := grown_trans hg1 hg2
    go_wp2
    go_returns
    exact ⟨_, rfl, by omega, by omega, hr2, hg⟩

end Go.Proofs.Yteajojhfcllodaa
