/- Numbers are removed from a set and added to it, on both sides. -/
import Derived.Test.YtmkmaeblnnfheabRngB
import Derived.Deep.RegionLaw
import Derived.Deep.AppendLies
import Derived.Deep.RegionHeld3
namespace Go.Proofs.Ytmkmaeblnnfheab
open Go.RowKit

theorem remove_next {L : List Rg} {k : Nat} {lo hi : Int} (h : k < L.length) : remove (L.take (k + 1)) lo hi = remove (L.take k) lo hi ++ cut1 (rth L k) lo hi := by
  unfold remove
  rw [List.take_succ_eq_append_getElem h, List.flatMap_append, List.flatMap_singleton, rth_eq h]
theorem cut_nn {r : Rg} {lo hi : Int} (h1 : ¬ r.lo < lo) (h2 : ¬ hi < r.hi) : cut1 r lo hi = [] := by unfold cut1; rw [if_neg h1, if_neg h2]; rfl
theorem cut_yn {r : Rg} {lo hi : Int} (h1 : r.lo < lo) (h2 : ¬ hi < r.hi) : cut1 r lo hi = [⟨r.lo, min r.hi (lo - 1)⟩] := by unfold cut1; rw [if_pos h1, if_neg h2]; rfl
theorem cut_ny {r : Rg} {lo hi : Int} (h1 : ¬ r.lo < lo) (h2 : hi < r.hi) : cut1 r lo hi = [⟨max r.lo (hi + 1), r.hi⟩] := by unfold cut1; rw [if_neg h1, if_pos h2]; rfl
theorem cut_yy {r : Rg} {lo hi : Int} (h1 : r.lo < lo) (h2 : hi < r.hi) : cut1 r lo hi = [⟨r.lo, min r.hi (lo - 1)⟩] ++ [⟨max r.lo (hi + 1), r.hi⟩] := by unfold cut1; rw [if_pos h1, if_pos h2]
theorem remove_len (L : List Rg) (k : Nat) (lo hi : Int) : (remove (L.take k) lo hi).length ≤ 2 * k := by
  induction k with
  | zero => simp [remove]
  | succ k ih =>
    rcases Nat.lt_or_ge k L.length with h | h
    · rw [remove_next h, List.length_append]
      have : (cut1 (rth L k) lo hi).length ≤ 2 := by unfold cut1; split <;> split <;> simp
      omega
    · rw [List.take_of_length_le (by omega)]
      rw [List.take_of_length_le (by omega)] at ih
      omega
theorem alloc_touch {w w' : World} {o : Obj} {B S : Nat} (ht : Touch (w.alloc o) w' B S) : Touch w w' B S :=
  ⟨ht.os, ht.tape, ht.output, by have := ht.size; simp at this; omega, fun k hk hb => (ht.block k (by simp; omega) hb).trans (heap_alloc_old w o hk)⟩
/-- A cell ahead of the zone that was touched, or behind it. -/
theorem touch_cell {w w' : World} {B S b j : Nat} (ht : Touch w w' B S) (hb : b < w.heap.size) (h : b < B ∨ S ≤ b) {v : Value} (hc : w.cell? ⟨b, j, none⟩ = some v) : w'.cell? ⟨b, j, none⟩ = some v :=
  (World.cell?_of_block (w := w) (a := ⟨b, j, none⟩) (ht.block b hb h)).trans hc

set_option maxHeartbeats 4000000 in
theorem removed_any (A : Option Addr) (n c : Nat) (L : List Rg) (w : World) (lo hi : Int) (h : RngAt w A n L) (hn : n ≤ 100000) (hlo : -1000000 ≤ lo ∧ lo ≤ 1000000) (hhi : -1000000 ≤ hi ∧ hi ≤ 1000000) :
    Calls Try.prog 51 #[.slice A n c, .int .i64 lo, .int .i64 hi] w (GotRng w (remove L lo hi)) := by
  have hl := hid_of h.1
  obtain ⟨hlo0, hlo1⟩ := hlo
  obtain ⟨hhi0, hhi1⟩ := hhi
  go_enter Try.func51, Try.ntmps51
  go_wp2_with fail
  go_loopw [7, 12] (fun s i wr => ∃ (k : Nat) (A' : Option Addr) (c' m : Nat), i = .int .i64 (k : Nat) ∧ s = .slice A' m c' ∧ k ≤ n ∧ m ≤ 2 * k ∧ RngIn wr w.heap.size wr.heap.size A' m c' (remove (L.take k) lo hi) ∧ Below w.heap.size w wr) (fun _ i _ => n - (intOf i).toNat)
  case atStart => exact ⟨0, none, 0, 0, rfl, rfl, Nat.zero_le _, by omega, RngIn.empty _ _ _ _, Below.refl _ _⟩
  case round =>
    obtain ⟨k, A', c', m, rfl, rfl, hk, hm, hI, hb⟩ := hrel
    have hsr := hb.size
    by_cases hlt : k < n
    · obtain ⟨g, off, rfl, hgl, hc⟩ := (h.below hb).2 (by omega)
      obtain ⟨c0, c1⟩ := hc k hlt
      have hnx := remove_next (L := L) (k := k) (lo := lo) (hi := hi) (by rw [hl.out]; exact hlt)
      obtain ⟨⟨rl, rh⟩, hx⟩ : ∃ x, x = rth L k := ⟨_, rfl⟩
      rw [← hx] at c0 c1 hnx
      dsimp only at c0 c1
      have HNX := hid_of hnx
      clear hc hx hnx
      obtain ⟨mv, hmv⟩ : ∃ v, (if lo - 1 < rh then lo - 1 else rh) = v := ⟨_, rfl⟩
      obtain ⟨xv, hxv⟩ : ∃ v, (if rl < hi + 1 then hi + 1 else rl) = v := ⟨_, rfl⟩
      have HMV : Hid (min rh (lo - 1) = mv) := by unfold Hid; rw [← hmv]; split <;> omega
      have HXV : Hid (max rl (hi + 1) = xv) := by unfold Hid; rw [← hxv]; split <;> omega
      by_cases t1 : rl < lo
      · by_cases t2 : hi < rh
        · rw [cut_yy t1 t2, ← List.append_assoc] at HNX
          dsimp only at HNX
          rw [HMV.out, HXV.out] at HNX
          go_wp2_with (first
            | (at_builtin; refine wpList_snoc_rng _ rfl _ _ rfl ⟨rl, mv⟩ rfl ((hI.alloc _).alloc _) (by simp; omega) (by omega) (by simp) rfl (by simp) (by simp) ?_; intro A2 c2 w2 hI2 ht2; have hs2 := ht2.size; simp at hs2; have r0 := touch_cell ht2 (b := wr.heap.size) (j := 0) (by simp; omega) (.inr (Nat.le_refl _)) (v := .int .i64 rl) (by simp); have r1 := touch_cell ht2 (b := wr.heap.size) (j := 1) (by simp; omega) (.inr (Nat.le_refl _)) (v := .int .i64 rh) (by simp); have hb2 : Below w.heap.size w w2 := below_touch hb (alloc_touch (alloc_touch ht2)) (Nat.le_refl _) hsr; clear ht2)
            | (at_builtin; refine wpList_snoc_rng _ rfl _ _ rfl ⟨xv, rh⟩ rfl (hI2.alloc _) (by simp; omega) (by omega) (by simp) rfl (by simp) (by simp) ?_; intro A3 c3 w3 hI3 ht3))
          go_roundw
          case rel => exact ⟨k + 1, A3, c3, m + 1 + 1, by go_num, rfl, by omega, by omega, by rw [HNX.out]; exact hI3, below_touch hb2 (alloc_touch ht3) (Nat.le_refl _) (by omega)⟩
          case measure => simp [intOf]; omega
        · rw [cut_yn t1 t2] at HNX
          dsimp only at HNX
          rw [HMV.out] at HNX
          go_wp2_with (at_builtin; refine wpList_snoc_rng _ rfl _ _ rfl ⟨rl, mv⟩ rfl ((hI.alloc _).alloc _) (by simp; omega) (by omega) (by simp) rfl (by simp) (by simp) ?_; intro A2 c2 w2 hI2 ht2; have hs2 := ht2.size; simp at hs2; have r0 := touch_cell ht2 (b := wr.heap.size) (j := 0) (by simp; omega) (.inr (Nat.le_refl _)) (v := .int .i64 rl) (by simp); have r1 := touch_cell ht2 (b := wr.heap.size) (j := 1) (by simp; omega) (.inr (Nat.le_refl _)) (v := .int .i64 rh) (by simp); have hb2 : Below w.heap.size w w2 := below_touch hb (alloc_touch (alloc_touch ht2)) (Nat.le_refl _) hsr; clear ht2)
          go_roundw
          case rel => exact ⟨k + 1, A2, c2, m + 1, by go_num, rfl, by omega, by omega, by rw [HNX.out]; exact hI2, hb2⟩
          case measure => simp [intOf]; omega
      · by_cases t2 : hi < rh
        · rw [cut_ny t1 t2] at HNX
          dsimp only at HNX
          rw [HXV.out] at HNX
          go_wp2_with (at_builtin; refine wpList_snoc_rng _ rfl _ _ rfl ⟨xv, rh⟩ rfl ((hI.alloc _).alloc _) (by simp; omega) (by omega) (by simp) rfl (by simp) (by simp) ?_; intro A2 c2 w2 hI2 ht2; have hb2 : Below w.heap.size w w2 := below_touch hb (alloc_touch (alloc_touch ht2)) (Nat.le_refl _) hsr; clear ht2)
          go_roundw
          case rel => exact ⟨k + 1, A2, c2, m + 1, by go_num, rfl, by omega, by omega, by rw [HNX.out]; exact hI2, hb2⟩
          case measure => simp [intOf]; omega
        · rw [cut_nn t1 t2, List.append_nil] at HNX
          go_wp2_with fail
          go_roundw
          case rel => exact ⟨k + 1, A', c', m, by go_num, rfl, by omega, by omega, by rw [HNX.out]; exact (hI.alloc _).mono (Nat.le_refl _) (by simp), ba hb _⟩
          case measure => simp [intOf]; omega
    · have hkn : k = n := by omega
      subst hkn
      clear hlt
      rw [List.take_of_length_le (by rw [hl.out]; exact Nat.le_refl _)] at hI
      have hm2 := hI.1
      go_wp2_with fail
      go_ret
      exact ⟨A', c', by rw [hm2]; rfl, by rw [hm2]; exact hI, hb⟩

end Go.Proofs.Ytmkmaeblnnfheab
