/- Small functions on numbers and on lists of ranges: both RangesValid, membership, searches, copies, counts, comparisons. -/
import Derived.Test.YtmkmaeblnnfheabRngMem
import Derived.Test.YtmkmaeblnnfheabSendLaws2
import Derived.Handy
import Derived.StillTailTactics
import Derived.BigQuiet
import Derived.Shelf.Abstract
import Derived.Lib.SliceRun
namespace Go.Proofs.Ytmkmaeblnnfheab
open Go.RowKit

theorem ret_bool {a b : Bool} (h : a = b) : Ending.returned (.bool a) = .returned (.bool b) := by rw [h]
theorem ret_int {a b : Int} (h : a = b) : Ending.returned (.int .i64 a) = .returned (.int .i64 b) := by rw [h]
theorem below_drewN' {w w' : World} {B : Nat} (h : Below B w w') (n : Nat) : Below B w (w'.drewN n) := ⟨h.os, h.tape, h.output, h.size, h.block⟩
theorem ba {w w' : World} {B : Nat} (h : Below B w w') (o : Obj) (hB : B ≤ w.heap.size := by first | exact Nat.le_refl _ | (have := Below.size ‹_›; omega)) : Below B w (w'.alloc o) := h.alloc (Nat.le_trans hB h.size) o

theorem l6In_any (n lo hi : Int) (w : World) :
    Calls Try.prog 53 #[.int .i64 n, .int .i64 lo, .int .i64 hi] w fun e w' => e = .returned (.bool (decide (lo ≤ n ∧ n ≤ hi))) ∧ w = w' := by
  go_enter Try.func53, Try.ntmps53
  go_wp2
  all_goals
    go_returns
    exact ⟨ret_bool (by rw [Bool.eq_iff_iff]; simp_all <;> omega), rfl⟩
theorem within_any (n lo hi : Int) (w : World) :
    Calls Try.prog 48 #[.int .i64 n, .int .i64 lo, .int .i64 hi] w fun e w' => e = .returned (.bool (decide (lo ≤ n ∧ n ≤ hi))) ∧ w = w' := by
  go_enter Try.func48, Try.ntmps48
  go_wp2
  all_goals
    go_returns
    exact ⟨ret_bool (by rw [Bool.eq_iff_iff]; simp_all <;> omega), rfl⟩
theorem l6In_v {n lo hi : Int} {b : Bool} (h : decide (lo ≤ n ∧ n ≤ hi) = b) (w : World) :
    Calls Try.prog 53 #[.int .i64 n, .int .i64 lo, .int .i64 hi] w fun e w' => e = .returned (.bool b) ∧ w = w' :=
  (l6In_any n lo hi w).mono fun _ _ ⟨he, hw⟩ => ⟨by rw [he, h], hw⟩
theorem within_v {n lo hi : Int} {b : Bool} (h : decide (lo ≤ n ∧ n ≤ hi) = b) (w : World) :
    Calls Try.prog 48 #[.int .i64 n, .int .i64 lo, .int .i64 hi] w fun e w' => e = .returned (.bool b) ∧ w = w' :=
  (within_any n lo hi w).mono fun _ _ ⟨he, hw⟩ => ⟨by rw [he, h], hw⟩

/-- The end of the range ahead of k. -/
def lst (L : List Rg) (k : Nat) : Int := if k = 0 then -2 else (rth L (k - 1)).hi
theorem lst_succ (L : List Rg) (k : Nat) : lst L (k + 1) = (rth L k).hi := by unfold lst; rw [if_neg (by omega)]; rfl
theorem lst_bd {L : List Rg} {k : Nat} (h : ∀ j, j < k → chk L j) : (-2 ≤ lst L k ∧ lst L k ≤ 999) ∧ (0 < k → 0 ≤ lst L k) := by
  unfold lst
  by_cases hk : k = 0
  · rw [if_pos hk]; omega
  · rw [if_neg hk]
    obtain ⟨h1, _, h2, h3⟩ := h (k - 1) (by omega)
    omega
theorem chk_lst {L : List Rg} {k : Nat} (h : ∀ j, j < k → chk L j) : chk L k ↔ lst L k + 2 ≤ (rth L k).lo ∧ (rth L k).lo ≤ (rth L k).hi ∧ (rth L k).hi ≤ 999 := by
  have hb := lst_bd h
  unfold chk
  by_cases hk : k = 0
  · have : lst L k = -2 := by unfold lst; rw [if_pos hk]
    rw [this]
    constructor
    · rintro ⟨h1, _, h2, h3⟩; omega
    · rintro ⟨h1, h2, h3⟩; exact ⟨by omega, fun e => by omega, h2, h3⟩
  · have : lst L k = (rth L (k - 1)).hi := by unfold lst; rw [if_neg hk]
    rw [← this]
    constructor
    · rintro ⟨h1, h0, h2, h3⟩; exact ⟨h0 (by omega), h2, h3⟩
    · rintro ⟨h1, h2, h3⟩; exact ⟨by have := hb.2 (by omega); omega, fun _ => h1, h2, h3⟩

set_option maxHeartbeats 2000000 in
theorem rv_impl (A : Option Addr) (n c : Nat) (L : List Rg) (w : World) (h : RngAt w A n L) (hn : n ≤ 2000000) :
    Calls Try.prog 67 #[.slice A n c] w fun e w' => e = .returned (.bool (rvB L)) ∧ Below w.heap.size w w' := by
  have hl := hid_of h.1
  by_cases h16 : 16 < n
  · go_enter Try.func67, Try.ntmps67
    go_wp2_with fail
    go_ret
    exact ⟨ret_bool (rvB_long (by rw [hl.out]; exact h16)).symm, Below.refl _ _⟩
  go_enter Try.func67, Try.ntmps67
  go_wp2_with fail
  go_loopw [3, 11] (fun l i wr => ∃ k : Nat, l = .int .i64 (lst L k) ∧ i = .int .i64 (k : Nat) ∧ k ≤ n ∧ Hid (∀ j, j < k → chk L j) ∧ Below w.heap.size w wr) (fun _ i _ => n - (intOf i).toNat)
  case atStart => exact ⟨0, rfl, rfl, Nat.zero_le _, fun j hj => by omega, Below.refl _ _⟩
  case round =>
    obtain ⟨k, rfl, rfl, hk, HK, hb⟩ := hrel
    by_cases hlt : k < n
    · obtain ⟨g, off, rfl, hgl, hc⟩ := (h.below hb).2 (by omega)
      obtain ⟨c0, c1⟩ := hc k hlt
      have hch := chk_lst (L := L) (k := k) HK.out
      obtain ⟨⟨hb0, hb1⟩, _⟩ := lst_bd (L := L) (k := k) HK.out
      have hs := lst_succ L k
      obtain ⟨last, hlast⟩ : ∃ x, x = lst L k := ⟨_, rfl⟩
      rw [← hlast] at hch hb0 hb1 ⊢
      obtain ⟨⟨lo, hi⟩, hx⟩ : ∃ x, x = rth L k := ⟨_, rfl⟩
      rw [← hx] at c0 c1 hch hs
      dsimp only at c0 c1 hch hs
      have HC := hid_of hch
      have HS := hid_of hs
      clear hc hx hch hlast hs
      by_cases t1 : lo < last + 2
      · go_wp2_with fail
        go_ret
        exact ⟨ret_bool (rvB_bad (k := k) (by rw [hl.out]; exact hlt) (fun e => by have := HC.out.1 e; omega)).symm, hb.alloc hb.size _⟩
      by_cases t2 : hi < lo
      · go_wp2_with fail
        go_ret
        exact ⟨ret_bool (rvB_bad (k := k) (by rw [hl.out]; exact hlt) (fun e => by have := HC.out.1 e; omega)).symm, hb.alloc hb.size _⟩
      by_cases t3 : 999 < hi
      · go_wp2_with fail
        go_ret
        exact ⟨ret_bool (rvB_bad (k := k) (by rw [hl.out]; exact hlt) (fun e => by have := HC.out.1 e; omega)).symm, hb.alloc hb.size _⟩
      go_wp2_with fail
      go_roundw
      case rel => exact ⟨k + 1, by rw [HS.out], by go_num, by omega, fun q hq => chk_next HK.out (HC.out.2 ⟨by omega, by omega, by omega⟩) q hq, hb.alloc hb.size _⟩
      case measure => simp [intOf]; omega
    · have hkn : k = n := by omega
      subst hkn
      clear hlt
      go_wp2_with fail
      go_ret
      exact ⟨ret_bool (rvB_true (by rw [hl.out]; omega) (fun q hq => HK.out q (by rw [hl.out] at hq; exact hq))).symm, hb⟩

theorem mem_none {L : List Rg} {x : Int} (h : ∀ q, q < L.length → inB (rth L q) x = false) : memB L x = false := by
  cases hm : memB L x with
  | false => rfl
  | true =>
    obtain ⟨r, hr, h1⟩ := memB_iff.1 hm
    obtain ⟨i, hi, rfl⟩ := mem_rth hr
    have := h i hi
    rw [inB_iff.2 h1] at this
    cases this
theorem mem_some {L : List Rg} {x : Int} {k : Nat} (hk : k < L.length) (h : inB (rth L k) x = true) : memB L x = true := memB_iff.2 ⟨_, rth_mem hk, inB_iff.1 h⟩

set_option maxHeartbeats 1000000 in
theorem l2Has_any (A : Option Addr) (n c : Nat) (L : List Rg) (w : World) (x : Int) (h : RngAt w A n L) (hn : n ≤ 2000000) :
    Calls Try.prog 57 #[.slice A n c, .int .i64 x] w fun e w' => e = .returned (.bool (memB L x)) ∧ Below w.heap.size w w' := by
  have hl := hid_of h.1
  go_enter Try.func57, Try.ntmps57
  go_wp2_with fail
  go_loopw [5] (fun i wr => ∃ k : Nat, i = .int .i64 (k : Nat) ∧ k ≤ n ∧ Hid (∀ j, j < k → inB (rth L j) x = false) ∧ Below w.heap.size w wr) (fun i _ => n - (intOf i).toNat)
  case atStart => exact ⟨0, rfl, Nat.zero_le _, fun j hj => by omega, Below.refl _ _⟩
  case round =>
    obtain ⟨k, rfl, hk, HK, hb⟩ := hrel
    by_cases hlt : k < n
    · obtain ⟨g, off, rfl, hgl, hc⟩ := (h.below hb).2 (by omega)
      obtain ⟨c0, c1⟩ := hc k hlt
      have hin : inB (rth L k) x = decide ((rth L k).lo ≤ x ∧ x ≤ (rth L k).hi) := rfl
      obtain ⟨b, hbb⟩ : ∃ b, decide ((rth L k).lo ≤ x ∧ x ≤ (rth L k).hi) = b := ⟨_, rfl⟩
      rw [hbb] at hin
      have HB := hid_of hbb
      have HI := hid_of hin
      clear hbb hin hc
      generalize (rth L k).lo = lo at c0 HB
      generalize (rth L k).hi = hi at c1 HB
      cases b with
      | true =>
        go_wp2_with fail
        go_quiet ((go_at_call 53; exact Calls.quiet_of_same ((l6In_v HB.out _).mono fun _ _ ⟨h1, h2⟩ => ⟨h1, h2.symm⟩)))
        go_wp2_with fail
        go_ret
        exact ⟨ret_bool (mem_some (k := k) (by rw [hl.out]; exact hlt) HI.out).symm, below_drewN' hb _⟩
      | false =>
        go_wp2_with fail
        go_quiet ((go_at_call 53; exact Calls.quiet_of_same ((l6In_v HB.out _).mono fun _ _ ⟨h1, h2⟩ => ⟨h1, h2.symm⟩)))
        go_wp2_with fail
        go_roundw
        case rel => exact ⟨k + 1, by go_num, by omega, fun q hq => by
          rcases (show q < k ∨ q = k from by omega) with e | e
          · exact HK.out q e
          · rw [e]; exact HI.out, below_drewN' hb _⟩
        case measure => simp [intOf]; omega
    · have hkn : k = n := by omega
      subst hkn
      clear hlt
      go_wp2_with fail
      go_ret
      exact ⟨ret_bool (mem_none (fun q hq => HK.out q (by rw [hl.out] at hq; exact hq))).symm, hb⟩

end Go.Proofs.Ytmkmaeblnnfheab
