/- The reference's RangesValid. -/
import Derived.Test.YtmkmaeblnnfheabRngA
namespace Go.Proofs.Ytmkmaeblnnfheab
open Go.RowKit

set_option maxHeartbeats 16000000 in
theorem rv_spec (A : Option Addr) (n c : Nat) (L : List Rg) (w : World) (h : RngAt w A n L) (hn : n ≤ 2000000) :
    Calls Try.prog 56 #[.slice A n c] w fun e w' => e = .returned (.bool (rvB L)) ∧ Below w.heap.size w w' := by
  have hl := hid_of h.1
  go_enter Try.func56, Try.ntmps56
  go_wp2_with fail
  go_loopw [3] (fun i wr => ∃ k : Nat, i = .int .i64 (k : Nat) ∧ k ≤ n ∧ Hid (∀ j, j < k → chk L j) ∧ Below w.heap.size w wr) (fun i _ => n - (intOf i).toNat)
  case atStart => exact ⟨0, rfl, Nat.zero_le _, fun j hj => by omega, Below.refl _ _⟩
  case round =>
    obtain ⟨k, rfl, hk, HK, hb⟩ := hrel
    by_cases hlt : k < n
    · obtain ⟨g, off, rfl, hgl, hc⟩ := (h.below hb).2 (by omega)
      obtain ⟨c0, c1⟩ := hc k hlt
      have hch := chk_lst (L := L) (k := k) HK.out
      obtain ⟨⟨hb0, hb1⟩, hb2⟩ := lst_bd (L := L) (k := k) HK.out
      have hprev : 0 < k → wr.cell? ⟨g, off + (k - 1) * 2 + 1, none⟩ = some (.int .i64 (lst L k)) := fun h0 => by
        have e : lst L k = (rth L (k - 1)).hi := by unfold lst; rw [if_neg (by omega)]
        rw [e]
        exact (hc (k - 1) (by omega)).2
      have hz : k = 0 → lst L k = -2 := fun e => by unfold lst; rw [if_pos e]
      obtain ⟨last, hlast⟩ : ∃ x, x = lst L k := ⟨_, rfl⟩
      rw [← hlast] at hch hb0 hb1 hb2 hprev hz
      obtain ⟨⟨lo, hi⟩, hx⟩ : ∃ x, x = rth L k := ⟨_, rfl⟩
      rw [← hx] at c0 c1 hch
      dsimp only at c0 c1 hch
      have HC := hid_of hch
      clear hc hx hch hlast
      by_cases t1 : lo < 0
      · have d1 : decide (lo < 0) = true := decide_eq_true t1
        go_wp2_with fail
        go_quiet (fail)
        go_wp2_with fail
        go_ret
        exact ⟨ret_bool (rvB_bad (k := k) (by rw [hl.out]; exact hlt) (fun e => by have := HC.out.1 e; omega)).symm, below_drewN' hb _⟩
      have d1 : decide (lo < 0) = false := decide_eq_false t1
      by_cases t2 : hi < lo
      · have d2 : decide (hi < lo) = true := decide_eq_true t2
        go_wp2_with fail
        go_quiet (fail)
        go_wp2_with fail
        go_ret
        exact ⟨ret_bool (rvB_bad (k := k) (by rw [hl.out]; exact hlt) (fun e => by have := HC.out.1 e; omega)).symm, below_drewN' hb _⟩
      have d2 : decide (hi < lo) = false := decide_eq_false t2
      by_cases t3 : 999 < hi
      · have d3 : decide (999 < hi) = true := decide_eq_true t3
        go_wp2_with fail
        go_quiet (fail)
        go_wp2_with fail
        go_ret
        exact ⟨ret_bool (rvB_bad (k := k) (by rw [hl.out]; exact hlt) (fun e => by have := HC.out.1 e; omega)).symm, below_drewN' hb _⟩
      have d3 : decide (999 < hi) = false := decide_eq_false t3
      by_cases hk0 : k = 0
      · have d5 : decide (0 < k) = false := decide_eq_false (by omega)
        have hz' := hz hk0
        clear hk0
        have HZ := hid_of hz'
        clear hz hz' hprev
        go_wp2_with fail
        go_quiet (fail)
        go_wp2_with fail
        go_roundw
        case rel => exact ⟨k + 1, by go_num, by omega, fun q hq => chk_next HK.out (HC.out.2 ⟨by have := HZ.out; omega, by omega, by omega⟩) q hq, below_drewN' hb _⟩
        case measure => simp [intOf]; omega
      · obtain ⟨k, rfl⟩ : ∃ k', k = k' + 1 := ⟨k - 1, by omega⟩
        have p1 := hprev (by omega)
        clear hk0
        clear hz hprev
        rw [Nat.add_sub_cancel] at p1
        have d5 : decide ((0 : Int) < (k : Int) + 1) = true := decide_eq_true (by omega)
        by_cases t4 : lo < last + 2
        · have d4 : decide (lo < last + 2) = true := decide_eq_true t4
          go_wp2_with fail
          go_quiet (fail)
          go_wp2_with fail
          go_ret
          exact ⟨ret_bool (rvB_bad (k := k + 1) (by rw [hl.out]; exact hlt) (fun e => by have := HC.out.1 e; omega)).symm, below_drewN' hb _⟩
        · have d4 : decide (lo < last + 2) = false := decide_eq_false t4
          go_wp2_with fail
          go_quiet (fail)
          go_wp2_with fail
          go_roundw
          case rel => exact ⟨k + 1 + 1, by go_num, by omega, fun q hq => chk_next HK.out (HC.out.2 ⟨by omega, by omega, by omega⟩) q hq, below_drewN' hb _⟩
          case measure => simp [intOf]; omega
    · have hkn : k = n := by omega
      subst hkn
      clear hlt
      by_cases h16 : 16 < k
      · go_wp2_with fail
        go_ret
        exact ⟨ret_bool (by rw [rvB_long (by rw [hl.out]; exact h16)]; first | rfl | (simp; omega)), hb⟩
      · go_wp2_with fail
        go_ret
        exact ⟨ret_bool (by rw [rvB_true (L := L) (by rw [hl.out]; omega) (fun q hq => HK.out q (by rw [hl.out] at hq; exact hq))]; first | rfl | (simp; omega)), hb⟩

end Go.Proofs.Ytmkmaeblnnfheab
