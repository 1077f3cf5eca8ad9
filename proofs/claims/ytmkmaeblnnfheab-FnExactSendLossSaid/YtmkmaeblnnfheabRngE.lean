/- The reference's addition of numbers. -/
import Derived.Test.YtmkmaeblnnfheabRngC
namespace Go.Proofs.Ytmkmaeblnnfheab
open Go.RowKit

theorem ad_next {L : List Rg} {k : Nat} {s : Ad} (h : k < L.length) : (L.take (k + 1)).foldl adStep s = adStep ((L.take k).foldl adStep s) (rth L k) := by
  rw [List.take_succ_eq_append_getElem h, List.foldl_append, rth_eq h]
  rfl
theorem ad_a {O : List Rg} {lo hi : Int} {p : Bool} {r : Rg} (h : r.hi < lo - 1) : adStep ⟨O, lo, hi, p⟩ r = ⟨O ++ [r], lo, hi, p⟩ := by unfold adStep; dsimp only; rw [if_pos h]
theorem ad_b {O : List Rg} {lo hi : Int} {r : Rg} (h : ¬ r.hi < lo - 1) (h2 : hi + 1 < r.lo) : adStep ⟨O, lo, hi, true⟩ r = ⟨O ++ [r], lo, hi, true⟩ := by unfold adStep; dsimp only; rw [if_neg h, if_pos h2, if_pos rfl]
theorem ad_c {O : List Rg} {lo hi : Int} {r : Rg} (h : ¬ r.hi < lo - 1) (h2 : hi + 1 < r.lo) : adStep ⟨O, lo, hi, false⟩ r = ⟨O ++ [⟨lo, hi⟩] ++ [r], lo, hi, true⟩ := by unfold adStep; dsimp only; rw [if_neg h, if_pos h2, if_neg (by decide)]
theorem ad_d {O : List Rg} {lo hi : Int} {p : Bool} {r : Rg} (h : ¬ r.hi < lo - 1) (h2 : ¬ hi + 1 < r.lo) : adStep ⟨O, lo, hi, p⟩ r = ⟨O, min lo r.lo, max hi r.hi, p⟩ := by unfold adStep; dsimp only; rw [if_neg h, if_neg h2]

set_option maxHeartbeats 4000000 in
theorem l2Add_any (A : Option Addr) (n c : Nat) (L : List Rg) (w : World) (lo hi : Int) (h : RngAt w A n L) (hn : n ≤ 100000) (hlo : -1000000 ≤ lo ∧ lo ≤ 1000000) (hhi : -1000000 ≤ hi ∧ hi ≤ 1000000)
    (hbd : ∀ r, r ∈ L → (-1000000 ≤ r.lo ∧ r.lo ≤ 1000000) ∧ -1000000 ≤ r.hi ∧ r.hi ≤ 1000000) :
    Calls Try.prog 80 #[.slice A n c, .int .i64 lo, .int .i64 hi] w (GotRng w (specAdd L lo hi)) := by
  have hl := hid_of h.1
  have HBD := hid_of hbd
  obtain ⟨hlo0, hlo1⟩ := hlo
  obtain ⟨hhi0, hhi1⟩ := hhi
  clear hbd
  unfold specAdd
  obtain ⟨S0, hS0⟩ : ∃ s : Ad, s = ⟨[], lo, hi, false⟩ := ⟨_, rfl⟩
  rw [← hS0]
  have HS0 := hid_of hS0
  clear hS0
  go_enter Try.func80, Try.ntmps80
  go_wp2_with fail
  go_loopw [1, 2, 7, 8, 9] (fun x y s p i wr => ∃ (k : Nat) (A' : Option Addr) (c' m : Nat) (O : List Rg) (l' h' : Int) (b : Bool), x = .int .i64 l' ∧ y = .int .i64 h' ∧ p = .bool b ∧ i = .int .i64 (k : Nat) ∧ s = .slice A' m c' ∧ k ≤ n ∧ m ≤ 2 * k ∧ Hid ((L.take k).foldl adStep S0 = ⟨O, l', h', b⟩) ∧ (-1000000 ≤ l' ∧ l' ≤ 1000000) ∧ (-1000000 ≤ h' ∧ h' ≤ 1000000) ∧ RngIn wr w.heap.size wr.heap.size A' m c' O ∧ Below w.heap.size w wr) (fun _ _ _ _ i _ => n - (intOf i).toNat)
  case atStart => exact ⟨0, _, 0, 0, [], lo, hi, false, rfl, rfl, rfl, rfl, rfl, Nat.zero_le _, by omega, HS0.out, ⟨hlo0, hlo1⟩, ⟨hhi0, hhi1⟩, RngIn.empty _ _ _ _, ba (Below.refl _ _) _⟩
  case round =>
    obtain ⟨k, A', c', m, O, l', h', b, rfl, rfl, rfl, rfl, rfl, hk, hm, HF, ⟨hl0, hl1⟩, ⟨hh0, hh1⟩, hI, hb⟩ := hrel
    have hsr := hb.size
    by_cases hlt : k < n
    · obtain ⟨g, off, rfl, hgl, hc⟩ := (h.below hb).2 (by omega)
      obtain ⟨c0, c1⟩ := hc k hlt
      have hnx := ad_next (L := L) (k := k) (s := S0) (by rw [hl.out]; exact hlt)
      rw [HF.out] at hnx
      obtain ⟨⟨hr0, hr1⟩, hr2, hr3⟩ := HBD.out _ (rth_mem (L := L) (i := k) (by rw [hl.out]; exact hlt))
      obtain ⟨⟨rl, rh⟩, hx⟩ : ∃ x, x = rth L k := ⟨_, rfl⟩
      rw [← hx] at c0 c1 hnx hr0 hr1 hr2 hr3
      dsimp only at c0 c1 hr0 hr1 hr2 hr3
      have HNX := hid_of hnx
      clear hc hx hnx
      obtain ⟨mv, hmv⟩ : ∃ v, (if rl < l' then rl else l') = v := ⟨_, rfl⟩
      obtain ⟨xv, hxv⟩ : ∃ v, (if h' < rh then rh else h') = v := ⟨_, rfl⟩
      have HMV : Hid (min l' rl = mv) := by unfold Hid; rw [← hmv]; split <;> omega
      have HXV : Hid (max h' rh = xv) := by unfold Hid; rw [← hxv]; split <;> omega
      by_cases t1 : rh < l' - 1
      · rw [ad_a t1] at HNX
        go_wp2_with (at_builtin; refine wpList_snoc_rng _ rfl _ _ rfl ⟨rl, rh⟩ rfl (hI.alloc _) (by simp; omega) (by omega) (by simp) rfl (by simp) (by simp) ?_; intro A2 c2 w2 hI2 ht2; have hb2 : Below w.heap.size w w2 := below_touch hb (alloc_touch ht2) (Nat.le_refl _) hsr; clear ht2)
        go_roundw
        case rel => exact ⟨k + 1, A2, c2, m + 1, O ++ [⟨rl, rh⟩], l', h', b, rfl, rfl, rfl, by go_num, rfl, by omega, by omega, HNX, ⟨hl0, hl1⟩, ⟨hh0, hh1⟩, hI2, hb2⟩
        case measure => simp [intOf]; omega
      by_cases t2 : h' + 1 < rl
      · cases b with
        | true =>
          rw [ad_b t1 t2] at HNX
          go_wp2_with (at_builtin; refine wpList_snoc_rng _ rfl _ _ rfl ⟨rl, rh⟩ rfl (hI.alloc _) (by simp; omega) (by omega) (by simp) rfl (by simp) (by simp) ?_; intro A2 c2 w2 hI2 ht2; have hb2 : Below w.heap.size w w2 := below_touch hb (alloc_touch ht2) (Nat.le_refl _) hsr; clear ht2)
          go_roundw
          case rel => exact ⟨k + 1, A2, c2, m + 1, O ++ [⟨rl, rh⟩], l', h', true, rfl, rfl, rfl, by go_num, rfl, by omega, by omega, HNX, ⟨hl0, hl1⟩, ⟨hh0, hh1⟩, hI2, hb2⟩
          case measure => simp [intOf]; omega
        | false =>
          rw [ad_c t1 t2] at HNX
          have hgS : g < w.heap.size := by
            obtain ⟨_, _, e', hgw, _⟩ := h.2 (by omega)
            cases e'
            exact hgw
          go_wp2_with (first
            | (at_builtin; refine wpList_snoc_rng _ rfl _ _ rfl ⟨l', h'⟩ rfl (hI.alloc _) (by simp; omega) (by omega) (by simp) rfl (by simp) (by simp) ?_; intro A2 c2 w2 hI2 ht2; have hb2 : Below w.heap.size w w2 := below_touch hb (alloc_touch ht2) (Nat.le_refl _) hsr; have hs2 := hb2.size; have c0 := touch_cell (alloc_touch ht2) hgl (.inl hgS) c0; have c1 := touch_cell (alloc_touch ht2) hgl (.inl hgS) c1; have hgl := World.block_lt_of_cell? _ _ c0; clear ht2)
            | (at_builtin; refine wpList_snoc_rng _ rfl _ _ rfl ⟨rl, rh⟩ rfl (hI2.alloc _) (by simp; omega) (by omega) (by simp) rfl (by simp) (by simp) ?_; intro A3 c3 w3 hI3 ht3; have hb3 : Below w.heap.size w w3 := below_touch hb2 (alloc_touch ht3) (Nat.le_refl _) hs2; clear ht3))
          go_roundw
          case rel => exact ⟨k + 1, A3, c3, m + 1 + 1, O ++ [⟨l', h'⟩] ++ [⟨rl, rh⟩], l', h', true, rfl, rfl, rfl, by go_num, rfl, by omega, by omega, HNX, ⟨hl0, hl1⟩, ⟨hh0, hh1⟩, hI3, hb3⟩
          case measure => simp [intOf]; omega
      · rw [ad_d t1 t2] at HNX
        dsimp only at HNX
        rw [HMV.out, HXV.out] at HNX
        have hmb : -1000000 ≤ mv ∧ mv ≤ 1000000 := by have := HMV.out; omega
        have hxb : -1000000 ≤ xv ∧ xv ≤ 1000000 := by have := HXV.out; omega
        go_wp2_with fail
        go_roundw
        case rel => exact ⟨k + 1, A', c', m, O, mv, xv, b, rfl, rfl, rfl, by go_num, rfl, by omega, by omega, HNX.out, hmb, hxb, hI, hb⟩
        case measure => simp [intOf]; omega
    · have hkn : k = n := by omega
      subst hkn
      clear hlt
      rw [List.take_of_length_le (by rw [hl.out]; exact Nat.le_refl _)] at HF
      have hm2 := hid_of hI.1
      cases b with
      | true =>
        have e : Hid (adEnd (L.foldl adStep S0) = O) := by unfold Hid; rw [HF.out]; rfl
        go_wp2_with fail
        go_ret
        unfold GotRng
        rw [e.out, hm2.out]
        exact ⟨A', c', rfl, hI, hb⟩
      | false =>
        have e : Hid (adEnd (L.foldl adStep S0) = O ++ [⟨l', h'⟩]) := by unfold Hid; rw [HF.out]; rfl
        go_wp2_with (at_builtin; refine wpList_snoc_rng _ rfl _ _ rfl ⟨l', h'⟩ rfl (hI.alloc _) (by simp; omega) (by omega) (by simp) rfl (by simp) (by simp) ?_; intro A2 c2 w2 hI2 ht2; have hb2 : Below w.heap.size w w2 := below_touch hb (alloc_touch ht2) (Nat.le_refl _) hsr; clear ht2)
        go_ret
        unfold GotRng
        rw [e.out, List.length_append, hm2.out]
        exact ⟨A2, c2, rfl, hI2, hb2⟩

end Go.Proofs.Ytmkmaeblnnfheab
