/- The program's added. -/
import Derived.Test.YtmkmaeblnnfheabRngE
namespace Go.Proofs.Ytmkmaeblnnfheab
open Go.RowKit
attribute [local irreducible] Go.wpQuiet

theorem add_step {L : List Rg} {k : Nat} {lo hi : Int} (h : k < L.length) (hc : (rth L k).hi + 1 < lo) : add (L.drop k) lo hi = [rth L k] ++ add (L.drop (k + 1)) lo hi := by
  rw [List.drop_eq_getElem_cons h, ← rth_eq h]
  show (if (rth L k).hi + 1 < lo then rth L k :: add (L.drop (k + 1)) lo hi else addMerge (rth L k :: L.drop (k + 1)) lo hi) = _
  rw [if_pos hc]
  rfl
theorem add_stop {L : List Rg} {k : Nat} {lo hi : Int} (h : L.length ≤ k ∨ ¬ (rth L k).hi + 1 < lo) : add (L.drop k) lo hi = addMerge (L.drop k) lo hi := by
  by_cases hk : k < L.length
  · rw [List.drop_eq_getElem_cons hk, ← rth_eq hk]
    show (if (rth L k).hi + 1 < lo then rth L k :: add (L.drop (k + 1)) lo hi else addMerge (rth L k :: L.drop (k + 1)) lo hi) = _
    rw [if_neg (by rcases h with h | h; omega; exact h)]
  · rw [List.drop_of_length_le (by omega)]
    rfl
theorem merge_step {L : List Rg} {k : Nat} {lo hi : Int} (h : k < L.length) (hc : (rth L k).lo ≤ hi + 1) : addMerge (L.drop k) lo hi = addMerge (L.drop (k + 1)) (min lo (rth L k).lo) (max hi (rth L k).hi) := by
  rw [List.drop_eq_getElem_cons h, ← rth_eq h]
  show (if (rth L k).lo ≤ hi + 1 then addMerge (L.drop (k + 1)) (min lo (rth L k).lo) (max hi (rth L k).hi) else ⟨lo, hi⟩ :: rth L k :: L.drop (k + 1)) = _
  rw [if_pos hc]
theorem merge_stop {L : List Rg} {k : Nat} {lo hi : Int} (h : L.length ≤ k ∨ ¬ (rth L k).lo ≤ hi + 1) : addMerge (L.drop k) lo hi = ⟨lo, hi⟩ :: L.drop k := by
  by_cases hk : k < L.length
  · rw [List.drop_eq_getElem_cons hk, ← rth_eq hk]
    show (if (rth L k).lo ≤ hi + 1 then addMerge (L.drop (k + 1)) (min lo (rth L k).lo) (max hi (rth L k).hi) else ⟨lo, hi⟩ :: rth L k :: L.drop (k + 1)) = _
    rw [if_neg (by rcases h with h | h; omega; exact h)]
  · rw [List.drop_of_length_le (by omega)]
    rfl
theorem rng_drop {w : World} {g off n k : Nat} {L : List Rg} (h : RngAt w (some ⟨g, off, none⟩) n L) (hk : k ≤ n) : RngAt w (some ⟨g, off + k * 2, none⟩) (n - k) (L.drop k) := by
  refine ⟨by rw [List.length_drop, h.1], fun hn => ?_⟩
  obtain ⟨b, o, e, hb, hc⟩ := h.2 (by omega)
  cases e
  refine ⟨g, off + k * 2, rfl, hb, fun i hi => ?_⟩
  obtain ⟨h0, h1⟩ := hc (k + i) (by omega)
  rw [rth_drop (by rw [h.1]; omega), show off + k * 2 + i * 2 = off + (k + i) * 2 from by omega]
  exact ⟨h0, h1⟩

set_option maxRecDepth 100000 in
set_option maxHeartbeats 4000000 in
theorem added_some (g off : Nat) (n c : Nat) (L : List Rg) (w : World) (lo hi : Int) (h : RngAt w (some ⟨g, off, none⟩) n L) (hcap : n ≤ c) (hn : n ≤ 100000) (hlo : -1000000 ≤ lo ∧ lo ≤ 1000000) (hhi : -1000000 ≤ hi ∧ hi ≤ 1000000)
    (hbd : ∀ r, r ∈ L → (-1000000 ≤ r.lo ∧ r.lo ≤ 1000000) ∧ -1000000 ≤ r.hi ∧ r.hi ≤ 1000000) :
    Calls Try.prog 63 #[.slice (some ⟨g, off, none⟩) n c, .int .i64 lo, .int .i64 hi] w (GotRng w (add L lo hi)) := by
  have hl := hid_of h.1
  have HBD := hid_of hbd
  obtain ⟨hlo0, hlo1⟩ := hlo
  obtain ⟨hhi0, hhi1⟩ := hhi
  clear hbd
  obtain ⟨T, hT⟩ : ∃ T, add L lo hi = T := ⟨_, rfl⟩
  have HT : Hid (T = [] ++ add (L.drop 0) lo hi) := by rw [List.drop_zero]; exact hT.symm
  rw [hT]
  clear hT
  go_enter Try.func63, Try.ntmps63
  go_wp2_with fail
  go_loopw [7, 8] (fun s i wr => ∃ (k : Nat) (A' : Option Addr) (c' m : Nat) (O : List Rg), i = .int .i64 (k : Nat) ∧ s = .slice A' m c' ∧ k ≤ n ∧ m ≤ k ∧ Hid (T = O ++ add (L.drop k) lo hi) ∧ RngIn wr w.heap.size wr.heap.size A' m c' O ∧ Below w.heap.size w wr) (fun _ i _ => n - (intOf i).toNat)
  case atStart => exact ⟨0, none, 0, 0, [], rfl, rfl, Nat.zero_le _, Nat.le_refl _, HT, RngIn.empty _ _ _ _, Below.refl _ _⟩
  case round =>
    clear HT
    obtain ⟨k, A', c', m, O, rfl, rfl, hk, hm, HT, hI, hb⟩ := hrel
    have hsr := hb.size
    by_cases hlt : k < n
    · obtain ⟨g', off', eg, hgl, hc⟩ := (h.below hb).2 (by omega)
      cases eg
      obtain ⟨c0, c1⟩ := hc k hlt
      obtain ⟨b1, b2⟩ := HBD.out _ (rth_mem (L := L) (i := k) (by rw [hl.out]; exact hlt))
      have has := fun x => add_step (L := L) (k := k) (lo := lo) (hi := hi) (by rw [hl.out]; exact hlt) x
      have hst := fun x => add_stop (L := L) (k := k) (lo := lo) (hi := hi) x
      obtain ⟨⟨rl, rh⟩, hx⟩ : ∃ x, x = rth L k := ⟨_, rfl⟩
      rw [← hx] at c0 c1 b1 b2 has hst
      dsimp only at c0 c1 b1 b2 has hst
      obtain ⟨b10, b11⟩ := b1
      obtain ⟨b20, b21⟩ := b2
      have HAS := hid_of has
      have HST := hid_of hst
      clear hc hx has hst
      by_cases t1 : rh + 1 < lo
      · have HT : Hid (T = (O ++ [⟨rl, rh⟩]) ++ add (L.drop (k + 1)) lo hi) := hid_of (by have := HT.out; rw [HAS.out t1] at this; rw [this, List.append_assoc])
        clear HAS HST
        go_wp2_with (at_builtin; refine wpList_snoc_rng _ rfl _ _ rfl ⟨rl, rh⟩ rfl (hI.alloc _) (by simp; omega) (by omega) (by simp) rfl (by simp) (by simp) ?_; intro A2 c2 w2 hI2 ht2; have hb2 : Below w.heap.size w w2 := below_touch hb (alloc_touch ht2) (Nat.le_refl _) hsr; clear ht2)
        go_roundw
        case rel => exact ⟨k + 1, A2, c2, m + 1, O ++ [⟨rl, rh⟩], by go_num, rfl, by omega, by omega, HT, hI2, hb2⟩
        case measure => simp [intOf]; omega
      · have HT2 : Hid (T = O ++ addMerge (L.drop k) lo hi) := hid_of (by have := HT.out; rw [HST.out (.inr t1)] at this; exact this)
        clear HAS HST
        go_wp2_with fail
        clear c0 c1 b10 b11 b20 b21 t1
        go_loopw [1, 2, 8] (fun x y i wr => ∃ (k : Nat) (l' h' : Int), x = .int .i64 l' ∧ y = .int .i64 h' ∧ i = .int .i64 (k : Nat) ∧ k ≤ n ∧ (-1000000 ≤ l' ∧ l' ≤ 1000000) ∧ (-1000000 ≤ h' ∧ h' ≤ 1000000) ∧ Hid (T = O ++ addMerge (L.drop k) l' h') ∧ RngIn wr w.heap.size wr.heap.size A' m c' O ∧ Below w.heap.size w wr) (fun _ _ i _ => n - (intOf i).toNat)
        case atStart => exact ⟨k, lo, hi, rfl, rfl, rfl, hk, ⟨hlo0, hlo1⟩, ⟨hhi0, hhi1⟩, HT2, hI, hb⟩
        case round =>
          clear HT2 hb hI HT
          obtain ⟨k, l', h', rfl, rfl, rfl, hk, ⟨hl0, hl1⟩, ⟨hh0, hh1⟩, HT, hI, hb⟩ := hrel
          have hsr := hb.size
          by_cases hlt : k < n
          · obtain ⟨g', off', eg, hgl, hc⟩ := (h.below hb).2 (by omega)
            cases eg
            obtain ⟨c0, c1⟩ := hc k hlt
            obtain ⟨b1, b2⟩ := HBD.out _ (rth_mem (L := L) (i := k) (by rw [hl.out]; exact hlt))
            have hms := fun x => merge_step (L := L) (k := k) (lo := l') (hi := h') (by rw [hl.out]; exact hlt) x
            have hst := fun x => merge_stop (L := L) (k := k) (lo := l') (hi := h') x
            have HD := hid_of (rng_drop (h.below hb) (show k ≤ n from by omega))
            obtain ⟨⟨rl, rh⟩, hx⟩ : ∃ x, x = rth L k := ⟨_, rfl⟩
            rw [← hx] at c0 c1 b1 b2 hms hst
            dsimp only at c0 c1 b1 b2 hms hst
            obtain ⟨b10, b11⟩ := b1
            obtain ⟨b20, b21⟩ := b2
            have HMS := hid_of hms
            have HST := hid_of hst
            clear hc hx hms hst
            by_cases t2 : rl ≤ h' + 1
            · obtain ⟨mv, hmv⟩ : ∃ v, (if rl < l' then rl else l') = v := ⟨_, rfl⟩
              obtain ⟨xv, hxv⟩ : ∃ v, (if h' < rh then rh else h') = v := ⟨_, rfl⟩
              have HMV : Hid (min l' rl = mv) := by unfold Hid; rw [← hmv]; split <;> omega
              have HXV : Hid (max h' rh = xv) := by unfold Hid; rw [← hxv]; split <;> omega
              have hmb : -1000000 ≤ mv ∧ mv ≤ 1000000 := by have := HMV.out; omega
              have hxb : -1000000 ≤ xv ∧ xv ≤ 1000000 := by have := HXV.out; omega
              have HT : Hid (T = O ++ addMerge (L.drop (k + 1)) mv xv) := hid_of (by have := HT.out; rw [HMS.out t2, HMV.out, HXV.out] at this; exact this)
              clear HMV HXV HMS HST
              go_wp2_with fail
              go_quiet (fail)
              go_wp2_with fail
              go_roundw
              case rel => exact ⟨k + 1, mv, xv, rfl, rfl, by go_num, by omega, hmb, hxb, HT, hI, below_drewN' hb _⟩
              case measure => simp [intOf]; omega
            · have HT : Hid (T = O ++ [⟨l', h'⟩] ++ L.drop k) := hid_of (by have := HT.out; rw [HST.out (.inr t2)] at this; rw [this]; simp)
              clear HMS HST
              go_wp2_with (first
                | (at_builtin; refine wpList_snoc_rng _ rfl _ _ rfl ⟨l', h'⟩ rfl (hI.alloc _) (by simp; omega) (by omega) (by simp) rfl (by simp) (by simp) ?_; intro A2 c2 w2 hI2 ht2; have hs2 := ht2.size; (try simp at hs2); have hb2 : Below w.heap.size w w2 := below_touch hb (alloc_touch ht2) (Nat.le_refl _) hsr; have HX := hid_of (rng_drop (h.below hb2) (show k ≤ n from by omega)); clear ht2)
                | (at_builtin; go_loud (refine wpList_tail_rng _ rfl _ _ rfl rfl hI2 (by omega) (by omega) (by omega) rfl HX.out (by intro e; first | (cases e; done) | (split at e <;> cases e)) (by omega) ?_; intro A3 c3 w3 hI3 ht3; have hb3 : Below w.heap.size w w3 := below_touch hb2 ht3 (Nat.le_refl _) (by omega); clear ht3)))
              go_ret
              have hl3 := hI3.1
              exact ⟨A3, c3, by rw [HT.out, hl3]; rfl, by rw [HT.out, hl3]; exact hI3, hb3⟩
          · obtain rfl : k = n := by omega
            have hst := merge_stop (L := L) (k := k) (lo := l') (hi := h') (.inl (by rw [hl.out]; exact Nat.le_refl _))
            have HT : Hid (T = O ++ [⟨l', h'⟩] ++ L.drop k) := hid_of (by have := HT.out; rw [hst] at this; rw [this]; simp)
            clear hst hlt
            have HD0 : Hid (L.drop k = []) := hid_of (List.drop_of_length_le (by rw [hl.out]; exact Nat.le_refl _))
            by_cases hck : c = k
            · go_wp2_with (first
                | (at_builtin; refine wpList_snoc_rng _ rfl _ _ rfl ⟨l', h'⟩ rfl (hI.alloc _) (by simp; omega) (by omega) (by simp) rfl (by simp) (by simp) ?_; intro A2 c2 w2 hI2 ht2; have hs2 := ht2.size; (try simp at hs2); have hb2 : Below w.heap.size w w2 := below_touch hb (alloc_touch ht2) (Nat.le_refl _) hsr; skip; clear ht2)
                | (at_builtin; go_loud (refine wpList_tail_rng _ rfl _ _ rfl rfl hI2 (by omega) (by omega) (by omega) rfl (show RngAt w2 _ 0 (L.drop k) from by rw [HD0.out]; exact RngAt.nil _ _) (by intro e; first | (cases e; done) | (split at e <;> cases e)) (by omega) ?_; intro A3 c3 w3 hI3 ht3; have hb3 : Below w.heap.size w w3 := below_touch hb2 ht3 (Nat.le_refl _) (by omega); clear ht3)))
              go_ret
              have hl3 := hI3.1
              exact ⟨A3, c3, by rw [HT.out, hl3]; rfl, by rw [HT.out, hl3]; exact hI3, hb3⟩
            · go_wp2_with (first
                | (at_builtin; refine wpList_snoc_rng _ rfl _ _ rfl ⟨l', h'⟩ rfl (hI.alloc _) (by simp; omega) (by omega) (by simp) rfl (by simp) (by simp) ?_; intro A2 c2 w2 hI2 ht2; have hs2 := ht2.size; (try simp at hs2); have hb2 : Below w.heap.size w w2 := below_touch hb (alloc_touch ht2) (Nat.le_refl _) hsr; skip; clear ht2)
                | (at_builtin; go_loud (refine wpList_tail_rng _ rfl _ _ rfl rfl hI2 (by omega) (by omega) (by omega) rfl (show RngAt w2 _ 0 (L.drop k) from by rw [HD0.out]; exact RngAt.nil _ _) (by intro e; first | (cases e; done) | (split at e <;> cases e)) (by omega) ?_; intro A3 c3 w3 hI3 ht3; have hb3 : Below w.heap.size w w3 := below_touch hb2 ht3 (Nat.le_refl _) (by omega); clear ht3)))
              go_ret
              have hl3 := hI3.1
              exact ⟨A3, c3, by rw [HT.out, hl3]; rfl, by rw [HT.out, hl3]; exact hI3, hb3⟩
    · have HT2 : Hid (T = O ++ addMerge (L.drop k) lo hi) := hid_of (by have := HT.out; rw [add_stop (.inl (by rw [hl.out]; omega))] at this; exact this)
      go_wp2_with fail
      clear hlt
      go_loopw [1, 2, 8] (fun x y i wr => ∃ (k : Nat) (l' h' : Int), x = .int .i64 l' ∧ y = .int .i64 h' ∧ i = .int .i64 (k : Nat) ∧ k ≤ n ∧ (-1000000 ≤ l' ∧ l' ≤ 1000000) ∧ (-1000000 ≤ h' ∧ h' ≤ 1000000) ∧ Hid (T = O ++ addMerge (L.drop k) l' h') ∧ RngIn wr w.heap.size wr.heap.size A' m c' O ∧ Below w.heap.size w wr) (fun _ _ i _ => n - (intOf i).toNat)
      case atStart => exact ⟨k, lo, hi, rfl, rfl, rfl, hk, ⟨hlo0, hlo1⟩, ⟨hhi0, hhi1⟩, HT2, hI, hb⟩
      case round =>
        clear HT2 hb hI HT
        obtain ⟨k, l', h', rfl, rfl, rfl, hk, ⟨hl0, hl1⟩, ⟨hh0, hh1⟩, HT, hI, hb⟩ := hrel
        have hsr := hb.size
        by_cases hlt : k < n
        · obtain ⟨g', off', eg, hgl, hc⟩ := (h.below hb).2 (by omega)
          cases eg
          obtain ⟨c0, c1⟩ := hc k hlt
          obtain ⟨b1, b2⟩ := HBD.out _ (rth_mem (L := L) (i := k) (by rw [hl.out]; exact hlt))
          have hms := fun x => merge_step (L := L) (k := k) (lo := l') (hi := h') (by rw [hl.out]; exact hlt) x
          have hst := fun x => merge_stop (L := L) (k := k) (lo := l') (hi := h') x
          have HD := hid_of (rng_drop (h.below hb) (show k ≤ n from by omega))
          obtain ⟨⟨rl, rh⟩, hx⟩ : ∃ x, x = rth L k := ⟨_, rfl⟩
          rw [← hx] at c0 c1 b1 b2 hms hst
          dsimp only at c0 c1 b1 b2 hms hst
          obtain ⟨b10, b11⟩ := b1
          obtain ⟨b20, b21⟩ := b2
          have HMS := hid_of hms
          have HST := hid_of hst
          clear hc hx hms hst
          by_cases t2 : rl ≤ h' + 1
          · obtain ⟨mv, hmv⟩ : ∃ v, (if rl < l' then rl else l') = v := ⟨_, rfl⟩
            obtain ⟨xv, hxv⟩ : ∃ v, (if h' < rh then rh else h') = v := ⟨_, rfl⟩
            have HMV : Hid (min l' rl = mv) := by unfold Hid; rw [← hmv]; split <;> omega
            have HXV : Hid (max h' rh = xv) := by unfold Hid; rw [← hxv]; split <;> omega
            have hmb : -1000000 ≤ mv ∧ mv ≤ 1000000 := by have := HMV.out; omega
            have hxb : -1000000 ≤ xv ∧ xv ≤ 1000000 := by have := HXV.out; omega
            have HT : Hid (T = O ++ addMerge (L.drop (k + 1)) mv xv) := hid_of (by have := HT.out; rw [HMS.out t2, HMV.out, HXV.out] at this; exact this)
            clear HMV HXV HMS HST
            go_wp2_with fail
            go_quiet (fail)
            go_wp2_with fail
            go_roundw
            case rel => exact ⟨k + 1, mv, xv, rfl, rfl, by go_num, by omega, hmb, hxb, HT, hI, below_drewN' hb _⟩
            case measure => simp [intOf]; omega
          · have HT : Hid (T = O ++ [⟨l', h'⟩] ++ L.drop k) := hid_of (by have := HT.out; rw [HST.out (.inr t2)] at this; rw [this]; simp)
            clear HMS HST
            go_wp2_with (first
              | (at_builtin; refine wpList_snoc_rng _ rfl _ _ rfl ⟨l', h'⟩ rfl (hI.alloc _) (by simp; omega) (by omega) (by simp) rfl (by simp) (by simp) ?_; intro A2 c2 w2 hI2 ht2; have hs2 := ht2.size; (try simp at hs2); have hb2 : Below w.heap.size w w2 := below_touch hb (alloc_touch ht2) (Nat.le_refl _) hsr; have HX := hid_of (rng_drop (h.below hb2) (show k ≤ n from by omega)); clear ht2)
              | (at_builtin; go_loud (refine wpList_tail_rng _ rfl _ _ rfl rfl hI2 (by omega) (by omega) (by omega) rfl HX.out (by intro e; first | (cases e; done) | (split at e <;> cases e)) (by omega) ?_; intro A3 c3 w3 hI3 ht3; have hb3 : Below w.heap.size w w3 := below_touch hb2 ht3 (Nat.le_refl _) (by omega); clear ht3)))
            go_ret
            have hl3 := hI3.1
            exact ⟨A3, c3, by rw [HT.out, hl3]; rfl, by rw [HT.out, hl3]; exact hI3, hb3⟩
        · obtain rfl : k = n := by omega
          have hst := merge_stop (L := L) (k := k) (lo := l') (hi := h') (.inl (by rw [hl.out]; exact Nat.le_refl _))
          have HT : Hid (T = O ++ [⟨l', h'⟩] ++ L.drop k) := hid_of (by have := HT.out; rw [hst] at this; rw [this]; simp)
          clear hst hlt
          have HD0 : Hid (L.drop k = []) := hid_of (List.drop_of_length_le (by rw [hl.out]; exact Nat.le_refl _))
          by_cases hck : c = k
          · go_wp2_with (first
              | (at_builtin; refine wpList_snoc_rng _ rfl _ _ rfl ⟨l', h'⟩ rfl (hI.alloc _) (by simp; omega) (by omega) (by simp) rfl (by simp) (by simp) ?_; intro A2 c2 w2 hI2 ht2; have hs2 := ht2.size; (try simp at hs2); have hb2 : Below w.heap.size w w2 := below_touch hb (alloc_touch ht2) (Nat.le_refl _) hsr; skip; clear ht2)
              | (at_builtin; go_loud (refine wpList_tail_rng _ rfl _ _ rfl rfl hI2 (by omega) (by omega) (by omega) rfl (show RngAt w2 _ 0 (L.drop k) from by rw [HD0.out]; exact RngAt.nil _ _) (by intro e; first | (cases e; done) | (split at e <;> cases e)) (by omega) ?_; intro A3 c3 w3 hI3 ht3; have hb3 : Below w.heap.size w w3 := below_touch hb2 ht3 (Nat.le_refl _) (by omega); clear ht3)))
            go_ret
            have hl3 := hI3.1
            exact ⟨A3, c3, by rw [HT.out, hl3]; rfl, by rw [HT.out, hl3]; exact hI3, hb3⟩
          · go_wp2_with (first
              | (at_builtin; refine wpList_snoc_rng _ rfl _ _ rfl ⟨l', h'⟩ rfl (hI.alloc _) (by simp; omega) (by omega) (by simp) rfl (by simp) (by simp) ?_; intro A2 c2 w2 hI2 ht2; have hs2 := ht2.size; (try simp at hs2); have hb2 : Below w.heap.size w w2 := below_touch hb (alloc_touch ht2) (Nat.le_refl _) hsr; skip; clear ht2)
              | (at_builtin; go_loud (refine wpList_tail_rng _ rfl _ _ rfl rfl hI2 (by omega) (by omega) (by omega) rfl (show RngAt w2 _ 0 (L.drop k) from by rw [HD0.out]; exact RngAt.nil _ _) (by intro e; first | (cases e; done) | (split at e <;> cases e)) (by omega) ?_; intro A3 c3 w3 hI3 ht3; have hb3 : Below w.heap.size w w3 := below_touch hb2 ht3 (Nat.le_refl _) (by omega); clear ht3)))
            go_ret
            have hl3 := hI3.1
            exact ⟨A3, c3, by rw [HT.out, hl3]; rfl, by rw [HT.out, hl3]; exact hI3, hb3⟩
theorem added_nil (w : World) (lo hi : Int) : Calls Try.prog 63 #[.slice none 0 0, .int .i64 lo, .int .i64 hi] w (GotRng w [⟨lo, hi⟩]) := by
  go_enter Try.func63, Try.ntmps63
  go_wp2_with fail
  go_loopw [7, 8] (fun s i wr => i = .int .i64 0 ∧ s = .slice none 0 0 ∧ Below w.heap.size w wr) (fun _ i _ => 0)
  case atStart => exact ⟨rfl, rfl, Below.refl _ _⟩
  case round =>
    obtain ⟨rfl, rfl, hb⟩ := hrel
    go_wp2_with fail
    go_loopw [1, 2, 8] (fun x y i wr => x = .int .i64 lo ∧ y = .int .i64 hi ∧ i = .int .i64 0 ∧ Below w.heap.size w wr) (fun _ _ i _ => 0)
    case atStart => exact ⟨rfl, rfl, rfl, hb⟩
    case round =>
      clear hb
      obtain ⟨rfl, rfl, rfl, hb⟩ := hrel
      have hsr := hb.size
      go_wp2_with (first
        | (at_builtin; refine wpList_snoc_rng _ rfl _ _ rfl ⟨lo, hi⟩ rfl ((RngIn.empty _ w.heap.size 0 none)) (by simp; omega) (by omega) (by simp) rfl (by simp) (by simp) ?_; intro A2 c2 w2 hI2 ht2; have hs2 := ht2.size; (try simp at hs2); have hb2 : Below w.heap.size w w2 := below_touch hb (alloc_touch ht2) (Nat.le_refl _) hsr; clear ht2)
        | (at_builtin; refine wpList_tail_rng _ rfl _ _ rfl rfl hI2 (by omega) (by omega) (by omega) rfl (RngAt.nil _ _) (by simp) (by omega) ?_; intro A3 c3 w3 hI3 ht3; have hb3 : Below w.heap.size w w3 := below_touch hb2 ht3 (Nat.le_refl _) (by omega); clear ht3))
      go_ret
      exact ⟨A3, c3, rfl, hI3, hb3⟩
theorem added_zero (x : Addr) (c : Nat) (w : World) (lo hi : Int) : Calls Try.prog 63 #[.slice (some x) 0 c, .int .i64 lo, .int .i64 hi] w (GotRng w [⟨lo, hi⟩]) := by
  go_enter Try.func63, Try.ntmps63
  go_wp2_with fail
  go_loopw [7, 8] (fun s i wr => i = .int .i64 0 ∧ s = .slice none 0 0 ∧ Below w.heap.size w wr) (fun _ i _ => 0)
  case atStart => exact ⟨rfl, rfl, Below.refl _ _⟩
  case round =>
    obtain ⟨rfl, rfl, hb⟩ := hrel
    go_wp2_with fail
    go_loopw [1, 2, 8] (fun x y i wr => x = .int .i64 lo ∧ y = .int .i64 hi ∧ i = .int .i64 0 ∧ Below w.heap.size w wr) (fun _ _ i _ => 0)
    case atStart => exact ⟨rfl, rfl, rfl, hb⟩
    case round =>
      clear hb
      obtain ⟨rfl, rfl, rfl, hb⟩ := hrel
      have hsr := hb.size
      go_wp2_with (first
        | (at_builtin; refine wpList_snoc_rng _ rfl _ _ rfl ⟨lo, hi⟩ rfl ((RngIn.empty _ w.heap.size 0 none)) (by simp; omega) (by omega) (by simp) rfl (by simp) (by simp) ?_; intro A2 c2 w2 hI2 ht2; have hs2 := ht2.size; (try simp at hs2); have hb2 : Below w.heap.size w w2 := below_touch hb (alloc_touch ht2) (Nat.le_refl _) hsr; clear ht2)
        | (at_builtin; go_loud (refine wpList_tail_rng _ rfl _ _ rfl rfl hI2 (by omega) (by omega) (by omega) rfl (RngAt.nil _ _) (by intro e; first | (cases e; done) | (split at e <;> cases e)) (by omega) ?_; intro A3 c3 w3 hI3 ht3; have hb3 : Below w.heap.size w w3 := below_touch hb2 ht3 (Nat.le_refl _) (by omega); clear ht3)))
      go_ret
      exact ⟨A3, c3, rfl, hI3, hb3⟩
theorem added_any (A : Option Addr) (n c : Nat) (L : List Rg) (w : World) (lo hi : Int) (h : RngAt w A n L) (hnone : A = none → c = 0) (hcap : n ≤ c) (hn : n ≤ 100000) (hlo : -1000000 ≤ lo ∧ lo ≤ 1000000) (hhi : -1000000 ≤ hi ∧ hi ≤ 1000000)
    (hbd : ∀ r, r ∈ L → (-1000000 ≤ r.lo ∧ r.lo ≤ 1000000) ∧ -1000000 ≤ r.hi ∧ r.hi ≤ 1000000) :
    Calls Try.prog 63 #[.slice A n c, .int .i64 lo, .int .i64 hi] w (GotRng w (add L lo hi)) := by
  rcases Nat.eq_zero_or_pos n with e | e
  · subst e
    obtain rfl : L = [] := List.eq_nil_of_length_eq_zero h.1
    rcases A with _ | x
    · obtain rfl := hnone rfl
      exact added_nil w lo hi
    · exact added_zero x c w lo hi
  · obtain ⟨g, off, rfl, _, _⟩ := h.2 e
    exact added_some g off n c L w lo hi h hcap hn hlo hhi hbd
theorem added_v {L M : List Rg} {lo hi : Int} (hx : add L lo hi = M) (A : Option Addr) (c : Nat) (w : World) (h : RngAt w A L.length L) (hn : L.length ≤ 100000) (hlo : -1000000 ≤ lo ∧ lo ≤ 1000000) (hhi : -1000000 ≤ hi ∧ hi ≤ 1000000)
    (hbd : ∀ r, r ∈ L → (-1000000 ≤ r.lo ∧ r.lo ≤ 1000000) ∧ -1000000 ≤ r.hi ∧ r.hi ≤ 1000000) (hnone : A = none → c = 0) (hcap : L.length ≤ c) :
    Calls Try.prog 63 #[.slice A L.length c, .int .i64 lo, .int .i64 hi] w (GotRng w M) := hx ▸ added_any A L.length c L w lo hi h hnone hcap hn hlo hhi hbd

end Go.Proofs.Ytmkmaeblnnfheab
