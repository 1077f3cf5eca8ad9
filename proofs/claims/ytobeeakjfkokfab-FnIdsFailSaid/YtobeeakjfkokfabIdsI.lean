/- The program's and the reference's IdsIssue. -/
import Derived.Test.YtobeeakjfkokfabIdsG
namespace Go.Proofs.Ytobeeakjfkokfab
open Go.RowKit

set_option maxHeartbeats 4000000 in
theorem idsIssue_i {B S : Nat} (A : Option Addr) (n c : Nat) (L : List Cid) (w : World) (v : Int) (h : IdsIn w B S A n c L) (hn : n ≤ 2000000) :
    Calls Try.prog 12 #[.slice A n c, .int .i64 v] w (Got3 w (issue L v)) := by
  have hl := h.1
  rcases issue_how L v with ⟨HK, E⟩ | ⟨HK, HR, E⟩ | X
  · rw [E]; clear E
    go_enter Try.func12, Try.ntmps12
    go_wp2_with fail
    refine (valid_i (h.alloc _) hn HK.out).mono ?_
    rintro e w1 ⟨rfl, hb1⟩
    have HB1 : Below w.heap.size w w1 := ((Below.refl _ w).alloc (Nat.le_refl _) _).trans (hb1.mono (by simp))
    go_wp2_with fail
    go_ret3
    exact ⟨_, _, _, rfl, IdsIn.empty _ _ _, HB1⟩
  · rw [E]; clear E
    go_enter Try.func12, Try.ntmps12
    go_wp2_with fail
    refine (valid_i (h.alloc _) hn HK.out).mono ?_
    rintro e w1 ⟨rfl, hb1⟩
    have HB1 : Below w.heap.size w w1 := ((Below.refl _ w).alloc (Nat.le_refl _) _).trans (hb1.mono (by simp))
    have q1 : w1.cell? ⟨w.heap.size, 0, none⟩ = some (.int .i64 v) := (hb1.cell (p := ⟨w.heap.size, 0, none⟩) (by simp)).trans (by simp)
    go_wp2_with fail
    refine (within_v HR.out _).mono ?_
    rintro e w2 ⟨rfl, rfl⟩
    go_wp2_with fail
    go_ret3
    exact ⟨_, _, _, rfl, IdsIn.empty _ _ _, HB1⟩
  · have hok : Hid (okI L = true) ∧ Hid (decide (0 ≤ v ∧ v ≤ 9999) = true) := by rcases X with X | X | X | X <;> exact ⟨X.1, X.2.1⟩
    obtain ⟨HK, HR⟩ := hok
    have HX := hid_of X
    clear X
    go_enter Try.func12, Try.ntmps12
    go_wp2_with fail
    refine (valid_i (h.alloc _) hn HK.out).mono ?_
    rintro e w1 ⟨rfl, hb1⟩
    have HB1 : Below w.heap.size w w1 := ((Below.refl _ w).alloc (Nat.le_refl _) _).trans (hb1.mono (by simp))
    have hs1 : w.heap.size < w1.heap.size := by have := hb1.size; simp at this; omega
    have q1 : w1.cell? ⟨w.heap.size, 0, none⟩ = some (.int .i64 v) := (hb1.cell (p := ⟨w.heap.size, 0, none⟩) (by simp)).trans (by simp)
    go_wp2_with fail
    refine (within_v HR.out _).mono ?_
    rintro e w2 ⟨rfl, rfl⟩
    go_wp2_with fail
    refine (clone_i (h.below HB1) hn).mono ?_
    rintro e w3 ⟨A1, c1, rfl, hI, hb3⟩
    have HB3 : Below w.heap.size w w3 := HB1.trans (hb3.mono HB1.size)
    have q3 : w3.cell? ⟨w.heap.size, 0, none⟩ = some (.int .i64 v) := (hb3.cell (p := ⟨w.heap.size, 0, none⟩) hs1).trans q1
    have hs3 := hb3.size
    go_wp2_with fail
    refine (contains_any A n c L w3 (fun x => decide (x.v = v)) 34 #[.pointer (some ⟨w.heap.size, 0, none⟩)] (enters_of Try.func34 (by kernel_rfl) rfl) (h.below HB3) hn (pred_val v w.heap.size w3 (by omega) q3)).mono ?_
    rintro e w4 ⟨rfl, hb4⟩
    have HB4 : Below w.heap.size w w4 := HB3.trans (hb4.mono HB3.size)
    have q4 : w4.cell? ⟨w.heap.size, 0, none⟩ = some (.int .i64 v) := (hb4.cell (p := ⟨w.heap.size, 0, none⟩) (by show w.heap.size < _; omega)).trans q3
    have hs4 := hb4.size
    obtain ⟨ky, hky⟩ : ∃ b, b = L.any (fun x => decide (x.v = v)) := ⟨_, rfl⟩
    rw [← hky]
    have HY := hid_of hky
    clear hky
    obtain ⟨wo, rfl⟩ : ∃ wo : World, wo = w4 := ⟨_, rfl⟩
    go_wp2_with fail
    go_loopw [9, 27] (fun a i wr => ∃ k : Nat, i = .int .i64 (k : Nat) ∧ a = .int .i64 (act (L.take k) : Nat) ∧ k ≤ n ∧ Below wo.heap.size wo wr) (fun _ i _ => n - (intOf i).toNat)
    case atStart => exact ⟨0, rfl, rfl, Nat.zero_le _, Below.refl _ _⟩
    case round =>
      obtain ⟨k, rfl, rfl, hk, hb⟩ := hrel
      have hact := act_small (L.take k)
      rw [List.length_take] at hact
      have hbw : Below w.heap.size w wr := HB4.trans (hb.mono HB4.size)
      by_cases hlt : k < n
      · obtain ⟨g, rfl, _, _, hgl, _, hc⟩ := (h.below hbw).at_ (by omega)
        obtain ⟨c0, c1, c2⟩ := hc k hlt
        have hts := act_next (L := L) (k := k) (by omega)
        obtain ⟨⟨v', p', r⟩, hx⟩ : ∃ x, x = nth L k := ⟨_, rfl⟩
        rw [← hx] at c0 c1 c2 hts
        dsimp only at c0 c1 c2 hts
        clear hc hx
        have HT := hid_of hts
        clear hts
        cases r with
        | true =>
          go_wp2_with fail
          go_roundw
          case rel => exact ⟨k + 1, by go_num, by rw [HT.out]; simp, by omega, hb.alloc hb.size _⟩
          case measure => simp [intOf]; omega
        | false =>
          go_wp2_with fail
          go_roundw
          case rel => exact ⟨k + 1, by go_num, by rw [HT.out]; go_num, by omega, hb.alloc hb.size _⟩
          case measure => simp [intOf]; omega
      · have hkn : k = n := by omega
        subst hkn
        clear hlt
        rw [List.take_of_length_le (by omega)] at *
        have hIx := (hI.below hb4).below hb
        have hsx := hb.size
        have qx : wr.cell? ⟨w.heap.size, 0, none⟩ = some (.int .i64 v) := (hb.cell (p := ⟨w.heap.size, 0, none⟩) (by show w.heap.size < _; omega)).trans q4
        obtain ⟨na, hna⟩ : ∃ a, a = act L := ⟨_, rfl⟩
        rcases HX.out with ⟨_, _, h8, h4, X, E⟩ | ⟨_, _, X, h4, h8, E⟩ | ⟨_, _, X, h8, h4, E⟩ | ⟨_, _, X, h8, h4, E⟩
        all_goals
          rw [← hna] at *
          have hkk : ky = _ := HY.out.trans X.out
          subst hkk
          rw [hl] at h8
        · go_wp2_with fail
          go_ret3
          try rw [E]
          exact ⟨_, _, _, rfl, hIx.mono HB1.size (by omega), hbw⟩
        · subst h8
          go_wp2_with fail
          go_ret3
          try rw [E]
          exact ⟨_, _, _, rfl, hIx.mono HB1.size (by omega), hbw⟩
        · subst h4
          have e8 : ((k : Int) == 8) = false := by simp; omega
          go_wp2_with fail
          go_ret3
          try rw [E]
          exact ⟨_, _, _, rfl, hIx.mono HB1.size (by omega), hbw⟩
        · have e8 : ((k : Int) == 8) = false := by simp; omega
          have e4 : ((na : Int) == 4) = false := by simp; omega
          go_wp2_with (at_builtin; refine wpList_snoc_ids _ rfl _ _ rfl ⟨v, -1, false⟩ rfl (hIx.alloc _) (by simp; omega) (by omega) rfl (by simp) (by simp) (by simp) ?_; intro A2 c2 w5 hI2 ht)
          go_ret3
          try rw [E]
          try rw [hl]
          exact ⟨_, _, _, rfl, hI2.mono HB1.size (Nat.le_refl _), below_touch (hbw.alloc hbw.size _) ht HB1.size (by simp; have := hbw.size; omega)⟩

set_option maxHeartbeats 4000000 in
theorem idsIssue_s {B S : Nat} (A : Option Addr) (n c : Nat) (L : List Cid) (w : World) (v : Int) (h : IdsIn w B S A n c L) (hn : n ≤ 2000000) :
    Calls Try.prog 13 #[.slice A n c, .int .i64 v] w (Got3 w (issue L v)) := by
  have hl := h.1
  rcases issue_how L v with ⟨HK, E⟩ | ⟨HK, HR, E⟩ | X
  · rw [E]; clear E
    go_enter Try.func13, Try.ntmps13
    go_wp2_with fail
    refine (valid_s h hn HK.out).mono ?_
    rintro e w1 ⟨rfl, hb1⟩
    go_wp2_with fail
    go_ret3
    exact ⟨_, _, _, rfl, IdsIn.empty _ _ _, hb1.alloc hb1.size _⟩
  · rw [E]; clear E
    go_enter Try.func13, Try.ntmps13
    go_wp2_with fail
    refine (valid_s h hn HK.out).mono ?_
    rintro e w1 ⟨rfl, hb1⟩
    go_wp2_with fail
    refine (l6In_v HR.out _).mono ?_
    rintro e w2 ⟨rfl, rfl⟩
    go_wp2_with fail
    go_ret3
    exact ⟨_, _, _, rfl, IdsIn.empty _ _ _, hb1.alloc hb1.size _⟩
  · have hok : Hid (okI L = true) ∧ Hid (decide (0 ≤ v ∧ v ≤ 9999) = true) := by rcases X with X | X | X | X <;> exact ⟨X.1, X.2.1⟩
    obtain ⟨HK, HR⟩ := hok
    have HX := hid_of X
    clear X
    go_enter Try.func13, Try.ntmps13
    go_wp2_with fail
    refine (valid_s h hn HK.out).mono ?_
    rintro e w1 ⟨rfl, hb1⟩
    go_wp2_with fail
    refine (l6In_v HR.out _).mono ?_
    rintro e w2 ⟨rfl, rfl⟩
    go_wp2_with (at_builtin; (with_reducible refine wpList_copy_ids _ rfl _ _ rfl rfl (World.ownsRow_lit _ #[] 0 (Nat.le_refl _) (Nat.zero_le _) rfl) (by simp) rfl ((h.below hb1).alloc _) hn ?_); intro A1 c1 w3 hI hgr)
    have hb3 : Below w1.heap.size w1 w3 := ((Below.refl _ w1).alloc (Nat.le_refl _) _).grown hgr (by simp) (by intro k hk; simp at hk; omega)
    have HB : Below w.heap.size w w3 := hb1.trans (hb3.mono hb1.size)
    go_loop [8] (fun i => ∃ k : Nat, i = .int .i64 (k : Nat) ∧ k ≤ n ∧ Hid (∀ j, j < k → (nth L j).v ≠ v)) (fun i => n - (intOf i).toNat)
    case atStart => exact ⟨0, rfl, Nat.zero_le _, fun j hj => by omega⟩
    case round =>
      obtain ⟨k, rfl, hk, HN⟩ := hrel
      by_cases hlt : k < n
      · obtain ⟨g, rfl, _, _, hgl, _, hc⟩ := (h.below HB).at_ (by omega)
        obtain ⟨c0, _, _⟩ := hc k hlt
        obtain ⟨v', hx⟩ : ∃ x, x = (nth L k).v := ⟨_, rfl⟩
        rw [← hx] at c0
        have HV := hid_of hx
        clear hc hx
        by_cases hv : v' = v
        · subst hv
          have hyes : (L.any fun x => decide (x.v = v')) = true := any_v.2 ⟨k, by omega, HV.out.symm⟩
          have hE : issue L v' = (L, -1, false) := by
            rcases HX.out with ⟨_, _, _, _, _, E⟩ | ⟨_, _, X, _⟩ | ⟨_, _, X, _⟩ | ⟨_, _, X, _⟩
            · exact E
            all_goals (have := X.out; rw [hyes] at this; cases this)
          clear hyes
          have HE := hid_of hE
          clear hE
          go_wp2_with fail
          go_ret3
          rw [HE.out]
          exact ⟨_, _, _, rfl, hI.mono hb1.size (Nat.le_refl _), HB⟩
        · have hv' : (v' == v) = false := by simpa using hv
          have HV2 := hid_of hv
          clear hv
          go_wp2_with fail
          go_round
          case rel => exact ⟨k + 1, by go_num, by omega, fun j hj => by
            rcases (show j < k ∨ j = k from by omega) with e | e
            · exact HN.out j e
            · rw [e, ← HV.out]; exact HV2.out⟩
          case measure => simp [intOf]; omega
      · have hkn : k = n := by omega
        subst hkn
        clear hlt
        obtain ⟨na, hna⟩ : ∃ a, a = act L := ⟨_, rfl⟩
        rcases HX.out with ⟨_, _, h8, h4, X, E⟩ | ⟨_, _, X, h4, h8, E⟩ | ⟨_, _, X, h8, h4, E⟩ | ⟨_, _, X, h8, h4, E⟩
        · exfalso
          obtain ⟨j, hj, e⟩ := any_v.1 X.out
          exact HN.out j (by omega) e
        · rw [hl] at h8
          subst h8
          go_wp2_with fail
          go_ret3
          try rw [E]
          exact ⟨_, _, _, rfl, hI.mono hb1.size (Nat.le_refl _), HB⟩
        · rw [hl] at h8
          go_wp2_with fail
          refine (active_spec _ _ _ L _ (h.below HB) hn).mono ?_
          rintro e w4 ⟨rfl, rfl⟩
          rw [h4]
          go_wp2_with fail
          go_ret3
          try rw [E]
          exact ⟨_, _, _, rfl, hI.mono hb1.size (Nat.le_refl _), HB⟩
        · rw [hl] at h8
          go_wp2_with fail
          refine (active_spec _ _ _ L _ (h.below HB) hn).mono ?_
          rintro e w4 ⟨rfl, rfl⟩
          rw [← hna]
          rw [← hna] at h4
          go_wp2_with (at_builtin; refine wpList_snoc_ids _ rfl _ _ rfl ⟨v, -1, false⟩ rfl (hI.alloc _) (by simp; have := hb3.size; omega) (by omega) rfl (by simp) (by simp) (by simp) ?_; intro A2 c2 w5 hI2 ht)
          go_ret3
          try rw [E]
          try rw [hl]
          exact ⟨_, _, _, rfl, hI2.mono hb1.size (Nat.le_refl _), below_touch (HB.alloc HB.size _) ht hb1.size (by simp; have := HB.size; omega)⟩

end Go.Proofs.Ytobeeakjfkokfab
