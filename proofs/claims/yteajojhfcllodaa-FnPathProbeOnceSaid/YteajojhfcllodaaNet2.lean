/- A path is drawn (the reference's l93Net): a loop of operations on a zero path, then seldom one field spoilt: it ends, and gives a path of small fields. -/
import Derived.Test.YteajojhfcllodaaNet
import Derived.Deep.RegionHeld3
import Derived.Deep.RegionWith
import Derived.Deep.DeepCutAuto
namespace Go.Proofs.Yteajojhfcllodaa
open Go.RowKit
variable {B : Nat}

set_option maxRecDepth 100000 in
set_option maxHeartbeats 16000000 in
theorem net_any (w : World) (rb n : Nat) (h : Rd w B rb n) (hn : n ≤ 1000) :
    Calls Try.prog 31 #[.pointer (some ⟨rb, 0, none⟩)] w (DrawnPath w B rb n 200) := by
  have hlt := h.lt
  go_enter Try.func31, Try.ntmps31
  go_wp2_with fail
  go_loopw [4] (fun i wr => ∃ k m q, i = .int .i64 (k : Nat) ∧ k ≤ 10 ∧ m ≤ n + 10 * k ∧ Bd q ∧ Net w wr B rb m q)
    (fun i _ => 10 - (intOf i).toNat)
  case atStart =>
    refine ⟨0, n, pzero, rfl, by omega, by omega, bd_zero, (h.alloc _).alloc _, ?_, (C5.made w pzero _).alloc _, grown_alloc (grown_alloc (grown_refl _ _) _) _, hlt⟩
    have hc := C5.made (w.alloc (.cells #[.int .i64 pzero.s, .int .i64 pzero.t, .int .i64 pzero.r, .int .i64 pzero.x, .int .i64 pzero.d] 24)) pzero 24
    simp at hc
    exact hc
  case round =>
    obtain ⟨k, m, q, rfl, hk, hm, hq, hN⟩ := hrel
    obtain ⟨wo, rfl⟩ : ∃ wo : World, wo = wr := ⟨_, rfl⟩
    go_wp2_with fail
    refine (net_pick hN (by omega) 10 (by omega) (by omega)).mono ?_
    rintro e w1 ⟨v, rfl, hv0, hv1, hN⟩
    by_cases hkv : (k : Int) < v
    · go_wp2_with fail
      refine (net_pick hN (by omega) 7 (by omega) (by omega)).mono ?_
      rintro e w2 ⟨u, rfl, hu0, hu1, hN⟩
      obtain ⟨⟨c0, c1, c2, c3, c4⟩, cf⟩ := hN.c5
      rcases (show u = 0 ∨ u = 1 ∨ u = 2 ∨ u = 3 ∨ u = 4 ∨ u = 5 ∨ u = 6 from by omega) with rfl | rfl | rfl | rfl | rfl | rfl | rfl
      · go_upto_region 8 with fail
        go_cut [5, 6] (fun s5 s6 wx => ∃ x q1 y m1, s5 = .pointer (some ⟨x, 0, none⟩) ∧ s6 = .bool y ∧ Bd q1 ∧ m1 ≤ n + 10 * k + 9 ∧ NetX w wx B rb m1 q x q1)
        case first =>
          go_region_held3 (fun w' => (w'.cell? ⟨w.heap.size + 1, 0, none⟩ = some (.int .i64 q.s) ∧ w'.cell? ⟨w.heap.size + 1, 1, none⟩ = some (.int .i64 q.t) ∧ w'.cell? ⟨w.heap.size + 1, 2, none⟩ = some (.int .i64 q.r) ∧ w'.cell? ⟨w.heap.size + 1, 3, none⟩ = some (.int .i64 q.x) ∧ w'.cell? ⟨w.heap.size + 1, 4, none⟩ = some (.int .i64 q.d)))
            (first | (with_reducible exact hN.cells) | (with_reducible exact hX.cells) | (with_reducible exact hN.drew.cells) | (with_reducible exact (hN.alloc _).cells) | (with_reducible exact (hN.alloc _).drew.cells) | (with_reducible exact (hX.stored _).cells) | fail)
            (first
              | (go_at_call 34; (with_reducible refine (net_pick hN (by omega) _ (by omega) (by omega)).mono ?_); rintro e wx ⟨y, rfl, hy0, hy1, hN⟩)
              | (go_at_call 34; (with_reducible refine (net_pick hN.drew (by omega) _ (by omega) (by omega)).mono ?_); rintro e wx ⟨y, rfl, hy0, hy1, hN⟩)
              | (go_at_call 34; (with_reducible refine (netX_pick hX (by omega) _ (by omega) (by omega)).mono ?_); rintro e wx ⟨y, rfl, hy0, hy1, hX⟩; obtain ⟨⟨x0, x1, x2, x3, x4⟩, xf⟩ := hX.c5)
              | (go_at_call 34; (with_reducible refine (netX_pick (hN.makes0 _) (by omega) _ (by omega) (by omega)).mono ?_); rintro e wx ⟨y, rfl, hy0, hy1, hX⟩; obtain ⟨⟨x0, x1, x2, x3, x4⟩, xf⟩ := hX.c5)
              | (go_at_call 34; (with_reducible refine (netX_pick (hN.makes0 _).drew (by omega) _ (by omega) (by omega)).mono ?_); rintro e wx ⟨y, rfl, hy0, hy1, hX⟩; obtain ⟨⟨x0, x1, x2, x3, x4⟩, xf⟩ := hX.c5)
              | (go_at_call 13; (with_reducible refine (net_gives hN (probe_gives hq _ _ _ _)).mono ?_); rintro e wx ⟨q1, b1, hq1, rfl, hN⟩)
              | (go_at_call 13; (with_reducible refine (netX_gives hX (probe_gives hq _ _ _ _)).mono ?_); rintro e wx ⟨q1, b1, hq1, rfl, hX⟩; obtain ⟨⟨x0, x1, x2, x3, x4⟩, xf⟩ := hX.c5)
              | (go_at_call 13; (with_reducible refine (netX_gives (hN.makes0 _) (probe_gives hq _ _ _ _)).mono ?_); rintro e wx ⟨q1, b1, hq1, rfl, hX⟩; obtain ⟨⟨x0, x1, x2, x3, x4⟩, xf⟩ := hX.c5))
          all_goals go_wp2_with fail
          all_goals
            go_meet
            refine ⟨_, q1, b1, m + 1 + 1 + 1 + 1 + 1, rfl, rfl, hq1, by omega, ?_⟩
            first
              | (with_reducible exact hN.makes q1 _)
              | (with_reducible exact hX.stored q1)
        case rest =>
          obtain ⟨x, q1, y, m1, rfl, rfl, hq1, hm1, hX⟩ := hcut
          obtain ⟨⟨x0, x1, x2, x3, x4⟩, xf⟩ := hX.c5
          obtain ⟨⟨c0, c1, c2, c3, c4⟩, cf⟩ := hX.net.c5
          go_wp2_with fail
          go_roundw
          case rel => exact ⟨k + 1, m1, q1, by go_num, by omega, by omega, hq1, hX.net.set q1⟩
          case measure => simp [intOf]; omega
      · go_upto_region 8 with fail
        go_cut [5, 6] (fun s5 s6 wx => ∃ x q1 y m1, s5 = .pointer (some ⟨x, 0, none⟩) ∧ s6 = .bool y ∧ Bd q1 ∧ m1 ≤ n + 10 * k + 9 ∧ NetX w wx B rb m1 q x q1)
        case first =>
          go_region_held3 (fun w' => (w'.cell? ⟨w.heap.size + 1, 0, none⟩ = some (.int .i64 q.s) ∧ w'.cell? ⟨w.heap.size + 1, 1, none⟩ = some (.int .i64 q.t) ∧ w'.cell? ⟨w.heap.size + 1, 2, none⟩ = some (.int .i64 q.r) ∧ w'.cell? ⟨w.heap.size + 1, 3, none⟩ = some (.int .i64 q.x) ∧ w'.cell? ⟨w.heap.size + 1, 4, none⟩ = some (.int .i64 q.d)))
            (first | (with_reducible exact hN.cells) | (with_reducible exact hX.cells) | (with_reducible exact hN.drew.cells) | (with_reducible exact (hN.alloc _).cells) | (with_reducible exact (hN.alloc _).drew.cells) | (with_reducible exact (hX.stored _).cells) | fail)
            (first
              | (go_at_call 34; (with_reducible refine (net_pick hN (by omega) _ (by omega) (by omega)).mono ?_); rintro e wx ⟨y, rfl, hy0, hy1, hN⟩)
              | (go_at_call 34; (with_reducible refine (net_pick hN.drew (by omega) _ (by omega) (by omega)).mono ?_); rintro e wx ⟨y, rfl, hy0, hy1, hN⟩)
              | (go_at_call 34; (with_reducible refine (netX_pick hX (by omega) _ (by omega) (by omega)).mono ?_); rintro e wx ⟨y, rfl, hy0, hy1, hX⟩; obtain ⟨⟨x0, x1, x2, x3, x4⟩, xf⟩ := hX.c5)
              | (go_at_call 34; (with_reducible refine (netX_pick (hN.makes0 _) (by omega) _ (by omega) (by omega)).mono ?_); rintro e wx ⟨y, rfl, hy0, hy1, hX⟩; obtain ⟨⟨x0, x1, x2, x3, x4⟩, xf⟩ := hX.c5)
              | (go_at_call 34; (with_reducible refine (netX_pick (hN.makes0 _).drew (by omega) _ (by omega) (by omega)).mono ?_); rintro e wx ⟨y, rfl, hy0, hy1, hX⟩; obtain ⟨⟨x0, x1, x2, x3, x4⟩, xf⟩ := hX.c5)
              | (go_at_call 13; (with_reducible refine (net_gives hN (probe_gives hq _ _ _ _)).mono ?_); rintro e wx ⟨q1, b1, hq1, rfl, hN⟩)
              | (go_at_call 13; (with_reducible refine (netX_gives hX (probe_gives hq _ _ _ _)).mono ?_); rintro e wx ⟨q1, b1, hq1, rfl, hX⟩; obtain ⟨⟨x0, x1, x2, x3, x4⟩, xf⟩ := hX.c5)
              | (go_at_call 13; (with_reducible refine (netX_gives (hN.makes0 _) (probe_gives hq _ _ _ _)).mono ?_); rintro e wx ⟨q1, b1, hq1, rfl, hX⟩; obtain ⟨⟨x0, x1, x2, x3, x4⟩, xf⟩ := hX.c5))
          all_goals go_wp2_with fail
          all_goals
            go_meet
            refine ⟨_, q1, b1, m + 1 + 1 + 1 + 1 + 1, rfl, rfl, hq1, by omega, ?_⟩
            first
              | (with_reducible exact hN.makes q1 _)
              | (with_reducible exact hX.stored q1)
        case rest =>
          obtain ⟨x, q1, y, m1, rfl, rfl, hq1, hm1, hX⟩ := hcut
          obtain ⟨⟨x0, x1, x2, x3, x4⟩, xf⟩ := hX.c5
          obtain ⟨⟨c0, c1, c2, c3, c4⟩, cf⟩ := hX.net.c5
          go_wp2_with fail
          go_roundw
          case rel => exact ⟨k + 1, m1, q1, by go_num, by omega, by omega, hq1, hX.net.set q1⟩
          case measure => simp [intOf]; omega
      · go_upto_region 11 with fail
        go_cut [7, 8] (fun s5 s6 wx => ∃ x q1 y m1, s5 = .pointer (some ⟨x, 0, none⟩) ∧ s6 = .bool y ∧ Bd q1 ∧ m1 ≤ n + 10 * k + 9 ∧ NetX w wx B rb m1 q x q1)
        case first =>
          go_region_held3 (fun w' => (w'.cell? ⟨w.heap.size + 1, 0, none⟩ = some (.int .i64 q.s) ∧ w'.cell? ⟨w.heap.size + 1, 1, none⟩ = some (.int .i64 q.t) ∧ w'.cell? ⟨w.heap.size + 1, 2, none⟩ = some (.int .i64 q.r) ∧ w'.cell? ⟨w.heap.size + 1, 3, none⟩ = some (.int .i64 q.x) ∧ w'.cell? ⟨w.heap.size + 1, 4, none⟩ = some (.int .i64 q.d)))
            (first | (with_reducible exact hN.cells) | (with_reducible exact hX.cells) | (with_reducible exact hN.drew.cells) | (with_reducible exact (hN.alloc _).cells) | (with_reducible exact (hN.alloc _).drew.cells) | (with_reducible exact (hX.stored _).cells) | fail)
            (first
              | (go_at_call 34; (with_reducible refine (net_pick hN (by omega) _ (by omega) (by omega)).mono ?_); rintro e wx ⟨y, rfl, hy0, hy1, hN⟩)
              | (go_at_call 34; (with_reducible refine (net_pick hN.drew (by omega) _ (by omega) (by omega)).mono ?_); rintro e wx ⟨y, rfl, hy0, hy1, hN⟩)
              | (go_at_call 34; (with_reducible refine (netX_pick hX (by omega) _ (by omega) (by omega)).mono ?_); rintro e wx ⟨y, rfl, hy0, hy1, hX⟩; obtain ⟨⟨x0, x1, x2, x3, x4⟩, xf⟩ := hX.c5)
              | (go_at_call 34; (with_reducible refine (netX_pick (hN.makes0 _) (by omega) _ (by omega) (by omega)).mono ?_); rintro e wx ⟨y, rfl, hy0, hy1, hX⟩; obtain ⟨⟨x0, x1, x2, x3, x4⟩, xf⟩ := hX.c5)
              | (go_at_call 34; (with_reducible refine (netX_pick (hN.makes0 _).drew (by omega) _ (by omega) (by omega)).mono ?_); rintro e wx ⟨y, rfl, hy0, hy1, hX⟩; obtain ⟨⟨x0, x1, x2, x3, x4⟩, xf⟩ := hX.c5)
              | (go_at_call 21; (with_reducible refine (net_gives hN (receive_gives hq _ _)).mono ?_); rintro e wx ⟨q1, b1, hq1, rfl, hN⟩)
              | (go_at_call 21; (with_reducible refine (netX_gives hX (receive_gives hq _ _)).mono ?_); rintro e wx ⟨q1, b1, hq1, rfl, hX⟩; obtain ⟨⟨x0, x1, x2, x3, x4⟩, xf⟩ := hX.c5)
              | (go_at_call 21; (with_reducible refine (netX_gives (hN.makes0 _) (receive_gives hq _ _)).mono ?_); rintro e wx ⟨q1, b1, hq1, rfl, hX⟩; obtain ⟨⟨x0, x1, x2, x3, x4⟩, xf⟩ := hX.c5))
          all_goals go_wp2_with fail
          all_goals
            go_meet
            refine ⟨_, q1, b1, m + 1 + 1 + 1, rfl, rfl, hq1, by omega, ?_⟩
            first
              | (with_reducible exact hN.makes q1 _)
              | (with_reducible exact hX.stored q1)
        case rest =>
          obtain ⟨x, q1, y, m1, rfl, rfl, hq1, hm1, hX⟩ := hcut
          obtain ⟨⟨x0, x1, x2, x3, x4⟩, xf⟩ := hX.c5
          obtain ⟨⟨c0, c1, c2, c3, c4⟩, cf⟩ := hX.net.c5
          go_wp2_with fail
          go_roundw
          case rel => exact ⟨k + 1, m1, q1, by go_num, by omega, by omega, hq1, hX.net.set q1⟩
          case measure => simp [intOf]; omega
      · go_upto_region 15 with fail
        go_cut [9, 10] (fun s5 s6 wx => ∃ x q1 y m1, s5 = .pointer (some ⟨x, 0, none⟩) ∧ s6 = .bool y ∧ Bd q1 ∧ m1 ≤ n + 10 * k + 9 ∧ NetX w wx B rb m1 q x q1)
        case first =>
          go_region_held3 (fun w' => (w'.cell? ⟨w.heap.size + 1, 0, none⟩ = some (.int .i64 q.s) ∧ w'.cell? ⟨w.heap.size + 1, 1, none⟩ = some (.int .i64 q.t) ∧ w'.cell? ⟨w.heap.size + 1, 2, none⟩ = some (.int .i64 q.r) ∧ w'.cell? ⟨w.heap.size + 1, 3, none⟩ = some (.int .i64 q.x) ∧ w'.cell? ⟨w.heap.size + 1, 4, none⟩ = some (.int .i64 q.d)))
            (first | (with_reducible exact hN.cells) | (with_reducible exact hX.cells) | (with_reducible exact hN.drew.cells) | (with_reducible exact (hN.alloc _).cells) | (with_reducible exact (hN.alloc _).drew.cells) | (with_reducible exact (hX.stored _).cells) | fail)
            (first
              | (go_at_call 34; (with_reducible refine (net_pick hN (by omega) _ (by omega) (by omega)).mono ?_); rintro e wx ⟨y, rfl, hy0, hy1, hN⟩)
              | (go_at_call 34; (with_reducible refine (net_pick hN.drew (by omega) _ (by omega) (by omega)).mono ?_); rintro e wx ⟨y, rfl, hy0, hy1, hN⟩)
              | (go_at_call 34; (with_reducible refine (netX_pick hX (by omega) _ (by omega) (by omega)).mono ?_); rintro e wx ⟨y, rfl, hy0, hy1, hX⟩; obtain ⟨⟨x0, x1, x2, x3, x4⟩, xf⟩ := hX.c5)
              | (go_at_call 34; (with_reducible refine (netX_pick (hN.makes0 _) (by omega) _ (by omega) (by omega)).mono ?_); rintro e wx ⟨y, rfl, hy0, hy1, hX⟩; obtain ⟨⟨x0, x1, x2, x3, x4⟩, xf⟩ := hX.c5)
              | (go_at_call 34; (with_reducible refine (netX_pick (hN.makes0 _).drew (by omega) _ (by omega) (by omega)).mono ?_); rintro e wx ⟨y, rfl, hy0, hy1, hX⟩; obtain ⟨⟨x0, x1, x2, x3, x4⟩, xf⟩ := hX.c5)
              | (go_at_call 25; (with_reducible refine (net_gives hN (send_gives hq _ _)).mono ?_); rintro e wx ⟨q1, b1, hq1, rfl, hN⟩)
              | (go_at_call 25; (with_reducible refine (netX_gives hX (send_gives hq _ _)).mono ?_); rintro e wx ⟨q1, b1, hq1, rfl, hX⟩; obtain ⟨⟨x0, x1, x2, x3, x4⟩, xf⟩ := hX.c5)
              | (go_at_call 25; (with_reducible refine (netX_gives (hN.makes0 _) (send_gives hq _ _)).mono ?_); rintro e wx ⟨q1, b1, hq1, rfl, hX⟩; obtain ⟨⟨x0, x1, x2, x3, x4⟩, xf⟩ := hX.c5))
          all_goals go_wp2_with fail
          all_goals
            go_meet
            refine ⟨_, q1, b1, m + 1 + 1 + 1, rfl, rfl, hq1, by omega, ?_⟩
            first
              | (with_reducible exact hN.makes q1 _)
              | (with_reducible exact hX.stored q1)
        case rest =>
          obtain ⟨x, q1, y, m1, rfl, rfl, hq1, hm1, hX⟩ := hcut
          obtain ⟨⟨x0, x1, x2, x3, x4⟩, xf⟩ := hX.c5
          obtain ⟨⟨c0, c1, c2, c3, c4⟩, cf⟩ := hX.net.c5
          go_wp2_with fail
          go_roundw
          case rel => exact ⟨k + 1, m1, q1, by go_num, by omega, by omega, hq1, hX.net.set q1⟩
          case measure => simp [intOf]; omega
      · go_upto_region 15 with fail
        go_cut [9, 10] (fun s5 s6 wx => ∃ x q1 y m1, s5 = .pointer (some ⟨x, 0, none⟩) ∧ s6 = .bool y ∧ Bd q1 ∧ m1 ≤ n + 10 * k + 9 ∧ NetX w wx B rb m1 q x q1)
        case first =>
          go_region_held3 (fun w' => (w'.cell? ⟨w.heap.size + 1, 0, none⟩ = some (.int .i64 q.s) ∧ w'.cell? ⟨w.heap.size + 1, 1, none⟩ = some (.int .i64 q.t) ∧ w'.cell? ⟨w.heap.size + 1, 2, none⟩ = some (.int .i64 q.r) ∧ w'.cell? ⟨w.heap.size + 1, 3, none⟩ = some (.int .i64 q.x) ∧ w'.cell? ⟨w.heap.size + 1, 4, none⟩ = some (.int .i64 q.d)))
            (first | (with_reducible exact hN.cells) | (with_reducible exact hX.cells) | (with_reducible exact hN.drew.cells) | (with_reducible exact (hN.alloc _).cells) | (with_reducible exact (hN.alloc _).drew.cells) | (with_reducible exact (hX.stored _).cells) | fail)
            (first
              | (go_at_call 34; (with_reducible refine (net_pick hN (by omega) _ (by omega) (by omega)).mono ?_); rintro e wx ⟨y, rfl, hy0, hy1, hN⟩)
              | (go_at_call 34; (with_reducible refine (net_pick hN.drew (by omega) _ (by omega) (by omega)).mono ?_); rintro e wx ⟨y, rfl, hy0, hy1, hN⟩)
              | (go_at_call 34; (with_reducible refine (netX_pick hX (by omega) _ (by omega) (by omega)).mono ?_); rintro e wx ⟨y, rfl, hy0, hy1, hX⟩; obtain ⟨⟨x0, x1, x2, x3, x4⟩, xf⟩ := hX.c5)
              | (go_at_call 34; (with_reducible refine (netX_pick (hN.makes0 _) (by omega) _ (by omega) (by omega)).mono ?_); rintro e wx ⟨y, rfl, hy0, hy1, hX⟩; obtain ⟨⟨x0, x1, x2, x3, x4⟩, xf⟩ := hX.c5)
              | (go_at_call 34; (with_reducible refine (netX_pick (hN.makes0 _).drew (by omega) _ (by omega) (by omega)).mono ?_); rintro e wx ⟨y, rfl, hy0, hy1, hX⟩; obtain ⟨⟨x0, x1, x2, x3, x4⟩, xf⟩ := hX.c5)
              | (go_at_call 25; (with_reducible refine (net_gives hN (send_gives hq _ _)).mono ?_); rintro e wx ⟨q1, b1, hq1, rfl, hN⟩)
              | (go_at_call 25; (with_reducible refine (netX_gives hX (send_gives hq _ _)).mono ?_); rintro e wx ⟨q1, b1, hq1, rfl, hX⟩; obtain ⟨⟨x0, x1, x2, x3, x4⟩, xf⟩ := hX.c5)
              | (go_at_call 25; (with_reducible refine (netX_gives (hN.makes0 _) (send_gives hq _ _)).mono ?_); rintro e wx ⟨q1, b1, hq1, rfl, hX⟩; obtain ⟨⟨x0, x1, x2, x3, x4⟩, xf⟩ := hX.c5))
          all_goals go_wp2_with fail
          all_goals
            go_meet
            refine ⟨_, q1, b1, m + 1 + 1 + 1, rfl, rfl, hq1, by omega, ?_⟩
            first
              | (with_reducible exact hN.makes q1 _)
              | (with_reducible exact hX.stored q1)
        case rest =>
          obtain ⟨x, q1, y, m1, rfl, rfl, hq1, hm1, hX⟩ := hcut
          obtain ⟨⟨x0, x1, x2, x3, x4⟩, xf⟩ := hX.c5
          obtain ⟨⟨c0, c1, c2, c3, c4⟩, cf⟩ := hX.net.c5
          go_wp2_with fail
          go_roundw
          case rel => exact ⟨k + 1, m1, q1, by go_num, by omega, by omega, hq1, hX.net.set q1⟩
          case measure => simp [intOf]; omega
      · go_upto_region 18 with fail
        go_cut [11, 12] (fun s5 s6 wx => ∃ x q1 y m1, s5 = .pointer (some ⟨x, 0, none⟩) ∧ s6 = .bool y ∧ Bd q1 ∧ m1 ≤ n + 10 * k + 9 ∧ NetX w wx B rb m1 q x q1)
        case first =>
          go_region_held3 (fun w' => (w'.cell? ⟨w.heap.size + 1, 0, none⟩ = some (.int .i64 q.s) ∧ w'.cell? ⟨w.heap.size + 1, 1, none⟩ = some (.int .i64 q.t) ∧ w'.cell? ⟨w.heap.size + 1, 2, none⟩ = some (.int .i64 q.r) ∧ w'.cell? ⟨w.heap.size + 1, 3, none⟩ = some (.int .i64 q.x) ∧ w'.cell? ⟨w.heap.size + 1, 4, none⟩ = some (.int .i64 q.d)))
            (first | (with_reducible exact hN.cells) | (with_reducible exact hX.cells) | (with_reducible exact hN.drew.cells) | (with_reducible exact (hN.alloc _).cells) | (with_reducible exact (hN.alloc _).drew.cells) | (with_reducible exact (hX.stored _).cells) | fail)
            (first
              | (go_at_call 34; (with_reducible refine (net_pick hN (by omega) _ (by omega) (by omega)).mono ?_); rintro e wx ⟨y, rfl, hy0, hy1, hN⟩)
              | (go_at_call 34; (with_reducible refine (net_pick hN.drew (by omega) _ (by omega) (by omega)).mono ?_); rintro e wx ⟨y, rfl, hy0, hy1, hN⟩)
              | (go_at_call 34; (with_reducible refine (netX_pick hX (by omega) _ (by omega) (by omega)).mono ?_); rintro e wx ⟨y, rfl, hy0, hy1, hX⟩; obtain ⟨⟨x0, x1, x2, x3, x4⟩, xf⟩ := hX.c5)
              | (go_at_call 34; (with_reducible refine (netX_pick (hN.makes0 _) (by omega) _ (by omega) (by omega)).mono ?_); rintro e wx ⟨y, rfl, hy0, hy1, hX⟩; obtain ⟨⟨x0, x1, x2, x3, x4⟩, xf⟩ := hX.c5)
              | (go_at_call 34; (with_reducible refine (netX_pick (hN.makes0 _).drew (by omega) _ (by omega) (by omega)).mono ?_); rintro e wx ⟨y, rfl, hy0, hy1, hX⟩; obtain ⟨⟨x0, x1, x2, x3, x4⟩, xf⟩ := hX.c5)
              | (go_at_call 39; (with_reducible refine (net_gives hN (answer_gives hq _ _)).mono ?_); rintro e wx ⟨q1, b1, hq1, rfl, hN⟩)
              | (go_at_call 39; (with_reducible refine (netX_gives hX (answer_gives hq _ _)).mono ?_); rintro e wx ⟨q1, b1, hq1, rfl, hX⟩; obtain ⟨⟨x0, x1, x2, x3, x4⟩, xf⟩ := hX.c5)
              | (go_at_call 39; (with_reducible refine (netX_gives (hN.makes0 _) (answer_gives hq _ _)).mono ?_); rintro e wx ⟨q1, b1, hq1, rfl, hX⟩; obtain ⟨⟨x0, x1, x2, x3, x4⟩, xf⟩ := hX.c5))
          all_goals go_wp2_with fail
          all_goals
            go_meet
            refine ⟨_, q1, b1, m + 1 + 1 + 1, rfl, rfl, hq1, by omega, ?_⟩
            first
              | (with_reducible exact hN.makes q1 _)
              | (with_reducible exact hX.stored q1)
        case rest =>
          obtain ⟨x, q1, y, m1, rfl, rfl, hq1, hm1, hX⟩ := hcut
          obtain ⟨⟨x0, x1, x2, x3, x4⟩, xf⟩ := hX.c5
          obtain ⟨⟨c0, c1, c2, c3, c4⟩, cf⟩ := hX.net.c5
          go_wp2_with fail
          go_roundw
          case rel => exact ⟨k + 1, m1, q1, by go_num, by omega, by omega, hq1, hX.net.set q1⟩
          case measure => simp [intOf]; omega
      · go_wp2_with fail
        refine (net_pick hN (by omega) 3 (by omega) (by omega)).mono ?_
        rintro e w3 ⟨y, rfl, hy0, hy1, hN⟩
        by_cases hy : y = 0
        · subst hy
          obtain ⟨⟨c0, c1, c2, c3, c4⟩, cf⟩ := hN.c5
          go_wp2_with fail
          go_region_with (first
            | (go_at_call 34; (with_reducible refine (net_pick hN (by omega) _ (by omega) (by omega)).mono ?_); rintro e wx ⟨y, rfl, hy0, hy1, hN⟩; obtain ⟨⟨c0, c1, c2, c3, c4⟩, cf⟩ := hN.c5)
            | (go_at_call 34; (with_reducible refine (net_pick hN.drew (by omega) _ (by omega) (by omega)).mono ?_); rintro e wx ⟨y, rfl, hy0, hy1, hN⟩; obtain ⟨⟨c0, c1, c2, c3, c4⟩, cf⟩ := hN.c5)
            | (go_at_call 17; (with_reducible refine (net_gives1 hN (tick_gives hq _ _)).mono ?_); rintro e wx ⟨q1, hq1, rfl, hN⟩; obtain ⟨⟨c0, c1, c2, c3, c4⟩, cf⟩ := hN.c5))
          all_goals go_wp2_with fail
          all_goals
            go_roundw
            case rel => exact ⟨k + 1, _, q1, by go_num, by omega, by omega, hq1, hN.set q1⟩
            case measure => simp [intOf]; omega
        · have hy' : (y == 0) = false := by simp; omega
          go_wp2_with fail
          go_roundw
          case rel => exact ⟨k + 1, _, q, by go_num, by omega, by omega, hq, hN⟩
          case measure => simp [intOf]; omega
    · go_wp2_with fail
      refine (net_pick hN (by omega) 20 (by omega) (by omega)).mono ?_
      rintro e w2 ⟨u, rfl, hu0, hu1, hN⟩
      rcases (show u = 0 ∨ u = 1 ∨ u = 2 ∨ u = 3 ∨ u = 4 ∨ u = 5 ∨ 6 ≤ u from by omega) with rfl | rfl | rfl | rfl | rfl | rfl | hu6
      · go_wp2_with fail
        refine (net_pick hN (by omega) 7 (by omega) (by omega)).mono ?_
        rintro e w3 ⟨y, rfl, hy0, hy1, hN⟩
        obtain ⟨⟨c0, c1, c2, c3, c4⟩, cf⟩ := hN.c5
        obtain ⟨⟨r0, r1, r2, r3, r4⟩, rf⟩ := hN.res
        go_wp2_with fail
        refine bodyPost_ret (v := .agg #[.int .i64 ({ q with s := y - 1 } : Pth).s, .int .i64 ({ q with s := y - 1 } : Pth).t, .int .i64 ({ q with s := y - 1 } : Pth).r, .int .i64 ({ q with s := y - 1 } : Pth).x, .int .i64 ({ q with s := y - 1 } : Pth).d]) (by simp [results, Try.results31, go_sem, r0, r1, r2, r3, r4]) rfl ⟨{ q with s := y - 1 }, rfl, by unfold Bd at hq ⊢; dsimp only; omega, ((hN.set0 (y - 1)).ret { q with s := y - 1 }).1.mono (by omega), ((hN.set0 (y - 1)).ret { q with s := y - 1 }).2⟩
      · go_wp2_with fail
        refine (net_num hN (token_any _ rb _ hN.rd (by omega))).mono ?_
        rintro e w3 ⟨y, rfl, hy0, hy1, hN⟩
        obtain ⟨⟨c0, c1, c2, c3, c4⟩, cf⟩ := hN.c5
        obtain ⟨⟨r0, r1, r2, r3, r4⟩, rf⟩ := hN.res
        go_wp2_with fail
        refine bodyPost_ret (v := .agg #[.int .i64 ({ q with t := y } : Pth).s, .int .i64 ({ q with t := y } : Pth).t, .int .i64 ({ q with t := y } : Pth).r, .int .i64 ({ q with t := y } : Pth).x, .int .i64 ({ q with t := y } : Pth).d]) (by simp [results, Try.results31, go_sem, r0, r1, r2, r3, r4]) rfl ⟨{ q with t := y }, rfl, by unfold Bd at hq ⊢; dsimp only; omega, ((hN.set1 y).ret { q with t := y }).1.mono (by omega), ((hN.set1 y).ret { q with t := y }).2⟩
      · have hsz := hN.size
        have hrl := hN.2.2.2.2
        go_wp2_with fail
        refine (pick_any _ rb _ 4 (hN.rd.alloc _) (by omega) (by omega) (by omega)).mono ?_
        rintro e w3 ⟨y, rfl, hy0, hy1, hr, hg⟩
        have l0 := far_cell hg (b := w2.heap.size) (j := 0) (World.cell?_alloc_new _ _ _ _) (by omega)
        have l1 := far_cell hg (b := w2.heap.size) (j := 1) (World.cell?_alloc_new _ _ _ _) (by omega)
        have l2 := far_cell hg (b := w2.heap.size) (j := 2) (World.cell?_alloc_new _ _ _ _) (by omega)
        have l3 := far_cell hg (b := w2.heap.size) (j := 3) (World.cell?_alloc_new _ _ _ _) (by omega)
        have hN := (hN.alloc _).pick hr hg
        obtain ⟨⟨c0, c1, c2, c3, c4⟩, cf⟩ := hN.c5
        obtain ⟨⟨r0, r1, r2, r3, r4⟩, rf⟩ := hN.res
        rcases (show y = 0 ∨ y = 1 ∨ y = 2 ∨ y = 3 from by omega) with rfl | rfl | rfl | rfl
        · go_wp2_with fail
          refine bodyPost_ret (v := .agg #[.int .i64 ({ q with r := (-1) } : Pth).s, .int .i64 ({ q with r := (-1) } : Pth).t, .int .i64 ({ q with r := (-1) } : Pth).r, .int .i64 ({ q with r := (-1) } : Pth).x, .int .i64 ({ q with r := (-1) } : Pth).d]) (by simp [results, Try.results31, go_sem, r0, r1, r2, r3, r4]) rfl ⟨{ q with r := (-1) }, rfl, by unfold Bd at hq ⊢; dsimp only; omega, ((hN.set2 (-1)).ret { q with r := (-1) }).1.mono (by omega), ((hN.set2 (-1)).ret { q with r := (-1) }).2⟩
        · go_wp2_with fail
          refine bodyPost_ret (v := .agg #[.int .i64 ({ q with r := 9990 } : Pth).s, .int .i64 ({ q with r := 9990 } : Pth).t, .int .i64 ({ q with r := 9990 } : Pth).r, .int .i64 ({ q with r := 9990 } : Pth).x, .int .i64 ({ q with r := 9990 } : Pth).d]) (by simp [results, Try.results31, go_sem, r0, r1, r2, r3, r4]) rfl ⟨{ q with r := 9990 }, rfl, by unfold Bd at hq ⊢; dsimp only; omega, ((hN.set2 9990).ret { q with r := 9990 }).1.mono (by omega), ((hN.set2 9990).ret { q with r := 9990 }).2⟩
        · go_wp2_with fail
          refine bodyPost_ret (v := .agg #[.int .i64 ({ q with r := 9999 } : Pth).s, .int .i64 ({ q with r := 9999 } : Pth).t, .int .i64 ({ q with r := 9999 } : Pth).r, .int .i64 ({ q with r := 9999 } : Pth).x, .int .i64 ({ q with r := 9999 } : Pth).d]) (by simp [results, Try.results31, go_sem, r0, r1, r2, r3, r4]) rfl ⟨{ q with r := 9999 }, rfl, by unfold Bd at hq ⊢; dsimp only; omega, ((hN.set2 9999).ret { q with r := 9999 }).1.mono (by omega), ((hN.set2 9999).ret { q with r := 9999 }).2⟩
        · go_wp2_with fail
          refine bodyPost_ret (v := .agg #[.int .i64 ({ q with r := 10000 } : Pth).s, .int .i64 ({ q with r := 10000 } : Pth).t, .int .i64 ({ q with r := 10000 } : Pth).r, .int .i64 ({ q with r := 10000 } : Pth).x, .int .i64 ({ q with r := 10000 } : Pth).d]) (by simp [results, Try.results31, go_sem, r0, r1, r2, r3, r4]) rfl ⟨{ q with r := 10000 }, rfl, by unfold Bd at hq ⊢; dsimp only; omega, ((hN.set2 10000).ret { q with r := 10000 }).1.mono (by omega), ((hN.set2 10000).ret { q with r := 10000 }).2⟩
      · have hsz := hN.size
        have hrl := hN.2.2.2.2
        go_wp2_with fail
        refine (pick_any _ rb _ 4 (hN.rd.alloc _) (by omega) (by omega) (by omega)).mono ?_
        rintro e w3 ⟨y, rfl, hy0, hy1, hr, hg⟩
        have l0 := far_cell hg (b := w2.heap.size) (j := 0) (World.cell?_alloc_new _ _ _ _) (by omega)
        have l1 := far_cell hg (b := w2.heap.size) (j := 1) (World.cell?_alloc_new _ _ _ _) (by omega)
        have l2 := far_cell hg (b := w2.heap.size) (j := 2) (World.cell?_alloc_new _ _ _ _) (by omega)
        have l3 := far_cell hg (b := w2.heap.size) (j := 3) (World.cell?_alloc_new _ _ _ _) (by omega)
        have hN := (hN.alloc _).pick hr hg
        obtain ⟨⟨c0, c1, c2, c3, c4⟩, cf⟩ := hN.c5
        obtain ⟨⟨r0, r1, r2, r3, r4⟩, rf⟩ := hN.res
        rcases (show y = 0 ∨ y = 1 ∨ y = 2 ∨ y = 3 from by omega) with rfl | rfl | rfl | rfl
        · go_wp2_with fail
          refine bodyPost_ret (v := .agg #[.int .i64 ({ q with x := (-1) } : Pth).s, .int .i64 ({ q with x := (-1) } : Pth).t, .int .i64 ({ q with x := (-1) } : Pth).r, .int .i64 ({ q with x := (-1) } : Pth).x, .int .i64 ({ q with x := (-1) } : Pth).d]) (by simp [results, Try.results31, go_sem, r0, r1, r2, r3, r4]) rfl ⟨{ q with x := (-1) }, rfl, by unfold Bd at hq ⊢; dsimp only; omega, ((hN.set3 (-1)).ret { q with x := (-1) }).1.mono (by omega), ((hN.set3 (-1)).ret { q with x := (-1) }).2⟩
        · go_wp2_with fail
          refine bodyPost_ret (v := .agg #[.int .i64 ({ q with x := 9990 } : Pth).s, .int .i64 ({ q with x := 9990 } : Pth).t, .int .i64 ({ q with x := 9990 } : Pth).r, .int .i64 ({ q with x := 9990 } : Pth).x, .int .i64 ({ q with x := 9990 } : Pth).d]) (by simp [results, Try.results31, go_sem, r0, r1, r2, r3, r4]) rfl ⟨{ q with x := 9990 }, rfl, by unfold Bd at hq ⊢; dsimp only; omega, ((hN.set3 9990).ret { q with x := 9990 }).1.mono (by omega), ((hN.set3 9990).ret { q with x := 9990 }).2⟩
        · go_wp2_with fail
          refine bodyPost_ret (v := .agg #[.int .i64 ({ q with x := 9999 } : Pth).s, .int .i64 ({ q with x := 9999 } : Pth).t, .int .i64 ({ q with x := 9999 } : Pth).r, .int .i64 ({ q with x := 9999 } : Pth).x, .int .i64 ({ q with x := 9999 } : Pth).d]) (by simp [results, Try.results31, go_sem, r0, r1, r2, r3, r4]) rfl ⟨{ q with x := 9999 }, rfl, by unfold Bd at hq ⊢; dsimp only; omega, ((hN.set3 9999).ret { q with x := 9999 }).1.mono (by omega), ((hN.set3 9999).ret { q with x := 9999 }).2⟩
        · go_wp2_with fail
          refine bodyPost_ret (v := .agg #[.int .i64 ({ q with x := 10000 } : Pth).s, .int .i64 ({ q with x := 10000 } : Pth).t, .int .i64 ({ q with x := 10000 } : Pth).r, .int .i64 ({ q with x := 10000 } : Pth).x, .int .i64 ({ q with x := 10000 } : Pth).d]) (by simp [results, Try.results31, go_sem, r0, r1, r2, r3, r4]) rfl ⟨{ q with x := 10000 }, rfl, by unfold Bd at hq ⊢; dsimp only; omega, ((hN.set3 10000).ret { q with x := 10000 }).1.mono (by omega), ((hN.set3 10000).ret { q with x := 10000 }).2⟩
      · have hsz := hN.size
        have hrl := hN.2.2.2.2
        go_wp2_with fail
        refine (pick_any _ rb _ 5 (hN.rd.alloc _) (by omega) (by omega) (by omega)).mono ?_
        rintro e w3 ⟨y, rfl, hy0, hy1, hr, hg⟩
        have l0 := far_cell hg (b := w2.heap.size) (j := 0) (World.cell?_alloc_new _ _ _ _) (by omega)
        have l1 := far_cell hg (b := w2.heap.size) (j := 1) (World.cell?_alloc_new _ _ _ _) (by omega)
        have l2 := far_cell hg (b := w2.heap.size) (j := 2) (World.cell?_alloc_new _ _ _ _) (by omega)
        have l3 := far_cell hg (b := w2.heap.size) (j := 3) (World.cell?_alloc_new _ _ _ _) (by omega)
        have l4 := far_cell hg (b := w2.heap.size) (j := 4) (World.cell?_alloc_new _ _ _ _) (by omega)
        have hN := (hN.alloc _).pick hr hg
        obtain ⟨⟨c0, c1, c2, c3, c4⟩, cf⟩ := hN.c5
        obtain ⟨⟨r0, r1, r2, r3, r4⟩, rf⟩ := hN.res
        rcases (show y = 0 ∨ y = 1 ∨ y = 2 ∨ y = 3 ∨ y = 4 from by omega) with rfl | rfl | rfl | rfl | rfl
        · go_wp2_with fail
          refine bodyPost_ret (v := .agg #[.int .i64 ({ q with d := (-1) } : Pth).s, .int .i64 ({ q with d := (-1) } : Pth).t, .int .i64 ({ q with d := (-1) } : Pth).r, .int .i64 ({ q with d := (-1) } : Pth).x, .int .i64 ({ q with d := (-1) } : Pth).d]) (by simp [results, Try.results31, go_sem, r0, r1, r2, r3, r4]) rfl ⟨{ q with d := (-1) }, rfl, by unfold Bd at hq ⊢; dsimp only; omega, ((hN.set4 (-1)).ret { q with d := (-1) }).1.mono (by omega), ((hN.set4 (-1)).ret { q with d := (-1) }).2⟩
        · go_wp2_with fail
          refine bodyPost_ret (v := .agg #[.int .i64 ({ q with d := 0 } : Pth).s, .int .i64 ({ q with d := 0 } : Pth).t, .int .i64 ({ q with d := 0 } : Pth).r, .int .i64 ({ q with d := 0 } : Pth).x, .int .i64 ({ q with d := 0 } : Pth).d]) (by simp [results, Try.results31, go_sem, r0, r1, r2, r3, r4]) rfl ⟨{ q with d := 0 }, rfl, by unfold Bd at hq ⊢; dsimp only; omega, ((hN.set4 0).ret { q with d := 0 }).1.mono (by omega), ((hN.set4 0).ret { q with d := 0 }).2⟩
        · go_wp2_with fail
          refine bodyPost_ret (v := .agg #[.int .i64 ({ q with d := 1 } : Pth).s, .int .i64 ({ q with d := 1 } : Pth).t, .int .i64 ({ q with d := 1 } : Pth).r, .int .i64 ({ q with d := 1 } : Pth).x, .int .i64 ({ q with d := 1 } : Pth).d]) (by simp [results, Try.results31, go_sem, r0, r1, r2, r3, r4]) rfl ⟨{ q with d := 1 }, rfl, by unfold Bd at hq ⊢; dsimp only; omega, ((hN.set4 1).ret { q with d := 1 }).1.mono (by omega), ((hN.set4 1).ret { q with d := 1 }).2⟩
        · go_wp2_with fail
          refine bodyPost_ret (v := .agg #[.int .i64 ({ q with d := 1998 } : Pth).s, .int .i64 ({ q with d := 1998 } : Pth).t, .int .i64 ({ q with d := 1998 } : Pth).r, .int .i64 ({ q with d := 1998 } : Pth).x, .int .i64 ({ q with d := 1998 } : Pth).d]) (by simp [results, Try.results31, go_sem, r0, r1, r2, r3, r4]) rfl ⟨{ q with d := 1998 }, rfl, by unfold Bd at hq ⊢; dsimp only; omega, ((hN.set4 1998).ret { q with d := 1998 }).1.mono (by omega), ((hN.set4 1998).ret { q with d := 1998 }).2⟩
        · go_wp2_with fail
          refine bodyPost_ret (v := .agg #[.int .i64 ({ q with d := 1999 } : Pth).s, .int .i64 ({ q with d := 1999 } : Pth).t, .int .i64 ({ q with d := 1999 } : Pth).r, .int .i64 ({ q with d := 1999 } : Pth).x, .int .i64 ({ q with d := 1999 } : Pth).d]) (by simp [results, Try.results31, go_sem, r0, r1, r2, r3, r4]) rfl ⟨{ q with d := 1999 }, rfl, by unfold Bd at hq ⊢; dsimp only; omega, ((hN.set4 1999).ret { q with d := 1999 }).1.mono (by omega), ((hN.set4 1999).ret { q with d := 1999 }).2⟩
      · have hrl := hN.2.2.2.2
        obtain ⟨⟨c0, c1, c2, c3, c4⟩, cf⟩ := hN.c5
        obtain ⟨⟨r0, r1, r2, r3, r4⟩, rf⟩ := hN.res
        go_wp2_with fail
        refine bodyPost_ret (v := .agg #[.int .i64 ({ q with s := 4, d := 0 } : Pth).s, .int .i64 ({ q with s := 4, d := 0 } : Pth).t, .int .i64 ({ q with s := 4, d := 0 } : Pth).r, .int .i64 ({ q with s := 4, d := 0 } : Pth).x, .int .i64 ({ q with s := 4, d := 0 } : Pth).d]) (by simp [results, Try.results31, go_sem, r0, r1, r2, r3, r4]) rfl ⟨{ q with s := 4, d := 0 }, rfl, by unfold Bd at hq ⊢; dsimp only; omega, (((hN.set0 4).set4 0).ret { q with s := 4, d := 0 }).1.mono (by omega), (((hN.set0 4).set4 0).ret { q with s := 4, d := 0 }).2⟩
      · obtain ⟨⟨c0, c1, c2, c3, c4⟩, cf⟩ := hN.c5
        obtain ⟨⟨r0, r1, r2, r3, r4⟩, rf⟩ := hN.res
        have n0 : (u == 0) = false := by simp; omega
        have n1 : (u == 1) = false := by simp; omega
        have n2 : (u == 2) = false := by simp; omega
        have n3 : (u == 3) = false := by simp; omega
        have n4 : (u == 4) = false := by simp; omega
        have n5 : (u == 5) = false := by simp; omega
        go_wp2_with fail
        refine bodyPost_ret (v := .agg #[.int .i64 (q : Pth).s, .int .i64 (q : Pth).t, .int .i64 (q : Pth).r, .int .i64 (q : Pth).x, .int .i64 (q : Pth).d]) (by simp [results, Try.results31, go_sem, r0, r1, r2, r3, r4]) rfl ⟨q, rfl, hq, (hN.ret q).1.mono (by omega), (hN.ret q).2⟩

end Go.Proofs.Yteajojhfcllodaa
