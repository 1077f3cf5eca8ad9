/- The operations on lists of identifiers, walked: the program's and the reference's IdsOn, IdsRetire, IdsAssign, IdsMigrate give the plain functions' answers. -/
import Derived.Test.YtobeeakjfkokfabIdsG
namespace Go.Proofs.Ytobeeakjfkokfab
open Go.RowKit

set_option maxHeartbeats 2000000 in
theorem idsOn_i {B S : Nat} (A : Option Addr) (n c : Nat) (L : List Cid) (w : World) (p : Int) (h : IdsIn w B S A n c L) (hn : n ≤ 2000000) :
    Calls Try.prog 20 #[.slice A n c, .int .i64 p] w (fun e w' => e = .returned (.int .i64 (onV L p)) ∧ Below w.heap.size w w') := by
  have hl := h.1
  rcases on_how L p with ⟨HK, E⟩ | ⟨HK, HR, E⟩ | ⟨HK, HR, HI, E⟩ | ⟨HK, HR, k, hk, HI, E⟩
  all_goals (rw [E]; clear E)
  · go_enter Try.func20, Try.ntmps20
    go_wp2_with fail
    refine (valid_i h hn HK.out).mono ?_
    rintro e w1 ⟨rfl, hb1⟩
    go_wp2_with fail
    go_ret
    exact ⟨rfl, (by first | exact hb1 | exact hb1.alloc hb1.size _)⟩
  · go_enter Try.func20, Try.ntmps20
    go_wp2_with fail
    refine (valid_i h hn HK.out).mono ?_
    rintro e w1 ⟨rfl, hb1⟩
    go_wp2_with fail
    refine (within_v HR.out _).mono ?_
    rintro e w2 ⟨rfl, rfl⟩
    go_wp2_with fail
    go_ret
    exact ⟨rfl, (by first | exact hb1 | exact hb1.alloc hb1.size _)⟩
  · go_enter Try.func20, Try.ntmps20
    go_wp2_with fail
    refine (valid_i h hn HK.out).mono ?_
    rintro e w1 ⟨rfl, hb1⟩
    go_wp2_with fail
    refine (within_v HR.out _).mono ?_
    rintro e w2 ⟨rfl, rfl⟩
    go_wp2_with fail
    refine (on_i (h.below hb1) hn HI.out).mono ?_
    rintro e w2 ⟨rfl, hb2⟩
    go_wp2_with fail
    go_ret
    exact ⟨rfl, hb1.trans (hb2.mono hb1.size)⟩
  · go_enter Try.func20, Try.ntmps20
    go_wp2_with fail
    refine (valid_i h hn HK.out).mono ?_
    rintro e w1 ⟨rfl, hb1⟩
    go_wp2_with fail
    refine (within_v HR.out _).mono ?_
    rintro e w2 ⟨rfl, rfl⟩
    go_wp2_with fail
    refine (on_i (h.below hb1) hn HI.out).mono ?_
    rintro e w2 ⟨rfl, hb2⟩
    have HB := hb1.trans (hb2.mono hb1.size)
    obtain ⟨g, rfl, _, _, hgl, _, hc⟩ := (h.below HB).at_ (by omega)
    obtain ⟨d0, d1, d2⟩ := hc k (by omega)
    clear hc
    go_wp2_with fail
    go_ret
    exact ⟨rfl, HB⟩

set_option maxHeartbeats 2000000 in
theorem idsRetire_i {B S : Nat} (A : Option Addr) (n c : Nat) (L : List Cid) (w : World) (p : Int) (h : IdsIn w B S A n c L) (hn : n ≤ 2000000) :
    Calls Try.prog 18 #[.slice A n c, .int .i64 p] w (Got2 w (retire L p)) := by
  have hl := h.1
  rcases retire_how L p with ⟨HK, E⟩ | ⟨HK, HR, E⟩ | ⟨HK, HR, k, rfl, hk, hr, E⟩ | ⟨HK, HR, k, rfl, hk, hr, E⟩
  all_goals (rw [E]; clear E)
  all_goals try rw [hl] at HR
  · go_enter Try.func18, Try.ntmps18
    go_wp2_with fail
    refine (valid_i h hn HK.out).mono ?_
    rintro e w1 ⟨rfl, hb1⟩
    go_wp2_with fail
    go_ret2
    exact ⟨_, _, _, rfl, IdsIn.empty _ _ _, (by first | exact hb1 | exact hb1.alloc hb1.size _)⟩
  · go_enter Try.func18, Try.ntmps18
    go_wp2_with fail
    refine (valid_i h hn HK.out).mono ?_
    rintro e w1 ⟨rfl, hb1⟩
    go_wp2_with fail
    refine (clone_i (h.below hb1) hn).mono ?_
    rintro e w3 ⟨A1, c1, rfl, hI, hb3⟩
    have HB : Below w.heap.size w w3 := hb1.trans (hb3.mono hb1.size)
    go_wp2_with fail
    refine (within_v HR.out _).mono ?_
    rintro e w2 ⟨rfl, rfl⟩
    go_wp2_with fail
    go_ret2
    exact ⟨_, _, _, rfl, hI.mono hb1.size (Nat.le_refl _), HB⟩
  · go_enter Try.func18, Try.ntmps18
    go_wp2_with fail
    refine (valid_i h hn HK.out).mono ?_
    rintro e w1 ⟨rfl, hb1⟩
    go_wp2_with fail
    refine (clone_i (h.below hb1) hn).mono ?_
    rintro e w3 ⟨A1, c1, rfl, hI, hb3⟩
    have HB : Below w.heap.size w w3 := hb1.trans (hb3.mono hb1.size)
    go_wp2_with fail
    refine (within_v HR.out _).mono ?_
    rintro e w2 ⟨rfl, rfl⟩
    obtain ⟨g, rfl, _, _, hgl, _, hc⟩ := (h.below HB).at_ (by omega)
    obtain ⟨d0, d1, d2⟩ := hc k (by omega)
    rw [hr] at d2
    clear hc
    go_wp2_with fail
    go_ret2
    exact ⟨_, _, _, rfl, hI.mono hb1.size (Nat.le_refl _), HB⟩
  · go_enter Try.func18, Try.ntmps18
    go_wp2_with fail
    refine (valid_i h hn HK.out).mono ?_
    rintro e w1 ⟨rfl, hb1⟩
    go_wp2_with fail
    refine (clone_i (h.below hb1) hn).mono ?_
    rintro e w3 ⟨A1, c1, rfl, hI, hb3⟩
    have HB : Below w.heap.size w w3 := hb1.trans (hb3.mono hb1.size)
    go_wp2_with fail
    refine (within_v HR.out _).mono ?_
    rintro e w2 ⟨rfl, rfl⟩
    obtain ⟨g, rfl, _, _, hgl, _, hc⟩ := (h.below HB).at_ (by omega)
    obtain ⟨d0, d1, d2⟩ := hc k (by omega)
    rw [hr] at d2
    clear hc
    obtain ⟨g', rfl, hg1, hg2, hgl', hf, hc'⟩ := hI.at_ (by omega)
    obtain ⟨e0, e1, e2⟩ := hc' k (by omega)
    have f2 := hf (k * 3 + 2)
    clear hc' hf
    go_wp2_with fail
    go_ret2
    exact ⟨_, _, _, rfl, ((hI.storeR (by omega)).mono hb1.size (by simp)), HB.setCell (by show _ ≤ g'; have := hb1.size; omega) _⟩

set_option maxHeartbeats 2000000 in
theorem idsRetire_s {B S : Nat} (A : Option Addr) (n c : Nat) (L : List Cid) (w : World) (p : Int) (h : IdsIn w B S A n c L) (hn : n ≤ 2000000) :
    Calls Try.prog 19 #[.slice A n c, .int .i64 p] w (Got2 w (retire L p)) := by
  have hl := h.1
  rcases retire_how L p with ⟨HK, E⟩ | ⟨HK, HR, E⟩ | ⟨HK, HR, k, rfl, hk, hr, E⟩ | ⟨HK, HR, k, rfl, hk, hr, E⟩
  all_goals (rw [E]; clear E)
  all_goals try rw [hl] at HR
  · go_enter Try.func19, Try.ntmps19
    go_wp2_with fail
    refine (valid_s h hn HK.out).mono ?_
    rintro e w1 ⟨rfl, hb1⟩
    go_wp2_with fail
    go_ret2
    exact ⟨_, _, _, rfl, IdsIn.empty _ _ _, (by first | exact hb1 | exact hb1.alloc hb1.size _)⟩
  · go_enter Try.func19, Try.ntmps19
    go_wp2_with fail
    refine (valid_s h hn HK.out).mono ?_
    rintro e w1 ⟨rfl, hb1⟩
    go_wp2_with (at_builtin; (with_reducible refine wpList_copy_ids _ rfl _ _ rfl rfl (World.ownsRow_lit _ #[] 0 (Nat.le_refl _) (Nat.zero_le _) rfl) (by simp) rfl ((h.below hb1).alloc _) hn ?_); intro A1 c1 w3 hI hgr)
    have hb3 : Below w1.heap.size w1 w3 := ((Below.refl _ w1).alloc (Nat.le_refl _) _).grown hgr (by simp) (by intro k hk; simp at hk; omega)
    have HB : Below w.heap.size w w3 := hb1.trans (hb3.mono hb1.size)
    refine (l6In_v HR.out _).mono ?_
    rintro e w2 ⟨rfl, rfl⟩
    go_wp2_with fail
    go_ret2
    exact ⟨_, _, _, rfl, hI.mono hb1.size (Nat.le_refl _), HB⟩
  · go_enter Try.func19, Try.ntmps19
    go_wp2_with fail
    refine (valid_s h hn HK.out).mono ?_
    rintro e w1 ⟨rfl, hb1⟩
    go_wp2_with (at_builtin; (with_reducible refine wpList_copy_ids _ rfl _ _ rfl rfl (World.ownsRow_lit _ #[] 0 (Nat.le_refl _) (Nat.zero_le _) rfl) (by simp) rfl ((h.below hb1).alloc _) hn ?_); intro A1 c1 w3 hI hgr)
    have hb3 : Below w1.heap.size w1 w3 := ((Below.refl _ w1).alloc (Nat.le_refl _) _).grown hgr (by simp) (by intro k hk; simp at hk; omega)
    have HB : Below w.heap.size w w3 := hb1.trans (hb3.mono hb1.size)
    refine (l6In_v HR.out _).mono ?_
    rintro e w2 ⟨rfl, rfl⟩
    obtain ⟨g, rfl, _, _, hgl, _, hc⟩ := (h.below HB).at_ (by omega)
    obtain ⟨d0, d1, d2⟩ := hc k (by omega)
    rw [hr] at d2
    clear hc
    go_wp2_with fail
    go_ret2
    exact ⟨_, _, _, rfl, hI.mono hb1.size (Nat.le_refl _), HB⟩
  · go_enter Try.func19, Try.ntmps19
    go_wp2_with fail
    refine (valid_s h hn HK.out).mono ?_
    rintro e w1 ⟨rfl, hb1⟩
    go_wp2_with (at_builtin; (with_reducible refine wpList_copy_ids _ rfl _ _ rfl rfl (World.ownsRow_lit _ #[] 0 (Nat.le_refl _) (Nat.zero_le _) rfl) (by simp) rfl ((h.below hb1).alloc _) hn ?_); intro A1 c1 w3 hI hgr)
    have hb3 : Below w1.heap.size w1 w3 := ((Below.refl _ w1).alloc (Nat.le_refl _) _).grown hgr (by simp) (by intro k hk; simp at hk; omega)
    have HB : Below w.heap.size w w3 := hb1.trans (hb3.mono hb1.size)
    refine (l6In_v HR.out _).mono ?_
    rintro e w2 ⟨rfl, rfl⟩
    obtain ⟨g, rfl, _, _, hgl, _, hc⟩ := (h.below HB).at_ (by omega)
    obtain ⟨d0, d1, d2⟩ := hc k (by omega)
    rw [hr] at d2
    clear hc
    obtain ⟨g', rfl, hg1, hg2, hgl', hf, hc'⟩ := hI.at_ (by omega)
    obtain ⟨e0, e1, e2⟩ := hc' k (by omega)
    have f2 := hf (k * 3 + 2)
    clear hc' hf
    go_wp2_with fail
    go_ret2
    exact ⟨_, _, _, rfl, ((hI.storeR (by omega)).mono hb1.size (by simp)), HB.setCell (by show _ ≤ g'; have := hb1.size; omega) _⟩

set_option maxHeartbeats 2000000 in
theorem idsAssign_i {B S : Nat} (A : Option Addr) (n c : Nat) (L : List Cid) (w : World) (p : Int) (h : IdsIn w B S A n c L) (hn : n ≤ 2000000) :
    Calls Try.prog 22 #[.slice A n c, .int .i64 p] w (Got3 w (assign L p)) := by
  have hl := h.1
  rcases assign_how L p with ⟨HK, E⟩ | ⟨HK, HR, E⟩ | ⟨HK, HR, u, m, HU, HM, E⟩ | ⟨HK, HR, HU, HM, E⟩ | ⟨HK, HR, k, hk, HU, HM, E⟩
  all_goals (rw [E]; clear E)
  · go_enter Try.func22, Try.ntmps22
    go_wp2_with fail
    refine (valid_i h hn HK.out).mono ?_
    rintro e w1 ⟨rfl, hb1⟩
    go_wp2_with fail
    go_ret3
    exact ⟨_, _, _, rfl, IdsIn.empty _ _ _, (by first | exact hb1 | exact hb1.alloc hb1.size _)⟩
  · go_enter Try.func22, Try.ntmps22
    go_wp2_with fail
    refine (valid_i h hn HK.out).mono ?_
    rintro e w1 ⟨rfl, hb1⟩
    go_wp2_with fail
    refine (within_v HR.out _).mono ?_
    rintro e w2 ⟨rfl, rfl⟩
    go_wp2_with fail
    go_ret3
    exact ⟨_, _, _, rfl, IdsIn.empty _ _ _, (by first | exact hb1 | exact hb1.alloc hb1.size _)⟩
  · go_enter Try.func22, Try.ntmps22
    go_wp2_with fail
    refine (valid_i h hn HK.out).mono ?_
    rintro e w1 ⟨rfl, hb1⟩
    go_wp2_with fail
    refine (within_v HR.out _).mono ?_
    rintro e w2 ⟨rfl, rfl⟩
    go_wp2_with fail
    refine (clone_i (h.below hb1) hn).mono ?_
    rintro e w3 ⟨A1, c1, rfl, hI, hb3⟩
    have HB : Below w.heap.size w w3 := hb1.trans (hb3.mono hb1.size)
    go_wp2_with fail
    refine (on_i (h.below HB) hn HU.out).mono ?_
    rintro e w4 ⟨rfl, hb4⟩
    have HB4 : Below w.heap.size w w4 := HB.trans (hb4.mono HB.size)
    have hI4 := hI.below hb4
    go_wp2_with fail
    refine (on_i (h.below HB4) hn HM.out).mono ?_
    rintro e w5 ⟨rfl, hb5⟩
    have HB5 : Below w.heap.size w w5 := HB4.trans (hb5.mono HB4.size)
    have hI5 := hI4.below hb5
    have hs3 := hb1.size
    have hs5 : w3.heap.size ≤ w5.heap.size := Nat.le_trans hb4.size hb5.size
    go_wp2_with fail
    go_ret3
    exact ⟨_, _, _, rfl, hI5.mono hs3 hs5, HB5⟩
  · go_enter Try.func22, Try.ntmps22
    go_wp2_with fail
    refine (valid_i h hn HK.out).mono ?_
    rintro e w1 ⟨rfl, hb1⟩
    go_wp2_with fail
    refine (within_v HR.out _).mono ?_
    rintro e w2 ⟨rfl, rfl⟩
    go_wp2_with fail
    refine (clone_i (h.below hb1) hn).mono ?_
    rintro e w3 ⟨A1, c1, rfl, hI, hb3⟩
    have HB : Below w.heap.size w w3 := hb1.trans (hb3.mono hb1.size)
    go_wp2_with fail
    refine (on_i (h.below HB) hn HU.out).mono ?_
    rintro e w4 ⟨rfl, hb4⟩
    have HB4 : Below w.heap.size w w4 := HB.trans (hb4.mono HB.size)
    have hI4 := hI.below hb4
    go_wp2_with fail
    refine (on_i (h.below HB4) hn HM.out).mono ?_
    rintro e w5 ⟨rfl, hb5⟩
    have HB5 : Below w.heap.size w w5 := HB4.trans (hb5.mono HB4.size)
    have hI5 := hI4.below hb5
    have hs3 := hb1.size
    have hs5 : w3.heap.size ≤ w5.heap.size := Nat.le_trans hb4.size hb5.size
    go_wp2_with fail
    go_ret3
    exact ⟨_, _, _, rfl, hI5.mono hs3 hs5, HB5⟩
  · go_enter Try.func22, Try.ntmps22
    go_wp2_with fail
    refine (valid_i h hn HK.out).mono ?_
    rintro e w1 ⟨rfl, hb1⟩
    go_wp2_with fail
    refine (within_v HR.out _).mono ?_
    rintro e w2 ⟨rfl, rfl⟩
    go_wp2_with fail
    refine (clone_i (h.below hb1) hn).mono ?_
    rintro e w3 ⟨A1, c1, rfl, hI, hb3⟩
    have HB : Below w.heap.size w w3 := hb1.trans (hb3.mono hb1.size)
    go_wp2_with fail
    refine (on_i (h.below HB) hn HU.out).mono ?_
    rintro e w4 ⟨rfl, hb4⟩
    have HB4 : Below w.heap.size w w4 := HB.trans (hb4.mono HB.size)
    have hI4 := hI.below hb4
    go_wp2_with fail
    refine (on_i (h.below HB4) hn HM.out).mono ?_
    rintro e w5 ⟨rfl, hb5⟩
    have HB5 : Below w.heap.size w w5 := HB4.trans (hb5.mono HB4.size)
    have hI5 := hI4.below hb5
    have hs3 := hb1.size
    have hs5 : w3.heap.size ≤ w5.heap.size := Nat.le_trans hb4.size hb5.size
    obtain ⟨g', rfl, hg1, hg2, hgl', hf, hc'⟩ := hI5.at_ (by omega)
    obtain ⟨e0, e1, e2⟩ := hc' k (by omega)
    have f1 := hf (k * 3 + 1)
    have hm := HR.out
    rw [decide_eq_true_iff] at hm
    clear hc' hf
    go_wp2_with fail
    go_quiet (fail)
    go_wp2_with fail
    go_ret3
    exact ⟨_, _, _, rfl, ((hI5.storeP (by omega) p).drewN _).mono hs3 (by simpa using hs5), below_drewN (HB5.setCell (by show _ ≤ g'; omega) _) _⟩

set_option maxHeartbeats 2000000 in
theorem idsAssign_s {B S : Nat} (A : Option Addr) (n c : Nat) (L : List Cid) (w : World) (p : Int) (h : IdsIn w B S A n c L) (hn : n ≤ 2000000) :
    Calls Try.prog 23 #[.slice A n c, .int .i64 p] w (Got3 w (assign L p)) := by
  have hl := h.1
  rcases assign_how L p with ⟨HK, E⟩ | ⟨HK, HR, E⟩ | ⟨HK, HR, u, m, HU, HM, E⟩ | ⟨HK, HR, HU, HM, E⟩ | ⟨HK, HR, k, hk, HU, HM, E⟩
  all_goals (rw [E]; clear E)
  · go_enter Try.func23, Try.ntmps23
    go_wp2_with fail
    refine (valid_s h hn HK.out).mono ?_
    rintro e w1 ⟨rfl, hb1⟩
    go_wp2_with fail
    go_ret3
    exact ⟨_, _, _, rfl, IdsIn.empty _ _ _, (by first | exact hb1 | exact hb1.alloc hb1.size _)⟩
  · go_enter Try.func23, Try.ntmps23
    go_wp2_with fail
    refine (valid_s h hn HK.out).mono ?_
    rintro e w1 ⟨rfl, hb1⟩
    go_wp2_with fail
    refine (l6In_v HR.out _).mono ?_
    rintro e w2 ⟨rfl, rfl⟩
    go_wp2_with fail
    go_ret3
    exact ⟨_, _, _, rfl, IdsIn.empty _ _ _, (by first | exact hb1 | exact hb1.alloc hb1.size _)⟩
  · go_enter Try.func23, Try.ntmps23
    go_wp2_with fail
    refine (valid_s h hn HK.out).mono ?_
    rintro e w1 ⟨rfl, hb1⟩
    go_wp2_with fail
    refine (l6In_v HR.out _).mono ?_
    rintro e w2 ⟨rfl, rfl⟩
    go_wp2_with (at_builtin; (with_reducible refine wpList_copy_ids _ rfl _ _ rfl rfl (World.ownsRow_lit _ #[] 0 (Nat.le_refl _) (Nat.zero_le _) rfl) (by simp) rfl ((h.below hb1).alloc _) hn ?_); intro A1 c1 w3 hI hgr)
    have hb3 : Below w1.heap.size w1 w3 := ((Below.refl _ w1).alloc (Nat.le_refl _) _).grown hgr (by simp) (by intro k hk; simp at hk; omega)
    have HB : Below w.heap.size w w3 := hb1.trans (hb3.mono hb1.size)
    refine (on_s (h.below HB) hn HU.out).mono ?_
    rintro e w4 ⟨rfl, hb4⟩
    have HB4 : Below w.heap.size w w4 := HB.trans (hb4.mono HB.size)
    have hI4 := hI.below hb4
    go_wp2_with fail
    refine (on_s (h.below HB4) hn HM.out).mono ?_
    rintro e w5 ⟨rfl, hb5⟩
    have HB5 : Below w.heap.size w w5 := HB4.trans (hb5.mono HB4.size)
    have hI5 := hI4.below hb5
    have hs3 := hb1.size
    have hs5 : w3.heap.size ≤ w5.heap.size := Nat.le_trans hb4.size hb5.size
    go_wp2_with fail
    go_ret3
    exact ⟨_, _, _, rfl, hI5.mono hs3 hs5, HB5⟩
  · go_enter Try.func23, Try.ntmps23
    go_wp2_with fail
    refine (valid_s h hn HK.out).mono ?_
    rintro e w1 ⟨rfl, hb1⟩
    go_wp2_with fail
    refine (l6In_v HR.out _).mono ?_
    rintro e w2 ⟨rfl, rfl⟩
    go_wp2_with (at_builtin; (with_reducible refine wpList_copy_ids _ rfl _ _ rfl rfl (World.ownsRow_lit _ #[] 0 (Nat.le_refl _) (Nat.zero_le _) rfl) (by simp) rfl ((h.below hb1).alloc _) hn ?_); intro A1 c1 w3 hI hgr)
    have hb3 : Below w1.heap.size w1 w3 := ((Below.refl _ w1).alloc (Nat.le_refl _) _).grown hgr (by simp) (by intro k hk; simp at hk; omega)
    have HB : Below w.heap.size w w3 := hb1.trans (hb3.mono hb1.size)
    refine (on_s (h.below HB) hn HU.out).mono ?_
    rintro e w4 ⟨rfl, hb4⟩
    have HB4 : Below w.heap.size w w4 := HB.trans (hb4.mono HB.size)
    have hI4 := hI.below hb4
    go_wp2_with fail
    refine (on_s (h.below HB4) hn HM.out).mono ?_
    rintro e w5 ⟨rfl, hb5⟩
    have HB5 : Below w.heap.size w w5 := HB4.trans (hb5.mono HB4.size)
    have hI5 := hI4.below hb5
    have hs3 := hb1.size
    have hs5 : w3.heap.size ≤ w5.heap.size := Nat.le_trans hb4.size hb5.size
    go_wp2_with fail
    go_ret3
    exact ⟨_, _, _, rfl, hI5.mono hs3 hs5, HB5⟩
  · go_enter Try.func23, Try.ntmps23
    go_wp2_with fail
    refine (valid_s h hn HK.out).mono ?_
    rintro e w1 ⟨rfl, hb1⟩
    go_wp2_with fail
    refine (l6In_v HR.out _).mono ?_
    rintro e w2 ⟨rfl, rfl⟩
    go_wp2_with (at_builtin; (with_reducible refine wpList_copy_ids _ rfl _ _ rfl rfl (World.ownsRow_lit _ #[] 0 (Nat.le_refl _) (Nat.zero_le _) rfl) (by simp) rfl ((h.below hb1).alloc _) hn ?_); intro A1 c1 w3 hI hgr)
    have hb3 : Below w1.heap.size w1 w3 := ((Below.refl _ w1).alloc (Nat.le_refl _) _).grown hgr (by simp) (by intro k hk; simp at hk; omega)
    have HB : Below w.heap.size w w3 := hb1.trans (hb3.mono hb1.size)
    refine (on_s (h.below HB) hn HU.out).mono ?_
    rintro e w4 ⟨rfl, hb4⟩
    have HB4 : Below w.heap.size w w4 := HB.trans (hb4.mono HB.size)
    have hI4 := hI.below hb4
    go_wp2_with fail
    refine (on_s (h.below HB4) hn HM.out).mono ?_
    rintro e w5 ⟨rfl, hb5⟩
    have HB5 : Below w.heap.size w w5 := HB4.trans (hb5.mono HB4.size)
    have hI5 := hI4.below hb5
    have hs3 := hb1.size
    have hs5 : w3.heap.size ≤ w5.heap.size := Nat.le_trans hb4.size hb5.size
    obtain ⟨g', rfl, hg1, hg2, hgl', hf, hc'⟩ := hI5.at_ (by omega)
    obtain ⟨e0, e1, e2⟩ := hc' k (by omega)
    have f1 := hf (k * 3 + 1)
    have hm := HR.out
    rw [decide_eq_true_iff] at hm
    clear hc' hf
    go_wp2_with fail
    go_quiet (fail)
    go_wp2_with fail
    go_ret3
    exact ⟨_, _, _, rfl, ((hI5.storeP (by omega) p).drewN _).mono hs3 (by simpa using hs5), below_drewN (HB5.setCell (by show _ ≤ g'; omega) _) _⟩

set_option maxHeartbeats 2000000 in
theorem idsMigrate_i {B S : Nat} (A : Option Addr) (n c : Nat) (L : List Cid) (w : World) (p : Int) (h : IdsIn w B S A n c L) (hn : n ≤ 2000000) :
    Calls Try.prog 26 #[.slice A n c, .int .i64 p] w (Got3 w (migrate L p)) := by
  have hl := h.1
  rcases migrate_how L p with ⟨HK, E⟩ | ⟨HK, HR, E⟩ | ⟨HK, HR, u, HU, HM, E⟩ | ⟨HK, HR, m, HU, HM, E⟩ | ⟨HK, HR, i, k, hi, hk, HU, HM, E⟩
  all_goals (rw [E]; clear E)
  · go_enter Try.func26, Try.ntmps26
    go_wp2_with fail
    refine (valid_i h hn HK.out).mono ?_
    rintro e w1 ⟨rfl, hb1⟩
    go_wp2_with fail
    go_ret3
    exact ⟨_, _, _, rfl, IdsIn.empty _ _ _, (by first | exact hb1 | exact hb1.alloc hb1.size _)⟩
  · go_enter Try.func26, Try.ntmps26
    go_wp2_with fail
    refine (valid_i h hn HK.out).mono ?_
    rintro e w1 ⟨rfl, hb1⟩
    go_wp2_with fail
    refine (within_v HR.out _).mono ?_
    rintro e w2 ⟨rfl, rfl⟩
    go_wp2_with fail
    go_ret3
    exact ⟨_, _, _, rfl, IdsIn.empty _ _ _, (by first | exact hb1 | exact hb1.alloc hb1.size _)⟩
  · go_enter Try.func26, Try.ntmps26
    go_wp2_with fail
    refine (valid_i h hn HK.out).mono ?_
    rintro e w1 ⟨rfl, hb1⟩
    go_wp2_with fail
    refine (within_v HR.out _).mono ?_
    rintro e w2 ⟨rfl, rfl⟩
    go_wp2_with fail
    refine (clone_i (h.below hb1) hn).mono ?_
    rintro e w3 ⟨A1, c1, rfl, hI, hb3⟩
    have HB : Below w.heap.size w w3 := hb1.trans (hb3.mono hb1.size)
    go_wp2_with fail
    refine (on_i (h.below HB) hn HM.out).mono ?_
    rintro e w4 ⟨rfl, hb4⟩
    have HB4 : Below w.heap.size w w4 := HB.trans (hb4.mono HB.size)
    have hI4 := hI.below hb4
    go_wp2_with fail
    refine (on_i (h.below HB4) hn HU.out).mono ?_
    rintro e w5 ⟨rfl, hb5⟩
    have HB5 : Below w.heap.size w w5 := HB4.trans (hb5.mono HB4.size)
    have hI5 := hI4.below hb5
    have hs3 := hb1.size
    have hs5 : w3.heap.size ≤ w5.heap.size := Nat.le_trans hb4.size hb5.size
    go_wp2_with fail
    go_ret3
    exact ⟨_, _, _, rfl, hI5.mono hs3 hs5, HB5⟩
  · go_enter Try.func26, Try.ntmps26
    go_wp2_with fail
    refine (valid_i h hn HK.out).mono ?_
    rintro e w1 ⟨rfl, hb1⟩
    go_wp2_with fail
    refine (within_v HR.out _).mono ?_
    rintro e w2 ⟨rfl, rfl⟩
    go_wp2_with fail
    refine (clone_i (h.below hb1) hn).mono ?_
    rintro e w3 ⟨A1, c1, rfl, hI, hb3⟩
    have HB : Below w.heap.size w w3 := hb1.trans (hb3.mono hb1.size)
    go_wp2_with fail
    refine (on_i (h.below HB) hn HM.out).mono ?_
    rintro e w4 ⟨rfl, hb4⟩
    have HB4 : Below w.heap.size w w4 := HB.trans (hb4.mono HB.size)
    have hI4 := hI.below hb4
    go_wp2_with fail
    refine (on_i (h.below HB4) hn HU.out).mono ?_
    rintro e w5 ⟨rfl, hb5⟩
    have HB5 : Below w.heap.size w w5 := HB4.trans (hb5.mono HB4.size)
    have hI5 := hI4.below hb5
    have hs3 := hb1.size
    have hs5 : w3.heap.size ≤ w5.heap.size := Nat.le_trans hb4.size hb5.size
    go_wp2_with fail
    go_ret3
    exact ⟨_, _, _, rfl, hI5.mono hs3 hs5, HB5⟩
  · go_enter Try.func26, Try.ntmps26
    go_wp2_with fail
    refine (valid_i h hn HK.out).mono ?_
    rintro e w1 ⟨rfl, hb1⟩
    go_wp2_with fail
    refine (within_v HR.out _).mono ?_
    rintro e w2 ⟨rfl, rfl⟩
    go_wp2_with fail
    refine (clone_i (h.below hb1) hn).mono ?_
    rintro e w3 ⟨A1, c1, rfl, hI, hb3⟩
    have HB : Below w.heap.size w w3 := hb1.trans (hb3.mono hb1.size)
    go_wp2_with fail
    refine (on_i (h.below HB) hn HM.out).mono ?_
    rintro e w4 ⟨rfl, hb4⟩
    have HB4 : Below w.heap.size w w4 := HB.trans (hb4.mono HB.size)
    have hI4 := hI.below hb4
    go_wp2_with fail
    refine (on_i (h.below HB4) hn HU.out).mono ?_
    rintro e w5 ⟨rfl, hb5⟩
    have HB5 : Below w.heap.size w w5 := HB4.trans (hb5.mono HB4.size)
    have hI5 := hI4.below hb5
    have hs3 := hb1.size
    have hs5 : w3.heap.size ≤ w5.heap.size := Nat.le_trans hb4.size hb5.size
    obtain ⟨g', rfl, hg1, hg2, hgl', hf, hc'⟩ := hI5.at_ (by omega)
    obtain ⟨e0, e1, e2⟩ := hc' k (by omega)
    have x2 := (hc' i (by omega)).2.2
    have f2 := hf (i * 3 + 2)
    have ne1 : i * 3 + 2 ≠ k * 3 + 1 := by omega
    have ne2 : i * 3 + 2 ≠ k * 3 := by omega
    have f1 := hf (k * 3 + 1)
    have hm := HR.out
    rw [decide_eq_true_iff] at hm
    clear hc' hf
    go_wp2_with fail
    go_quiet (fail)
    go_wp2_with fail
    go_ret3
    exact ⟨_, _, _, rfl, (((hI5.storeR (by omega)).storeP (by omega) p).drewN _).mono hs3 (by simpa using hs5), below_drewN ((HB5.setCell (p := ⟨g', i * 3 + 2, none⟩) (by show _ ≤ g'; omega) _).setCell (p := ⟨g', k * 3 + 1, none⟩) (by show _ ≤ g'; omega) _) _⟩

set_option maxHeartbeats 2000000 in
theorem idsMigrate_s {B S : Nat} (A : Option Addr) (n c : Nat) (L : List Cid) (w : World) (p : Int) (h : IdsIn w B S A n c L) (hn : n ≤ 2000000) :
    Calls Try.prog 27 #[.slice A n c, .int .i64 p] w (Got3 w (migrate L p)) := by
  have hl := h.1
  rcases migrate_how L p with ⟨HK, E⟩ | ⟨HK, HR, E⟩ | ⟨HK, HR, u, HU, HM, E⟩ | ⟨HK, HR, m, HU, HM, E⟩ | ⟨HK, HR, i, k, hi, hk, HU, HM, E⟩
  all_goals (rw [E]; clear E)
  · go_enter Try.func27, Try.ntmps27
    go_wp2_with fail
    refine (valid_s h hn HK.out).mono ?_
    rintro e w1 ⟨rfl, hb1⟩
    go_wp2_with fail
    go_ret3
    exact ⟨_, _, _, rfl, IdsIn.empty _ _ _, (by first | exact hb1 | exact hb1.alloc hb1.size _)⟩
  · go_enter Try.func27, Try.ntmps27
    go_wp2_with fail
    refine (valid_s h hn HK.out).mono ?_
    rintro e w1 ⟨rfl, hb1⟩
    go_wp2_with fail
    refine (l6In_v HR.out _).mono ?_
    rintro e w2 ⟨rfl, rfl⟩
    go_wp2_with fail
    go_ret3
    exact ⟨_, _, _, rfl, IdsIn.empty _ _ _, (by first | exact hb1 | exact hb1.alloc hb1.size _)⟩
  · go_enter Try.func27, Try.ntmps27
    go_wp2_with fail
    refine (valid_s h hn HK.out).mono ?_
    rintro e w1 ⟨rfl, hb1⟩
    go_wp2_with fail
    refine (l6In_v HR.out _).mono ?_
    rintro e w2 ⟨rfl, rfl⟩
    go_wp2_with (at_builtin; (with_reducible refine wpList_copy_ids _ rfl _ _ rfl rfl (World.ownsRow_lit _ #[] 0 (Nat.le_refl _) (Nat.zero_le _) rfl) (by simp) rfl ((h.below hb1).alloc _) hn ?_); intro A1 c1 w3 hI hgr)
    have hb3 : Below w1.heap.size w1 w3 := ((Below.refl _ w1).alloc (Nat.le_refl _) _).grown hgr (by simp) (by intro k hk; simp at hk; omega)
    have HB : Below w.heap.size w w3 := hb1.trans (hb3.mono hb1.size)
    refine (on_s (h.below HB) hn HM.out).mono ?_
    rintro e w4 ⟨rfl, hb4⟩
    have HB4 : Below w.heap.size w w4 := HB.trans (hb4.mono HB.size)
    have hI4 := hI.below hb4
    go_wp2_with fail
    refine (on_s (h.below HB4) hn HU.out).mono ?_
    rintro e w5 ⟨rfl, hb5⟩
    have HB5 : Below w.heap.size w w5 := HB4.trans (hb5.mono HB4.size)
    have hI5 := hI4.below hb5
    have hs3 := hb1.size
    have hs5 : w3.heap.size ≤ w5.heap.size := Nat.le_trans hb4.size hb5.size
    go_wp2_with fail
    go_ret3
    exact ⟨_, _, _, rfl, hI5.mono hs3 hs5, HB5⟩
  · go_enter Try.func27, Try.ntmps27
    go_wp2_with fail
    refine (valid_s h hn HK.out).mono ?_
    rintro e w1 ⟨rfl, hb1⟩
    go_wp2_with fail
    refine (l6In_v HR.out _).mono ?_
    rintro e w2 ⟨rfl, rfl⟩
    go_wp2_with (at_builtin; (with_reducible refine wpList_copy_ids _ rfl _ _ rfl rfl (World.ownsRow_lit _ #[] 0 (Nat.le_refl _) (Nat.zero_le _) rfl) (by simp) rfl ((h.below hb1).alloc _) hn ?_); intro A1 c1 w3 hI hgr)
    have hb3 : Below w1.heap.size w1 w3 := ((Below.refl _ w1).alloc (Nat.le_refl _) _).grown hgr (by simp) (by intro k hk; simp at hk; omega)
    have HB : Below w.heap.size w w3 := hb1.trans (hb3.mono hb1.size)
    refine (on_s (h.below HB) hn HM.out).mono ?_
    rintro e w4 ⟨rfl, hb4⟩
    have HB4 : Below w.heap.size w w4 := HB.trans (hb4.mono HB.size)
    have hI4 := hI.below hb4
    go_wp2_with fail
    refine (on_s (h.below HB4) hn HU.out).mono ?_
    rintro e w5 ⟨rfl, hb5⟩
    have HB5 : Below w.heap.size w w5 := HB4.trans (hb5.mono HB4.size)
    have hI5 := hI4.below hb5
    have hs3 := hb1.size
    have hs5 : w3.heap.size ≤ w5.heap.size := Nat.le_trans hb4.size hb5.size
    go_wp2_with fail
    go_ret3
    exact ⟨_, _, _, rfl, hI5.mono hs3 hs5, HB5⟩
  · go_enter Try.func27, Try.ntmps27
    go_wp2_with fail
    refine (valid_s h hn HK.out).mono ?_
    rintro e w1 ⟨rfl, hb1⟩
    go_wp2_with fail
    refine (l6In_v HR.out _).mono ?_
    rintro e w2 ⟨rfl, rfl⟩
    go_wp2_with (at_builtin; (with_reducible refine wpList_copy_ids _ rfl _ _ rfl rfl (World.ownsRow_lit _ #[] 0 (Nat.le_refl _) (Nat.zero_le _) rfl) (by simp) rfl ((h.below hb1).alloc _) hn ?_); intro A1 c1 w3 hI hgr)
    have hb3 : Below w1.heap.size w1 w3 := ((Below.refl _ w1).alloc (Nat.le_refl _) _).grown hgr (by simp) (by intro k hk; simp at hk; omega)
    have HB : Below w.heap.size w w3 := hb1.trans (hb3.mono hb1.size)
    refine (on_s (h.below HB) hn HM.out).mono ?_
    rintro e w4 ⟨rfl, hb4⟩
    have HB4 : Below w.heap.size w w4 := HB.trans (hb4.mono HB.size)
    have hI4 := hI.below hb4
    go_wp2_with fail
    refine (on_s (h.below HB4) hn HU.out).mono ?_
    rintro e w5 ⟨rfl, hb5⟩
    have HB5 : Below w.heap.size w w5 := HB4.trans (hb5.mono HB4.size)
    have hI5 := hI4.below hb5
    have hs3 := hb1.size
    have hs5 : w3.heap.size ≤ w5.heap.size := Nat.le_trans hb4.size hb5.size
    obtain ⟨g', rfl, hg1, hg2, hgl', hf, hc'⟩ := hI5.at_ (by omega)
    obtain ⟨e0, e1, e2⟩ := hc' k (by omega)
    have x2 := (hc' i (by omega)).2.2
    have f2 := hf (i * 3 + 2)
    have ne1 : i * 3 + 2 ≠ k * 3 + 1 := by omega
    have ne2 : i * 3 + 2 ≠ k * 3 := by omega
    have f1 := hf (k * 3 + 1)
    have hm := HR.out
    rw [decide_eq_true_iff] at hm
    clear hc' hf
    go_wp2_with fail
    go_quiet (fail)
    go_wp2_with fail
    go_ret3
    exact ⟨_, _, _, rfl, (((hI5.storeR (by omega)).storeP (by omega) p).drewN _).mono hs3 (by simpa using hs5), below_drewN ((HB5.setCell (p := ⟨g', i * 3 + 2, none⟩) (by show _ ≤ g'; omega) _).setCell (p := ⟨g', k * 3 + 1, none⟩) (by show _ ≤ g'; omega) _) _⟩

end Go.Proofs.Ytobeeakjfkokfab
