/- The walk of the law FnScheduleAdd. -/
import Derived.Test.YtbmmoncbklcbmaaAddPlain
import Derived.Test.YtbmmoncbklcbmaaSplitDraw
namespace Go.Proofs.Ytbmmoncbklcbmaa
open Go.RowKit

/-- The first k flights have grown. -/
def Grown (L M : List Opt) (xs : List Int) (k : Nat) : Prop :=
  M.length = L.length ∧ ∀ j, j < L.length → onth M j = if j < k then { onth L j with f := (onth L j).f + inth xs j } else onth L j
theorem grown_step {L M : List Opt} {xs : List Int} {k : Nat} (h : Grown L M xs k) (hk : k < L.length) : Grown L (setF M k ((onth M k).f + inth xs k)) xs (k + 1) := by
  refine ⟨len_setF.trans h.1, fun j hj => ?_⟩
  unfold setF
  rw [onth_set]
  by_cases e : j = k
  · subst e
    rw [if_pos ⟨rfl, by rw [h.1]; exact hk⟩, if_pos (by omega), h.2 j hj, if_neg (by omega)]
  · rw [if_neg (fun x => e x.1), h.2 j hj]
    by_cases e2 : j < k
    · rw [if_pos e2, if_pos (by omega)]
    · rw [if_neg e2, if_neg (by omega)]

theorem split_bd {L : List Opt} {n : Int} {xs : List Int} (h : Splitted L n xs) (j : Nat) (hj : j < L.length) (hok : okO L = true) (hn0 : 0 ≤ n) (hn1 : n ≤ 256) : 0 ≤ inth xs j ∧ inth xs j ≤ 64 := by
  rcases h with ⟨_, _, O, hO, rfl⟩ | ⟨h, _⟩
  · have hb := optB_iff.1 ((okO_iff.1 hok).1 j hj)
    have h0 := alloc_bd (sp := sp L) (l := O) (n := n) (j := j) hn0 fun k hk => by have := order_sp hO k hk; omega
    rw [share_at hj]
    refine ⟨h0.1, ?_⟩
    by_cases hm : j ∈ O
    · have := h0.2 hm
      rw [show sp L j = (onth L j).w - (onth L j).f from rfl] at this
      omega
    · rw [alloc_out hm]; omega
  · exact absurd ⟨hok, hn0, hn1⟩ h

set_option maxRecDepth 100000 in
set_option maxHeartbeats 4000000 in
theorem walkFnScheduleAdd (w : World) (a : Option Addr) (len cap : Nat) (zs : List Int) (h : IsRow .u8 w a len cap zs) (a1 : Option Addr) (len1 cap1 : Nat) (zs1 : List Int) (h1 : IsRow .u8 w a1 len1 cap1 zs1) :
    Calls Try.prog 9 #[.slice a len cap, .slice a1 len1 cap1] w fun e w' => e = .returned (.bool true) ∧ Below w.heap.size w w' := by
  have hl0 : (len1 : Int) ≤ 9223372036854775807 := by rcases h1 with ⟨_, rfl, _⟩ | ⟨_, _, hle, hm, _⟩ <;> (try unfold maxLen at hm) <;> omega
  clear h1
  by_cases hllen : 1048576 < len
  · go_enter Try.func9, Try.ntmps9
    go_wp2
    go_ret
    exact ⟨rfl, Below.refl _ _⟩
  by_cases hllen1 : 1048576 < len1
  · go_enter Try.func9, Try.ntmps9
    go_wp2
    go_ret
    exact ⟨rfl, Below.refl _ _⟩
  go_enter Try.func9, Try.ntmps9
  go_wp2_with fail
  with_reducible refine (drawSplit_any w a len cap zs h).mono ?_
  rintro e w1 ⟨A0, c0, L, p, rfl, hp0, hp1, hl, hnil, I0, hb1⟩
  clear h
  have HB1 : Below w.heap.size w w1 := hb1
  go_wp2_with fail
  with_reducible refine (split_i _ _ _ L _ p I0 (by omega)).mono ?_
  rintro e w2 ⟨A2, c2, xs, rfl, hs2, I2, hb2⟩
  have HB2 : Below w.heap.size w w2 := HB1.trans (hb2.mono HB1.size)
  have I0 := I0.below hb2
  go_wp2_with fail
  with_reducible refine (split_s _ _ _ L _ p I0 hnil (by omega)).mono ?_
  rintro e w3 ⟨A3, c3, xs3, rfl, hs3, I3, hb3⟩
  have HB3 : Below w.heap.size w w3 := HB2.trans (hb3.mono HB2.size)
  have I0 := I0.below hb3
  have I2 := I2.below hb3
  obtain rfl := splitted_unique hs2 hs3
  clear hs3
  have hxl9 : xs.length ≤ 9 := by
    rcases hs2 with ⟨_, _, O, _, rfl⟩ | ⟨_, rfl⟩
    · rw [share_len]; omega
    · simp
  have HS2 := hid_of hs2
  clear hs2
  go_wp2_with fail
  with_reducible refine (sameI_any _ _ _ _ _ _ _ I2 I3 (by omega)).mono ?_
  rintro e w4 ⟨rfl, hb4⟩
  have HB4 : Below w.heap.size w w4 := HB3.trans (hb4.mono HB3.size)
  have I0 := I0.below hb4
  have I2 := I2.below hb4
  have I3 := I3.below hb4
  go_wp2_with fail
  with_reducible refine (valid_spec _ _ _ L _ I0 (by omega)).mono ?_
  rintro e w5 ⟨rfl, hb5⟩
  have HB5 : Below w.heap.size w w5 := HB4.trans (hb5.mono HB4.size)
  have I0 := I0.below hb5
  have I2 := I2.below hb5
  have I3 := I3.below hb5
  cases hok : okO L with
  | false =>
    clear hok
    go_wp2_with fail
    with_reducible refine (sameI_any _ _ _ _ _ _ _ I2 I3 (by omega)).mono ?_
    rintro e w6 ⟨rfl, hb6⟩
    go_wp2_with fail
    go_ret
    exact ⟨rfl, HB5.trans (hb6.mono HB5.size)⟩
  | true =>
    have HK := hid_of hok
    clear hok
    rcases (show p < 0 ∨ 200 < p ∨ (0 ≤ p ∧ p ≤ 200) from by omega) with hp | hp | ⟨hq0, hq1⟩
    · go_wp2_with fail
      with_reducible refine (sameI_any _ _ _ _ _ _ _ I2 I3 (by omega)).mono ?_
      rintro e w6 ⟨rfl, hb6⟩
      go_wp2_with fail
      go_ret
      exact ⟨rfl, HB5.trans (hb6.mono HB5.size)⟩
    · go_wp2_with fail
      with_reducible refine (sameI_any _ _ _ _ _ _ _ I2 I3 (by omega)).mono ?_
      rintro e w6 ⟨rfl, hb6⟩
      go_wp2_with fail
      go_ret
      exact ⟨rfl, HB5.trans (hb6.mono HB5.size)⟩
    · have hbd : xs.length = L.length ∧ ∀ j, j < L.length → (0 ≤ inth xs j ∧ inth xs j ≤ 64) ∧ (0 ≤ (onth L j).f ∧ (onth L j).f ≤ 64) := by
        rcases HS2.out with ⟨_, _, O, hO, hxs⟩ | ⟨hn, _⟩
        · refine ⟨by rw [hxs, share_len], fun j hj => ?_⟩
          have hb := optB_iff.1 ((okO_iff.1 HK.out).1 j hj)
          have h0 := alloc_bd (sp := sp L) (l := O) (n := p) (j := j) hq0 fun k hk => by have := order_sp hO k hk; omega
          rw [hxs, share_at hj]
          refine ⟨⟨h0.1, ?_⟩, hb.2.2⟩
          by_cases hm : j ∈ O
          · have := h0.2 hm
            rw [show sp L j = (onth L j).w - (onth L j).f from rfl] at this
            omega
          · rw [alloc_out hm]; omega
        · exact absurd ⟨HK.out, hq0, by omega⟩ hn
      obtain ⟨hxl, hbd⟩ := hbd
      have HBD := hid_of hbd
      rw [hxl] at I2 ⊢
      obtain ⟨bb, hbb⟩ : ∃ z, z = (len1 : Int) % 50 := ⟨_, rfl⟩
      have hb0 : 0 ≤ bb ∧ bb ≤ 49 := by omega
      obtain ⟨hb0, hb49⟩ := hb0
      have hI0lt : 0 < L.length → ∀ b off, A0 = some ⟨b, off, none⟩ → b < w5.heap.size := fun hp b off e => by
        obtain ⟨b', off', e', hlt, _⟩ := I0.2 hp
        rw [e] at e'; cases e'; exact hlt
      have hI2lt : 0 < L.length → ∀ b off, A2 = some ⟨b, off, none⟩ → b < w5.heap.size := fun hp b off e => by
        obtain ⟨b', off', e', hlt, _⟩ := I2.2 hp
        rw [e] at e'; cases e'; exact hlt
      have HL0 := hid_of hI0lt
      have HL2 := hid_of hI2lt
      obtain ⟨nn, hnn⟩ : ∃ z, z = L.length := ⟨_, rfl⟩
      have HNN := hid_of hnn
      rw [← hnn] at I0 I2 hl HL0 HL2 HBD ⊢
      clear hbd hxl hI0lt hI2lt I3 hnn
      go_wp2_with (at_builtin; refine wpList_copy_opts _ rfl _ _ rfl rfl (World.ownsRow_lit _ #[] 0 (Nat.le_refl _) (Nat.zero_le _) rfl) (by simp) rfl (I0.alloc _) hnil (by omega) ?_; intro A6 c6 w6 hI6 hgr)
      have hb6 : Below w5.heap.size w5 w6 := ((Below.refl _ w5).alloc (Nat.le_refl _) _).grown hgr (by simp) (by intro k hk; simp at hk; omega)
      have HB6 : Below w.heap.size w w6 := HB5.trans (hb6.mono HB5.size)
      have J0 := I0.below hb6
      have J2 := I2.below hb6
      have hs6 := hb6.size
      have hs5 := HB5.size
      clear hgr
      go_loopw [11] (fun x wr => ∃ (k : Nat) (M : List Opt), x = .int .i64 (k : Nat) ∧ k ≤ nn ∧ Hid (Grown L M xs k) ∧ OptsIn wr w5.heap.size w6.heap.size A6 nn c6 M ∧ Touch w6 wr w5.heap.size w6.heap.size ∧ Below w.heap.size w wr) (fun x _ => nn - (intOf x).toNat)
      case atStart => exact ⟨0, L, rfl, Nat.zero_le _, ⟨rfl, fun j _ => by rw [if_neg (by omega)]⟩, hI6, Touch.refl _ _ _, HB6⟩
      case round =>
        obtain ⟨k, M, rfl, hk, HG, hM, hT, hb⟩ := hrel
        by_cases hlt : k < nn
        · have hkl : k < L.length := by have := HNN.out; omega
          have T2 := J2.touch hT fun b off e => .inl (HL2.out (by omega) b off e)
          obtain ⟨b2, off2, rfl, _, hc2⟩ := T2.2 (by omega)
          have x0 := hc2 k hlt
          obtain ⟨g6, rfl, hg1, hg2, hgl, hf, hc⟩ := hM.at_ (by omega)
          obtain ⟨_, _, _, m3⟩ := hc k hlt
          have f3 := hf (k * 4 + 3)
          have hMk : onth M k = onth L k := by rw [HG.out.2 k hkl, if_neg (by omega)]
          have hbk := HBD.out k hlt
          rw [← hMk] at hbk
          have nM := hM.storeF hlt ((onth M k).f + inth xs k)
          have nT := hT.setCell (p := ⟨g6, k * 4 + 3, none⟩) hg1 hg2 (.int .i64 ((onth M k).f + inth xs k))
          have nB := hb.setCell (p := ⟨g6, k * 4 + 3, none⟩) (by show _ ≤ g6; omega) (.int .i64 ((onth M k).f + inth xs k))
          have HGN := hid_of (grown_step HG.out hkl)
          generalize (onth M k).f = mf at m3 nM nT nB hbk HGN
          generalize inth xs k = xv at x0 nM nT nB hbk HGN
          have HM := hid_of nM
          have HT := hid_of nT
          have HB := hid_of nB
          obtain ⟨⟨y1, y2⟩, y3, y4⟩ := hbk
          clear hc2 hc hf hMk nM nT nB T2
          go_wp2_with fail
          go_region
          all_goals go_wp2_with fail
          all_goals go_roundw
          case rel => exact ⟨k + 1, _, by go_num, by omega, HGN, by first | exact HM.out.drew | exact HM.out, by first | exact HT.out.drew | exact HT.out, by first | exact HB.out.drew | exact HB.out⟩
          case measure => simp [intOf]; omega
        · have hkn : k = nn := by omega
          subst hkn
          have T0 := optsAt_touch J0 hT fun hp b off e => .inl (HL0.out hp b off e)
          have T2 : IntsAt wr A2 k xs := by
            rcases Nat.eq_zero_or_pos k with e0 | e0
            · exact ⟨J2.1, fun h => absurd h (by omega)⟩
            · exact J2.touch hT fun b off e => .inl (HL2.out e0 b off e)
          clear hlt
          rw [hbb] at hb0 hb49
          go_wp2_with fail
          with_reducible refine (split_i _ _ _ M _ _ hM.reads (by omega)).mono ?_
          rintro e w8 ⟨A8, c8, ys, rfl, hs8, I8, hb8⟩
          have HB8 : Below w.heap.size w w8 := hb.trans (hb8.mono hb.size)
          have T0 := T0.below hb8
          have T2 := T2.below hb8
          go_wp2_with fail
          with_reducible refine (split_i _ _ _ L _ _ T0 (by omega)).mono ?_
          rintro e w9 ⟨A9, c9, us, rfl, hs9, I9, hb9⟩
          have HB9 : Below w.heap.size w w9 := HB8.trans (hb9.mono HB8.size)
          have T2 := T2.below hb9
          have I8 := I8.below hb9
          have hadd := split_add HK.out hq0 hq1 hb0 hb49 HS2.out HG.out.1 (fun j hj => by rw [HG.out.2 j hj, if_pos (by have := HNN.out; omega)]) hs8 hs9
          have hub9 : ∀ j, j < k → (0 ≤ inth us j ∧ inth us j ≤ 64) := fun j hj => split_bd hs9 j (by have := HNN.out; omega) HK.out (by omega) (by omega)
          have HUB9 := hid_of hub9
          clear hub9
          rw [← HNN.out] at hadd
          obtain ⟨_, hyl, hul, hsum⟩ := hadd
          rw [hyl] at I8 ⊢
          rw [hul] at I9 ⊢
          have HSU := hid_of hsum
          clear hsum hs8 hs9 hyl hul hbb
          have hub : ∀ j, j < k → (0 ≤ inth xs j ∧ inth xs j ≤ 64) := fun j hj => (HBD.out j hj).1
          have HUB := hid_of hub
          clear hub
          go_wp2_with fail
          go_loopw [14] (fun x wx => ∃ j : Nat, x = .int .i64 (j : Nat) ∧ j ≤ k ∧ Below w9.heap.size w9 wx) (fun x _ => k - (intOf x).toNat)
          case atStart => exact ⟨0, rfl, Nat.zero_le _, Below.refl _ _⟩
          case round =>
            obtain ⟨j, rfl, hj, hbx⟩ := hrel
            by_cases hltj : j < k
            · obtain ⟨b2, off2, rfl, _, hc2⟩ := (T2.below hbx).2 (by omega)
              obtain ⟨b8, off8, rfl, _, hc8⟩ := (I8.below hbx).2 (by omega)
              obtain ⟨b9, off9, rfl, _, hc9⟩ := (I9.below hbx).2 (by omega)
              have x2 := hc2 j hltj
              have x8 := hc8 j hltj
              have x9 := hc9 j hltj
              have hs := HSU.out j hltj
              have hbdj := HUB.out j hltj
              have hbd9 := HUB9.out j hltj
              generalize inth ys j = yv at x8 hs
              generalize inth xs j = xv at x2 hs hbdj
              generalize inth us j = uv at x9 hs hbd9
              obtain ⟨z1, z2⟩ := hbdj
              obtain ⟨z3, z4⟩ := hbd9
              subst hs
              clear hc2 hc8 hc9
              go_wp2_with fail
              go_quiet (fail)
              go_wp2_with fail
              go_roundw
              case rel => exact ⟨j + 1, by go_num, by omega, below_drewN' hbx _⟩
              case measure => simp [intOf]; omega
            · go_wp2_with fail
              go_ret
              exact ⟨rfl, HB9.trans (hbx.mono HB9.size)⟩

end Go.Proofs.Ytbmmoncbklcbmaa
