/- The walk of the law FnScheduleFaster. -/
import Derived.Test.YtbmmoncbklcbmaaSplitS
import Derived.Test.YtbmmoncbklcbmaaSplitDraw
namespace Go.Proofs.Ytbmmoncbklcbmaa
open Go.RowKit

theorem alloc_before {R : Nat → Nat → Prop} (ha : ∀ i k, R i k → R k i → False) {s : Nat → Int} {k i : Nat} (hki : R k i) (hne : i ≠ k) : ∀ {l : List Nat} {n : Int}, l.Pairwise R → 0 ≤ n → (∀ j, j ∈ l → 0 ≤ s j) → k ∈ l → i ∈ l → alloc s l n k < s k → alloc s l n i = 0
  | [], _, _, _, _, h, _, _ => by simp at h
  | h :: t, n, hp, hn, hs, hk, hi, hlt => by
    rw [List.pairwise_cons] at hp
    have hst : ∀ j, j ∈ t → 0 ≤ s j := fun j hj => hs j (List.mem_cons_of_mem _ hj)
    have hsh := hs h List.mem_cons_self
    by_cases e1 : k = h
    · subst e1
      have e : alloc s (k :: t) n k = min n (s k) := by show (if k = k then _ else _) = _; rw [if_pos rfl]
      rw [e] at hlt
      show (if i = k then _ else _) = _
      rw [if_neg hne]
      have : n - min n (s k) = 0 := by omega
      rw [this]
      exact alloc_zero s (fun _ => .inr trivial) t i hst
    · have hkt : k ∈ t := by
        rcases List.mem_cons.1 hk with e | e
        · exact absurd e e1
        · exact e
      by_cases e2 : i = h
      · subst e2
        exact absurd hki fun r => ha _ _ r (hp.1 k hkt)
      · have hit : i ∈ t := by
          rcases List.mem_cons.1 hi with e | e
          · exact absurd e e2
          · exact e
        have e : alloc s (h :: t) n k = alloc s t (n - min n (s h)) k := by show (if k = h then _ else _) = _; rw [if_neg e1]
        rw [e] at hlt
        show (if i = h then _ else _) = _
        rw [if_neg e2]
        exact alloc_before ha hki hne hp.2 (by omega) hst hkt hit hlt

theorem faster {L : List Opt} {O : List Nat} {n : Int} (hO : IsOrder L O) (hn : 0 ≤ n) {i k : Nat} (hk : k < L.length) (hx : 0 < alloc (sp L) O n i) (ha : (onth L k).a = true) (ht : (onth L k).t < (onth L i).t) : ¬ (onth L k).f + alloc (sp L) O n k < (onth L k).w := fun hlt => by
  have hs : ∀ j, j ∈ O → 0 ≤ sp L j := fun j hj => by have := order_sp hO j hj; omega
  have hi : i ∈ O := by
    by_cases e : i ∈ O
    · exact e
    · rw [alloc_out e] at hx; omega
  have h0 := (alloc_bd (sp := sp L) (l := O) (n := n) (j := k) hn hs).1
  have hkO : k ∈ O := (hO.2 k).2 ⟨hk, by unfold freeB; simp [ha]; omega⟩
  have := alloc_before (R := Lt L) (fun _ _ h h' => h.asymm h') (s := sp L) (k := k) (i := i) (.inl ht) (fun e => by subst e; omega) hO.1 hn hs hkO hi (by unfold sp at *; omega)
  omega

set_option maxRecDepth 100000 in
set_option maxHeartbeats 4000000 in
theorem walkFnScheduleFaster (w : World) (a : Option Addr) (len cap : Nat) (zs : List Int) (h : IsRow .u8 w a len cap zs) :
    Calls Try.prog 10 #[.slice a len cap] w fun e w' => e = .returned (.bool true) ∧ Below w.heap.size w w' := by
  by_cases hllen : 1048576 < len
  · go_enter Try.func10, Try.ntmps10
    go_wp2
    go_ret
    exact ⟨rfl, Below.refl _ _⟩
  go_enter Try.func10, Try.ntmps10
  go_wp2_with fail
  with_reducible refine (drawSplit_any w a len cap zs h).mono ?_
  rintro e w1 ⟨A0, c0, L, p, rfl, hp0, hp1, hl, hnil, I0, hb1⟩
  clear h
  have HB1 : Below w.heap.size w w1 := hb1
  go_wp2_with fail
  with_reducible refine (split_i _ _ _ L _ p I0 (by omega)).mono ?_
  rintro e w2 ⟨A2, c2, xs, rfl, hs2, I2, hb2⟩
  have HB2 : Below w.heap.size w w2 := HB1.trans (hb2.mono HB1.size)
  have I0 := I0.below hb2
  go_wp2_with fail
  with_reducible refine (split_s _ _ _ L _ p I0 hnil (by omega)).mono ?_
  rintro e w3 ⟨A3, c3, xs3, rfl, hs3, I3, hb3⟩
  have HB3 : Below w.heap.size w w3 := HB2.trans (hb3.mono HB2.size)
  have I0 := I0.below hb3
  have I2 := I2.below hb3
  obtain rfl := splitted_unique hs2 hs3
  clear hs3
  rcases hs2 with ⟨hok, ⟨hq0, hq1⟩, O, hO, hxs⟩ | ⟨_, rfl⟩
  · have hxl : xs.length = L.length := by rw [hxs, share_len]
    have hxa : ∀ j, j < L.length → inth xs j = alloc (sp L) O p j := fun j hj => by rw [hxs, share_at hj]
    have hfast : ∀ i k, i < L.length → k < L.length → 0 < inth xs i → (onth L k).a = true → (onth L k).t < (onth L i).t → ¬ (onth L k).f + inth xs k < (onth L k).w := fun i k hi hk h1 h2 h3 => by
      rw [hxa k hk]
      rw [hxa i hi] at h1
      exact faster hO hq0 hk h1 h2 h3
    have hbd : ∀ j, j < L.length → (0 ≤ inth xs j ∧ inth xs j ≤ 64) ∧ (0 ≤ (onth L j).f ∧ (onth L j).f ≤ 64) := fun j hj => by
      have hb := optB_iff.1 ((okO_iff.1 hok).1 j hj)
      have h0 := alloc_bd (sp := sp L) (l := O) (n := p) (j := j) hq0 fun k hk => by have := order_sp hO k hk; omega
      rw [hxa j hj]
      refine ⟨⟨h0.1, ?_⟩, hb.2.2⟩
      by_cases hm : j ∈ O
      · have := h0.2 hm
        rw [show sp L j = (onth L j).w - (onth L j).f from rfl] at this
        omega
      · rw [alloc_out hm]; omega
    have HFA := hid_of hfast
    have HBD := hid_of hbd
    clear hok hO hxs hxa hfast hbd
    rw [hxl] at I2 I3 ⊢
    rcases Nat.eq_zero_or_pos L.length with e0 | hpos
    · obtain rfl : L = [] := List.eq_nil_of_length_eq_zero e0
      obtain rfl : xs = [] := List.eq_nil_of_length_eq_zero hxl
      go_wp2_with fail
      with_reducible refine (sameI_any _ _ 0 _ _ [] _ (IntsAt.empty _ _) (IntsAt.empty _ _) (by omega)).mono ?_
      rintro e w4 ⟨rfl, hb4⟩
      have HB4 : Below w.heap.size w w4 := HB3.trans (hb4.mono HB3.size)
      go_wp2_with fail
      with_reducible refine (sameI_any _ _ 0 _ _ [] _ (IntsAt.empty _ _) (IntsAt.empty _ _) (by omega)).mono ?_
      rintro e w5 ⟨rfl, hb5⟩
      go_wp2_with fail
      go_ret
      exact ⟨rfl, HB4.trans (hb5.mono HB4.size)⟩
    · have hne : ((L.length : Int) == 0) = false := by rw [beq_eq_false_iff_ne]; omega
      go_wp2_with fail
      with_reducible refine (sameI_any _ _ _ _ _ _ _ I2 I3 (by omega)).mono ?_
      rintro e w4 ⟨rfl, hb4⟩
      have HB4 : Below w.heap.size w w4 := HB3.trans (hb4.mono HB3.size)
      have I0 := I0.below hb4
      have I2 := I2.below hb4
      obtain ⟨nn, hnn⟩ : ∃ z, z = L.length := ⟨_, rfl⟩
      rw [← hnn] at hpos hne I0 I2 HFA HBD hl ⊢
      clear hnn hxl I3
      go_wp2_with fail
      go_loopw [7] (fun x wr => ∃ i : Nat, x = .int .i64 (i : Nat) ∧ i ≤ nn ∧ Below w4.heap.size w4 wr) (fun x _ => nn - (intOf x).toNat)
      case atStart => exact ⟨0, rfl, Nat.zero_le _, Below.refl _ _⟩
      case round =>
        obtain ⟨i, rfl, hi, hb⟩ := hrel
        by_cases hlt : i < nn
        · go_wp2_with fail
          go_loopw [8] (fun x wx => ∃ k : Nat, x = .int .i64 (k : Nat) ∧ k ≤ nn ∧ Below w4.heap.size w4 wx) (fun x _ => nn - (intOf x).toNat)
          case atStart => exact ⟨0, rfl, Nat.zero_le _, hb⟩
          case round =>
            obtain ⟨k, rfl, hk, hbx⟩ := hrel
            by_cases hltk : k < nn
            · obtain ⟨g, off, rfl, _, hc⟩ := (I0.below hbx).2 hpos
              obtain ⟨g2, off2, rfl, _, hc2⟩ := (I2.below hbx).2 hpos
              obtain ⟨d0, d1, d2, d3⟩ := hc k hltk
              obtain ⟨_, f1, _, _⟩ := hc i hlt
              have x1 := hc2 i hlt
              have x2 := hc2 k hltk
              have hfa := HFA.out i k hlt hltk
              have hb1 := HBD.out i hlt
              have hb2 := HBD.out k hltk
              generalize (onth L i).t = ti at f1 hfa
              generalize inth xs i = xi at x1 hfa hb1
              generalize inth xs k = xk at x2 hfa hb2
              generalize onth L k = y at d0 d1 d2 d3 hfa hb2
              obtain ⟨ya, yt, yw, yf⟩ := y
              dsimp only at d0 d1 d2 d3 hfa hb2
              obtain ⟨⟨b1, b2⟩, _⟩ := hb1
              obtain ⟨⟨b3, b4⟩, b5, b6⟩ := hb2
              have HFB := hid_of hfa
              clear hc hc2 hfa
              by_cases c1 : 0 < xi
              · cases ya with
                | false =>
                  go_wp2_with fail
                  go_quiet (fail)
                  go_wp2_with fail
                  go_roundw
                  case rel => exact ⟨k + 1, by go_num, by omega, below_drewN' hbx _⟩
                  case measure => simp [intOf]; omega
                | true =>
                  by_cases c3 : yt < ti
                  · have c4 : decide (yf + xk < yw) = false := decide_eq_false (by have := HFB.out c1 rfl c3; omega)
                    go_wp2_with fail
                    go_quiet (fail)
                    go_wp2_with fail
                    go_roundw
                    case rel => exact ⟨k + 1, by go_num, by omega, below_drewN' hbx _⟩
                    case measure => simp [intOf]; omega
                  · have c3' : decide (yt < ti) = false := decide_eq_false c3
                    go_wp2_with fail
                    go_quiet (fail)
                    go_wp2_with fail
                    go_roundw
                    case rel => exact ⟨k + 1, by go_num, by omega, below_drewN' hbx _⟩
                    case measure => simp [intOf]; omega
              · have c1' : decide (0 < xi) = false := decide_eq_false c1
                go_wp2_with fail
                go_quiet (fail)
                go_wp2_with fail
                go_roundw
                case rel => exact ⟨k + 1, by go_num, by omega, below_drewN' hbx _⟩
                case measure => simp [intOf]; omega
            · go_wp2_with fail
              go_roundw
              case rel => exact ⟨i + 1, by go_num, by omega, hbx⟩
              case measure => simp [intOf]; omega
        · go_wp2_with fail
          go_ret
          exact ⟨rfl, HB4.trans (hb.mono HB4.size)⟩
  · go_wp2_with fail
    with_reducible refine (sameI_any _ _ 0 _ _ [] _ (IntsAt.empty _ _) (IntsAt.empty _ _) (by omega)).mono ?_
    rintro e w4 ⟨rfl, hb4⟩
    have HB4 : Below w.heap.size w w4 := HB3.trans (hb4.mono HB3.size)
    go_wp2_with fail
    with_reducible refine (sameI_any _ _ 0 _ _ [] _ (IntsAt.empty _ _) (IntsAt.empty _ _) (by omega)).mono ?_
    rintro e w5 ⟨rfl, hb5⟩
    go_wp2_with fail
    go_ret
    exact ⟨rfl, HB4.trans (hb5.mono HB4.size)⟩

end Go.Proofs.Ytbmmoncbklcbmaa
