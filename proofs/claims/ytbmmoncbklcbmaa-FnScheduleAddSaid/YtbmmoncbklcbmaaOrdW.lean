/- The reference's order of paths, walked. -/
import Derived.Test.YtbmmoncbklcbmaaOrdS
namespace Go.Proofs.Ytbmmoncbklcbmaa
open Go.RowKit

theorem news_of {w W : World} {g q m : Nat} {n : Nat} {xs : List Int} (hc : ∀ i, i < n → w.cell? ⟨g, i, none⟩ = some (.int .i64 (inth xs i))) (hg : g < w.heap.size) (hb : Below w.heap.size w W) (hq : q + m ≤ n) {ys : List Int}
    (hy : ∀ j, j < m → inth ys j = inth xs (q + j)) : ∀ j, j < m → W.cell? ((⟨g, q, none⟩ : Addr).add j) = some (.int .i64 (inth ys j)) := fun j hj => by
  rw [Addr.add_lit, hb.cell (p := ⟨g, q + j, none⟩) hg, hc _ (by omega), hy j hj]
theorem inth_left (xs ys : List Int) {j : Nat} (h : j < xs.length) : inth (xs ++ ys) j = inth xs j := by
  unfold inth; rw [List.getD_eq_getElem?_getD, List.getD_eq_getElem?_getD, List.getElem?_append_left h]
theorem inth_right (xs ys : List Int) (j : Nat) : inth (xs ++ ys) (xs.length + j) = inth ys j := by
  unfold inth; rw [List.getD_eq_getElem?_getD, List.getD_eq_getElem?_getD, List.getElem?_append_right (by omega)]; simp

theorem mem_ins {L : List Opt} {P1 P2 xs : List Nat} {k : Nat} (he : P1 ++ P2 = xs) (hX : ∀ z, z ∈ xs ↔ z < k ∧ freeB (onth L z) = true) (hf : freeB (onth L k) = true) (z : Nat) : z ∈ P1 ++ k :: P2 ↔ z < k + 1 ∧ freeB (onth L z) = true := by
  have h : z ∈ P1 ++ k :: P2 ↔ z = k ∨ z ∈ xs := by
    rw [← he]
    simp only [List.mem_append, List.mem_cons]
    constructor
    · intro h
      rcases h with h | h | h
      · exact .inr (.inl h)
      · exact .inl h
      · exact .inr (.inr h)
    · intro h
      rcases h with h | h | h
      · exact .inr (.inl h)
      · exact .inl h
      · exact .inr (.inr h)
  rw [h, hX]
  constructor
  · rintro (rfl | ⟨h1, h2⟩)
    · exact ⟨by omega, hf⟩
    · exact ⟨by omega, h2⟩
  · rintro ⟨h1, h2⟩
    rcases (show z < k ∨ z = k from by omega) with e | e
    · exact .inr ⟨e, h2⟩
    · exact .inl e
/-- What the reference's order has made. -/
def GotOwn (w : World) (L : List Opt) (e : Ending) (w' : World) : Prop :=
  ∃ g c out, e = .returned (.slice (some ⟨g, 0, none⟩) out.length c) ∧ IsOrder L out ∧ OwnI w' w.heap.size g out.length c (ints out) ∧ Below w.heap.size w w'

set_option maxRecDepth 100000 in
set_option maxHeartbeats 4000000 in
theorem l43_any (A : Option Addr) (n c : Nat) (L : List Opt) (w : World) (h : OptsAt w A n L) (hn : n ≤ 1000) (hbt : ∀ i, i < n → 0 ≤ (onth L i).t ∧ (onth L i).t ≤ 100000) :
    Calls Try.prog 38 #[.slice A n c] w (GotOwn w L) := by
  have hl := h.1
  have HBT := hid_of hbt
  clear hbt
  go_enter Try.func38, Try.ntmps38
  go_wp2_with fail
  go_loopw [3, 4] (fun s i wr => ∃ (k g c1 : Nat) (xs : List Nat), i = .int .i64 (k : Nat) ∧ s = .slice (some ⟨g, 0, none⟩) xs.length c1 ∧ k ≤ n ∧ xs.length ≤ k ∧ Hid (xs.Pairwise (Lt L) ∧ (∀ z, z ∈ xs ↔ z < k ∧ freeB (onth L z) = true)) ∧ OwnI wr w.heap.size g xs.length c1 (ints xs) ∧ Below w.heap.size w wr)
    (fun _ i _ => n - (intOf i).toNat)
  case atStart => exact ⟨0, w.heap.size, 0, [], rfl, rfl, Nat.zero_le _, Nat.le_refl _, ⟨List.Pairwise.nil, fun z => by simp⟩, own_empty (heap_alloc_new _ _) (Nat.le_refl _), (Below.refl _ w).alloc (Nat.le_refl _) _⟩
  case round =>
    obtain ⟨k, g1, c1, xs, rfl, rfl, hk, hxl, HX, hI, hb⟩ := hrel
    have hsr := hb.size
    by_cases hlt : k < n
    · obtain ⟨g, off, rfl, hgl, hc⟩ := (h.below hb).2 (by omega)
      obtain ⟨d0, d1, d2, d3⟩ := hc k hlt
      have HC := hid_of hc
      have hno : freeB (onth L k) = false → (∀ z, z ∈ xs ↔ z < k + 1 ∧ freeB (onth L z) = true) := fun hf z => by
        rw [HX.out.2 z]
        constructor
        · rintro ⟨h1, h2⟩; exact ⟨by omega, h2⟩
        · rintro ⟨h1, h2⟩
          refine ⟨?_, h2⟩
          rcases (show z < k ∨ z = k from by omega) with e | e
          · exact e
          · rw [e, hf] at h2; cases h2
      have HN := hid_of hno
      have hbk := HBT.out k hlt
      obtain ⟨⟨a, t, v, f⟩, hx⟩ : ∃ x, x = onth L k := ⟨_, rfl⟩
      have hfree : freeB ⟨a, t, v, f⟩ = freeB (onth L k) := by rw [hx]
      have htk : t = (onth L k).t := by rw [← hx]
      rw [← hx] at d0 d1 d2 d3
      dsimp only at d0 d1 d2 d3
      rw [← htk] at hbk
      obtain ⟨hbk0, hbk1⟩ := hbk
      have HT := hid_of htk
      have HFR := hid_of hfree
      clear hc hx hno hfree htk
      cases a with
      | false =>
        go_wp2_with fail
        go_quiet (fail)
        go_wp2_with fail
        go_roundw
        case rel => exact ⟨k + 1, g1, c1, xs, by go_num, rfl, by omega, by omega, ⟨HX.out.1, HN.out HFR.out.symm⟩, hI.below (below_drewN' (Below.refl _ _) _), below_drewN' hb _⟩
        case measure => simp [intOf]; omega
      | true =>
        by_cases hfv : f < v
        · have HF : Hid (freeB (onth L k) = true) := by unfold Hid; rw [← HFR.out]; unfold freeB; simp [hfv]
          have hd : decide (v ≤ f) = false := decide_eq_false (by omega)
          go_wp2_with fail
          go_quiet (fail)
          go_wp2_with fail
          obtain ⟨wo, hwo⟩ : ∃ wo : World, wo = wr.drewN nq := ⟨_, rfl⟩
          have hbo : Below w.heap.size w wo := by rw [hwo]; exact below_drewN' hb _
          have hIo : OwnI wo w.heap.size g1 xs.length c1 (ints xs) := by rw [hwo]; exact hI.below (below_drewN' (Below.refl _ _) _)
          have HCo : Hid (∀ i, i < n → wo.cell? ⟨g, off + i * 4 + 1, none⟩ = some (.int .i64 (onth L i).t)) := fun i hi => by rw [hwo]; exact (HC.out i hi).2.1
          rw [← hwo]
          clear hwo d0 d1 d2 d3 HC
          have gsz : g < wo.heap.size := by
            have := World.block_lt_of_cell? wo _ (HCo.out k hlt)
            exact this
          go_loopw [5] (fun j wx => ∃ P1 P2 : List Nat, j = .int .i64 (P1.length : Nat) ∧ P1.length ≤ xs.length ∧ Hid (P1 ++ P2 = xs ∧ ∀ y, y ∈ P2 → t < (onth L y).t) ∧ Below wo.heap.size wo wx) (fun j _ => (intOf j).toNat)
          case atStart => exact ⟨xs, [], rfl, Nat.le_refl _, ⟨by simp, by simp⟩, Below.refl _ _⟩
          case round =>
            obtain ⟨P1, P2, rfl, hP1, HP, hbx⟩ := hrel
            have c1x := (hbx.cell (p := ⟨g, off + k * 4 + 1, none⟩) gsz).trans (HCo.out k hlt)
            rw [← HT.out] at c1x
            by_cases hj : 0 < P1.length
            · obtain ⟨Q, y, rfl⟩ := last_of hj
              have hQl : (Q ++ [y]).length = Q.length + 1 := by simp
              rw [hQl] at hP1 ⊢
              have hshape : xs = Q ++ y :: P2 := by rw [← HP.out.1]; simp
              have hIx := hIo.below hbx
              obtain ⟨g', e', _, _, hgl', _, hcx⟩ := hIx.in_.at_ (by omega)
              cases e'
              have e0 := hcx Q.length (by omega)
              rw [hshape, mid] at e0
              have hym : y ∈ xs := by rw [hshape]; simp
              have hyk := ((HX.out.2 y).1 hym).1
              have hyn : y < n := by omega
              have c2x := (hbx.cell (p := ⟨g, off + y * 4 + 1, none⟩) gsz).trans (HCo.out y hyn)
              obtain ⟨ty, hty⟩ : ∃ ty, ty = (onth L y).t := ⟨_, rfl⟩
              have hby := HBT.out y hyn
              rw [← hty] at c2x hby
              have HTY := hid_of hty
              have HSH := hid_of hshape
              clear hshape hty hcx hym
              have i0 : (0 : Int) ≤ (Q.length : Int) := Int.natCast_nonneg _
              have i1 : (Q.length : Int) < (xs.length : Int) := by omega
              have i2 : (0 : Int) ≤ (y : Int) := Int.natCast_nonneg _
              have i3 : (y : Int) < (n : Int) := by omega
              have i4 : (0 : Int) ≤ (k : Int) := Int.natCast_nonneg _
              have i5 : (k : Int) < (n : Int) := by omega
              by_cases hgt : t < ty
              · go_wp2_with fail
                go_quiet (fail)
                go_wp2_with fail
                go_roundw
                case rel =>
                  refine ⟨Q, y :: P2, by go_num, by omega, ⟨by rw [← HP.out.1]; simp, ?_⟩, below_drewN' hbx _⟩
                  intro z hz
                  rcases List.mem_cons.1 hz with e | e
                  · rw [e, ← HTY.out]; exact hgt
                  · exact HP.out.2 z e
                case measure => first | (simp [intOf]; done) | (simp [intOf]; omega)
              · have hd2 : decide (t < ty) = false := decide_eq_false hgt
                go_wp2_with fail
                go_quiet (fail)
                go_wp2_with fail
                obtain ⟨wy, hwy⟩ : ∃ wy : World, wy = wr.drewN nq := ⟨_, rfl⟩
                rw [← hwy]
                have hby0 : Below wo.heap.size wo wy := by rw [hwy]; exact below_drewN' hbx _
                have hIy := hIo.below hby0
                have hcy : ∀ i, i < xs.length → wy.cell? ⟨g1, i, none⟩ = some (.int .i64 (inth (ints xs) i)) := fun i hi => by
                  obtain ⟨g', e', _, _, _, _, hcx⟩ := hIy.in_.at_ (by omega)
                  cases e'
                  exact hcx i hi
                have hg1y := hIy.2
                have HCY := hid_of hcy
                have hsplit : ints xs = ints (Q ++ [y]) ++ ints P2 := by rw [← ints_append, HP.out.1]
                have hpl : Q.length + 1 + P2.length = xs.length := by have := congrArg List.length HP.out.1; simp at this; omega
                have HSP := hid_of hsplit
                have hp1l : (ints (Q ++ [y])).length = Q.length + 1 := by rw [ints_len, hQl]
                have hcapy := hIy.in_.cap
                have hins := insert_end (L := L) (P1 := Q ++ [y]) (P2 := P2) (x := k) (by rw [HP.out.1]; exact HX.out.1) (by rw [HP.out.1]; exact fun z hz => ((HX.out.2 z).1 hz).1) (by rw [← HT.out]; exact HP.out.2) (.inr ⟨Q, y, rfl, by rw [← HT.out, ← HTY.out]; omega⟩)
                have HINS := hid_of hins
                clear hwy hcy hsplit hins
                have n1 : ∀ W : World, Below wy.heap.size wy W → ∀ j, j < Q.length + 1 → W.cell? ((⟨g1, 0, none⟩ : Addr).add j) = some (.int .i64 (inth (ints (Q ++ [y])) j)) := fun W hW => news_of HCY.out hg1y hW (by omega) (fun j hj => by rw [HSP.out, Nat.zero_add, inth_left _ _ (by omega)])
                have n3 : ∀ W : World, Below wy.heap.size wy W → ∀ j, j < xs.length - (Q.length + 1) → W.cell? ((⟨g1, Q.length + 1, none⟩ : Addr).add j) = some (.int .i64 (inth (ints P2) j)) := fun W hW => news_of HCY.out hg1y hW (by omega) (fun j hj => by rw [HSP.out, ← hp1l, inth_right])
                have N1 := hid_of n1
                have N3 := hid_of n3
                clear n1 n3
                have k0 : (0 : Int) ≤ (xs.length : Int) := Int.natCast_nonneg _
                have k1 : (xs.length : Int) ≤ (c1 : Int) := by have := hcapy.1; omega
                have k2 : ((Q.length : Int) + 1 : Int) ≤ (xs.length : Int) := by omega
                have k3 : (Q.length : Int) + 1 ≤ (c1 : Int) := by omega
                have k4 : (0 : Int) ≤ (Q.length : Int) + 1 := by omega
                go_region_law (first
                  | (refine step_app (by rfl) _ _ (by rfl) wy.heap.size _ 0 0 [] (by rfl) (own_empty (by first | exact heap_alloc_new _ _ | exact alloc2_new _ _ _ | exact (heap_alloc_old _ _ (by simp)).trans (heap_alloc_new _ _)) (by first | (simp; done) | (simp; omega))) (by first | (simp; done) | (simp; omega)) _ (Q.length + 1) _ (ints (Q ++ [y])) (by rfl) hp1l (by intro e; cases e) (fun _ => ⟨_, rfl, N1.out _ (by go_grown)⟩) (by omega) (Q.length + 1) (by omega) (ints (Q ++ [y])) (by simp) ?_; intro g2 cap2 w2 hO2 hG2; have hB2 := below_grown_new (w := wy) (by go_grown) hG2 (by first | (simp; done) | (simp; omega)))
                  | (refine step_app (by rfl) _ _ (by rfl) wy.heap.size g2 (Q.length + 1) cap2 (ints (Q ++ [y])) (by rfl) (by first | exact hO2 | exact hO2.below ((Below.refl _ _).alloc (Nat.le_refl _) _)) (by first | exact hB2.size | exact (hB2.alloc hB2.size _).size) _ 1 1 [(k : Int)] (by rfl) (by rfl) (by intro e; cases e) (fun _ => ⟨_, rfl, by intro j hj; obtain rfl : j = 0 := (by omega); first | (simp [Addr.add_lit, inth]; done) | (rw [Addr.add_lit]; done) | (rw [Addr.add_lit]; exact hG2.cell (by simp [inth]) (by intro e; injection e with e; simp at e <;> omega))⟩) (by omega) (Q.length + 1 + 1) (by omega) (ints (Q ++ [y]) ++ [(k : Int)]) rfl ?_; intro g3 cap3 w3 hO3 hG3; have hB3 := below_grown_new (w := wy) (by first | exact hB2 | exact hB2.alloc hB2.size _) hG3 hO2.ge)
                  | (refine step_app (by rfl) _ _ (by rfl) wy.heap.size g3 (Q.length + 1 + 1) cap3 (ints (Q ++ [y]) ++ [(k : Int)]) (by rfl) hO3 hB3.size _ (xs.length - (Q.length + 1)) _ (ints P2) (by rfl) (by rw [ints_len]; omega) (by intro e; first | (cases e; done) | (split at e <;> cases e)) (fun hm => ⟨_, by first | rfl | exact if_neg (by omega), N3.out _ hB3⟩) (by omega) (xs.length + 1) (by omega) (ints ((Q ++ [y]) ++ k :: P2)) (by rw [ints_append]; simp [ints]) ?_; intro g4 cap4 w4 hO4 hG4; have hB4 := below_grown_new (w := wy) hB3 hG4 hO3.ge)
                  | fail)
                all_goals go_wp2_with fail
                all_goals
                  go_roundw
                  case rel =>
                    have hfl : ((Q ++ [y]) ++ k :: P2).length = xs.length + 1 := by simp; omega
                    refine ⟨k + 1, g4, cap4, (Q ++ [y]) ++ k :: P2, by go_num, by rw [hfl], by omega, by omega, ⟨HINS.out, mem_ins HP.out.1 HX.out.2 HF.out⟩, by rw [hfl]; exact hO4.base (by have := hbo.size; have := hby0.size; omega), (hbo.trans (hby0.mono hbo.size)).trans (hB4.mono (by have := hbo.size; have := hby0.size; omega))⟩
                  case measure => simp [intOf]; omega
            · have hP0 : P1 = [] := List.eq_nil_of_length_eq_zero (by omega)
              subst hP0
              go_wp2_with fail
              go_quiet (fail)
              go_wp2_with fail
              obtain ⟨wy, hwy⟩ : ∃ wy : World, wy = wr.drewN nq := ⟨_, rfl⟩
              rw [← hwy]
              have hby0 : Below wo.heap.size wo wy := by rw [hwy]; exact below_drewN' hbx _
              have hIy := hIo.below hby0
              have hcy : ∀ i, i < xs.length → wy.cell? ⟨g1, i, none⟩ = some (.int .i64 (inth (ints xs) i)) := fun i hi => by
                obtain ⟨g', e', _, _, _, _, hcx⟩ := hIy.in_.at_ (by omega)
                cases e'
                exact hcx i hi
              have hg1y := hIy.2
              have HCY := hid_of hcy
              have hsplit : ints xs = ints ([] : List Nat) ++ ints P2 := by rw [← ints_append, HP.out.1]
              have hpl : P2.length = xs.length := by rw [← HP.out.1]; simp
              have HSP := hid_of hsplit
              have hp1l : (ints ([] : List Nat)).length = 0 := by rfl
              have hcapy := hIy.in_.cap
              have hins := insert_end (L := L) (P1 := []) (P2 := P2) (x := k) (by rw [HP.out.1]; exact HX.out.1) (by rw [HP.out.1]; exact fun z hz => ((HX.out.2 z).1 hz).1) (by rw [← HT.out]; exact HP.out.2) (.inl rfl)
              have HINS := hid_of hins
              clear hwy hcy hsplit hins
              have n1 : ∀ W : World, Below wy.heap.size wy W → ∀ j, j < 0 → W.cell? ((⟨g1, 0, none⟩ : Addr).add j) = some (.int .i64 (inth (ints ([] : List Nat)) j)) := fun W hW => news_of HCY.out hg1y hW (by omega) (fun j hj => by rw [HSP.out, Nat.zero_add, inth_left _ _ (by omega)])
              have n3 : ∀ W : World, Below wy.heap.size wy W → ∀ j, j < xs.length - (0) → W.cell? ((⟨g1, 0, none⟩ : Addr).add j) = some (.int .i64 (inth (ints P2) j)) := fun W hW => news_of HCY.out hg1y hW (by omega) (fun j hj => by rw [HSP.out, ← hp1l, inth_right])
              have N1 := hid_of n1
              have N3 := hid_of n3
              clear n1 n3
              have k0 : (0 : Int) ≤ (xs.length : Int) := Int.natCast_nonneg _
              have k1 : (xs.length : Int) ≤ (c1 : Int) := by have := hcapy.1; omega
              have k2 : (0 : Int) ≤ (xs.length : Int) := by omega
              go_region_law (first
                | (refine step_app (by rfl) _ _ (by rfl) wy.heap.size _ 0 0 [] (by rfl) (own_empty (by first | exact heap_alloc_new _ _ | exact alloc2_new _ _ _ | exact (heap_alloc_old _ _ (by simp)).trans (heap_alloc_new _ _)) (by first | (simp; done) | (simp; omega))) (by first | (simp; done) | (simp; omega)) _ (0) _ (ints ([] : List Nat)) (by rfl) hp1l (by intro e; cases e) (fun _ => ⟨_, rfl, N1.out _ (by go_grown)⟩) (by omega) (0) (by omega) (ints ([] : List Nat)) (by simp) ?_; intro g2 cap2 w2 hO2 hG2; have hB2 := below_grown_new (w := wy) (by go_grown) hG2 (by first | (simp; done) | (simp; omega)))
                | (refine step_app (by rfl) _ _ (by rfl) wy.heap.size g2 (0) cap2 (ints ([] : List Nat)) (by rfl) (by first | exact hO2 | exact hO2.below ((Below.refl _ _).alloc (Nat.le_refl _) _)) (by first | exact hB2.size | exact (hB2.alloc hB2.size _).size) _ 1 1 [(k : Int)] (by rfl) (by rfl) (by intro e; cases e) (fun _ => ⟨_, rfl, by intro j hj; obtain rfl : j = 0 := (by omega); first | (simp [Addr.add_lit, inth]; done) | (rw [Addr.add_lit]; done) | (rw [Addr.add_lit]; exact hG2.cell (by simp [inth]) (by intro e; injection e with e; simp at e <;> omega))⟩) (by omega) (0 + 1) (by omega) (ints ([] : List Nat) ++ [(k : Int)]) rfl ?_; intro g3 cap3 w3 hO3 hG3; have hB3 := below_grown_new (w := wy) (by first | exact hB2 | exact hB2.alloc hB2.size _) hG3 hO2.ge)
                | (refine step_app (by rfl) _ _ (by rfl) wy.heap.size g3 (0 + 1) cap3 (ints ([] : List Nat) ++ [(k : Int)]) (by rfl) hO3 hB3.size _ (xs.length - (0)) _ (ints P2) (by rfl) (by rw [ints_len]; omega) (by intro e; first | (cases e; done) | (split at e <;> cases e)) (fun hm => ⟨_, by first | rfl | exact if_neg (by omega), N3.out _ hB3⟩) (by omega) (xs.length + 1) (by omega) (ints (([] : List Nat) ++ k :: P2)) (by rw [ints_append]; simp [ints]) ?_; intro g4 cap4 w4 hO4 hG4; have hB4 := below_grown_new (w := wy) hB3 hG4 hO3.ge)
                | fail)
              all_goals go_wp2_with fail
              all_goals
                go_roundw
                case rel =>
                  have hfl : (([] : List Nat) ++ k :: P2).length = xs.length + 1 := by simp; omega
                  refine ⟨k + 1, g4, cap4, ([] : List Nat) ++ k :: P2, by go_num, by rw [hfl], by omega, by omega, ⟨HINS.out, mem_ins HP.out.1 HX.out.2 HF.out⟩, by rw [hfl]; exact hO4.base (by have := hbo.size; have := hby0.size; omega), (hbo.trans (hby0.mono hbo.size)).trans (hB4.mono (by have := hbo.size; have := hby0.size; omega))⟩
                case measure => simp [intOf]; omega
        · have HF : Hid (freeB (onth L k) = false) := by unfold Hid; rw [← HFR.out]; unfold freeB; simp; omega
          have hd : decide (v ≤ f) = true := decide_eq_true (by omega)
          go_wp2_with fail
          go_quiet (fail)
          go_wp2_with fail
          go_roundw
          case rel => exact ⟨k + 1, g1, c1, xs, by go_num, rfl, by omega, by omega, ⟨HX.out.1, HN.out HF.out⟩, hI.below (below_drewN' (Below.refl _ _) _), below_drewN' hb _⟩
          case measure => simp [intOf]; omega
    · have hkn : k = n := by omega
      subst hkn
      clear hlt
      go_wp2_with fail
      go_ret
      exact ⟨g1, c1, xs, rfl, ⟨HX.out.1, fun z => by rw [HX.out.2 z, hl]⟩, hI, hb⟩

end Go.Proofs.Ytbmmoncbklcbmaa
