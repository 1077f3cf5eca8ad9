/- The walk of the law FnScheduleFull. -/
import Derived.Test.YtbmmoncbklcbmaaOrdU
namespace Go.Proofs.Ytbmmoncbklcbmaa
open Go.RowKit

set_option maxRecDepth 100000 in
set_option maxHeartbeats 4000000 in
theorem walkFnScheduleFull (w : World) (a : Option Addr) (len cap : Nat) (zs : List Int) (h : IsRow .u8 w a len cap zs) :
    Calls Try.prog 4 #[.slice a len cap] w fun e w' => e = .returned (.bool true) ∧ Below w.heap.size w w' := by
  by_cases hllen : 1048576 < len
  · go_enter Try.func4, Try.ntmps4
    go_wp2
    go_ret
    exact ⟨rfl, Below.refl _ _⟩
  go_enter Try.func4, Try.ntmps4
  go_wp2_with fail
  with_reducible refine (drawOrder_any w a len cap zs h).mono ?_
  rintro e w1 ⟨A0, c0, L, rfl, hl, hnil, I0, hb1⟩
  clear h
  have HB1 : Below w.heap.size w w1 := hb1
  go_wp2_with fail
  with_reducible refine (order_i _ _ _ L _ I0 (by omega)).mono ?_
  rintro e w2 ⟨A2, c2, out, rfl, ho, hA2, hlc2, hcm2, I2, hb2⟩
  have HB2 : Below w.heap.size w w2 := HB1.trans (hb2.mono HB1.size)
  have I0 := I0.below hb2
  go_wp2_with fail
  with_reducible refine (order_s _ _ _ L _ I0 (by omega)).mono ?_
  rintro e w3 ⟨A3, c3, out3, rfl, ho3, _, _, _, I3, hb3⟩
  have HB3 : Below w.heap.size w w3 := HB2.trans (hb3.mono HB2.size)
  have I0 := I0.below hb3
  have I2 := I2.below hb3
  obtain rfl := ordered_unique ho ho3
  clear ho3
  have hol := ordered_len ho
  have HO := hid_of ho
  clear ho
  go_wp2_with fail
  with_reducible refine (sameI_any _ _ _ _ _ _ _ I2 I3 (by omega)).mono ?_
  rintro e w4 ⟨rfl, hb4⟩
  have HB4 : Below w.heap.size w w4 := HB3.trans (hb4.mono HB3.size)
  have I0 := I0.below hb4
  have I2 := I2.below hb4
  have I3 := I3.below hb4
  cases out with
  | nil =>
    go_wp2_with fail
    with_reducible refine (sameI_any _ _ 0 _ _ [] _ (IntsAt.empty _ _) (IntsAt.empty _ _) (by omega)).mono ?_
    rintro e w6 ⟨rfl, hb6⟩
    go_wp2_with fail
    go_ret
    exact ⟨rfl, HB4.trans (hb6.mono HB4.size)⟩
  | cons i t =>
    obtain ⟨g2, rfl⟩ : ∃ g2, A2 = some ⟨g2, 0, none⟩ := by
      rcases hA2 with ⟨_, e⟩ | e
      · cases e
      · exact e
    obtain ⟨hi, HT⟩ := full_tail HO.out
    have HT := hid_of HT
    unfold maxLen at hcm2
    have hlp : 0 < (i :: t).length := by simp
    have T2 := tail_at I2 hlc2
    obtain ⟨b2, off2, e2, hg2, hc2⟩ := I2.2 hlp
    cases e2
    have e0 := hc2 0 hlp
    have ee : inth (ints (i :: t)) 0 = i := rfl
    rw [ee, Nat.add_zero] at e0
    obtain ⟨len5, hlen⟩ : ∃ x, x = (i :: t).length := ⟨_, rfl⟩
    have htl : t.length = len5 - 1 := by rw [hlen]; simp
    rw [← hlen] at hlp hlc2 T2 ⊢
    have hne : ((len5 : Int) == 0) = false := by rw [beq_eq_false_iff_ne]; omega
    have hpos : (0 : Int) < (len5 : Int) := by omega
    have hpos1 : (1 : Int) ≤ (len5 : Int) := by omega
    have hc1 : (len5 : Int) ≤ (c2 : Int) := by omega
    have hle : len5 ≤ 2000000 := by
      rw [hlen]
      omega
    have HTL := hid_of htl
    clear hlen hc2 I2 I3 htl
    go_wp2_with (at_builtin; refine wpList_copy_opts _ rfl _ _ rfl rfl (World.ownsRow_lit _ #[] 0 (Nat.le_refl _) (Nat.zero_le _) rfl) (by simp) rfl (I0.alloc _) hnil (by omega) ?_; intro A6 c6 w6 hI6 hgr)
    have hb6 : Below w4.heap.size w4 w6 := ((Below.refl _ w4).alloc (Nat.le_refl _) _).grown hgr (by simp) (by intro k hk; simp at hk; omega)
    have HB6 : Below w.heap.size w w6 := HB4.trans (hb6.mono HB4.size)
    have e6 := (hb6.cell (p := ⟨g2, 0, none⟩) hg2).trans e0
    obtain ⟨g6, rfl, hg61, _, hg6l, hf6, hc6⟩ := hI6.at_ (by omega)
    obtain ⟨d0, d1, d2, d3⟩ := hc6 i hi
    have f3 := hf6 (i * 4 + 3)
    have i0 : (0 : Int) ≤ (i : Int) := Int.natCast_nonneg _
    have i1 : (i : Int) < (L.length : Int) := by omega
    have T6 := T2.below hb6
    have J7 : OptsAt (w6.setCell ⟨g6, i * 4 + 3, none⟩ (.int .i64 (onth L i).w)) (some ⟨g6, 0, none⟩) L.length (setF L i (onth L i).w) := (hI6.storeF hi _).reads
    have tb6 : Touch w6 (w6.setCell ⟨g6, i * 4 + 3, none⟩ (.int .i64 (onth L i).w)) w4.heap.size (g6 + 1) := (Touch.refl w6 _ _).setCell (p := ⟨g6, i * 4 + 3, none⟩) hg61 (by show g6 < g6 + 1; omega) _
    have T7 : IntsAt (w6.setCell ⟨g6, i * 4 + 3, none⟩ (.int .i64 (onth L i).w)) (if c2 = 1 then some ⟨g2, 0, none⟩ else some ⟨g2, 1, none⟩) (len5 - 1) (ints t) := T6.touch tb6 fun b off e => by
      split at e
      · cases e
        exact .inl hg2
      · cases e
        exact .inl hg2
    have HB7 : Below w.heap.size w (w6.setCell ⟨g6, i * 4 + 3, none⟩ (.int .i64 (onth L i).w)) := HB6.setCell (p := ⟨g6, i * 4 + 3, none⟩) (by show _ ≤ g6; have := HB4.size; omega) _
    have hS := cell_drew e6
    have hD := cell_drew d2
    clear hc6 hf6 T2 T6 d0 d1 e0
    generalize hwv : (onth L i).w = wv at d2 hD J7 T7 HB7 HT
    clear tb6 hwv
    have hne62 : g2 ≠ g6 := by omega
    have hS3 : (w6.setCell ⟨g6, i * 4 + 3, none⟩ (.int .i64 wv)).drew.cell? ⟨g2, 0, none⟩ = some (.int .i64 i) := cell_drew ((World.cell?_of_block (w := w6) (a := ⟨g2, 0, none⟩) (Below.heap_setCell w6 _ _ g2 hne62)).trans e6)
    have hD3 : (w6.setCell ⟨g6, i * 4 + 3, none⟩ (.int .i64 wv)).drew.cell? ⟨g6, i * 4 + 2, none⟩ = some (.int .i64 wv) := cell_drew ((World.cell?_setCell_other _ _ _ _ (by intro e; injection e with _ e; omega)).trans d2)
    by_cases hc21 : c2 = 1
    · subst hc21
      obtain rfl : len5 = 1 := by omega
      rw [if_pos rfl] at T7
      go_wp2_with fail
      go_region_held3 (fun w' => w'.cell? ⟨g2, 0, none⟩ = some (.int .i64 i) ∧ w'.cell? ⟨g6, i * 4 + 2, none⟩ = some (.int .i64 wv))
        (first | (with_reducible exact ⟨hS, hD⟩) | (with_reducible exact ⟨hS3, hD3⟩) | fail)
        (fail)
      all_goals go_wp2_with fail
      generalize World.setCell _ _ _ = w7 at J7 T7 HB7 ⊢
      go_region_with (first
        | (go_at_call 17; (with_reducible refine (order_i _ _ _ _ _ J7 (by omega)).mono ?_); rintro e w8 ⟨A8, c8, out8, rfl, ho8, _, _, _, I8, hb8⟩; have hl8 : out8.length ≤ 2000000 := (by have := ordered_len ho8; rw [len_setF] at this; omega); have T8 := T7.below hb8; have HB8 := HB7.trans (hb8.mono HB7.size))
        | (go_at_call 17; (with_reducible refine (order_i _ _ _ _ _ J7.drew (by omega)).mono ?_); rintro e w8 ⟨A8, c8, out8, rfl, ho8, _, _, _, I8, hb8⟩; have hl8 : out8.length ≤ 2000000 := (by have := ordered_len ho8; rw [len_setF] at this; omega); have T8 := T7.drew.below hb8; have HB8 := HB7.drew.trans (hb8.mono HB7.drew.size))
        | (go_at_call 17; (with_reducible refine (order_i _ _ _ _ _ J7.drew.drew (by omega)).mono ?_); rintro e w8 ⟨A8, c8, out8, rfl, ho8, _, _, _, I8, hb8⟩; have hl8 : out8.length ≤ 2000000 := (by have := ordered_len ho8; rw [len_setF] at this; omega); have T8 := T7.drew.drew.below hb8; have HB8 := HB7.drew.drew.trans (hb8.mono HB7.drew.drew.size))
        | (go_at_call 19; (with_reducible refine (same_of I8 T8 (congrArg ints (ordered_unique ho8 HT.out)) hl8).mono ?_); rintro e w9 ⟨rfl, hb9⟩))
      all_goals go_wp2_with fail
      all_goals
        go_ret
        exact ⟨rfl, by first | exact HB8.trans (hb9.mono HB8.size) | exact (HB8.trans (hb9.mono HB8.size)).drew⟩
    · rw [if_neg hc21] at T7
      go_wp2_with fail
      go_region_held3 (fun w' => w'.cell? ⟨g2, 0, none⟩ = some (.int .i64 i) ∧ w'.cell? ⟨g6, i * 4 + 2, none⟩ = some (.int .i64 wv))
        (first | (with_reducible exact ⟨hS, hD⟩) | (with_reducible exact ⟨hS3, hD3⟩) | fail)
        (fail)
      all_goals go_wp2_with fail
      generalize World.setCell _ _ _ = w7 at J7 T7 HB7 ⊢
      go_region_with (first
        | (go_at_call 17; (with_reducible refine (order_i _ _ _ _ _ J7 (by omega)).mono ?_); rintro e w8 ⟨A8, c8, out8, rfl, ho8, _, _, _, I8, hb8⟩; have hl8 : out8.length ≤ 2000000 := (by have := ordered_len ho8; rw [len_setF] at this; omega); have T8 := T7.below hb8; have HB8 := HB7.trans (hb8.mono HB7.size))
        | (go_at_call 17; (with_reducible refine (order_i _ _ _ _ _ J7.drew (by omega)).mono ?_); rintro e w8 ⟨A8, c8, out8, rfl, ho8, _, _, _, I8, hb8⟩; have hl8 : out8.length ≤ 2000000 := (by have := ordered_len ho8; rw [len_setF] at this; omega); have T8 := T7.drew.below hb8; have HB8 := HB7.drew.trans (hb8.mono HB7.drew.size))
        | (go_at_call 17; (with_reducible refine (order_i _ _ _ _ _ J7.drew.drew (by omega)).mono ?_); rintro e w8 ⟨A8, c8, out8, rfl, ho8, _, _, _, I8, hb8⟩; have hl8 : out8.length ≤ 2000000 := (by have := ordered_len ho8; rw [len_setF] at this; omega); have T8 := T7.drew.drew.below hb8; have HB8 := HB7.drew.drew.trans (hb8.mono HB7.drew.drew.size))
        | (go_at_call 19; (with_reducible refine (same_of I8 T8 (congrArg ints (ordered_unique ho8 HT.out)) hl8).mono ?_); rintro e w9 ⟨rfl, hb9⟩))
      all_goals go_wp2_with fail
      all_goals
        go_ret
        exact ⟨rfl, by first | exact HB8.trans (hb9.mono HB8.size) | exact (HB8.trans (hb9.mono HB8.size)).drew⟩

end Go.Proofs.Ytbmmoncbklcbmaa
