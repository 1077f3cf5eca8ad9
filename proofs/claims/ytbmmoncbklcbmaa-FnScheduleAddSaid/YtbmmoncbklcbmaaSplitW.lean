/- The program's assignment of packets, walked. -/
import Derived.Test.YtbmmoncbklcbmaaSplitPlain
namespace Go.Proofs.Ytbmmoncbklcbmaa
open Go.RowKit

theorem IntsAt.other {w : World} {A : Option Addr} {n : Nat} {xs : List Int} (h : IntsAt w A n xs) {g j : Nat} (u : Value) (hne : 0 < n → ∀ b off, A = some ⟨b, off, none⟩ → b ≠ g) : IntsAt (w.setCell ⟨g, j, none⟩ u) A n xs :=
  ⟨h.1, fun hn => by
    obtain ⟨b, off, e, hlt, hc⟩ := h.2 hn
    exact ⟨b, off, e, by simpa [World.setCell] using hlt, fun i hi => (World.cell?_of_block (w := w) (a := ⟨b, off + i, none⟩) (Below.heap_setCell w ⟨g, j, none⟩ u b (hne hn b off e))).trans (hc i hi)⟩⟩
theorem IntsAt.drewN {w : World} {A : Option Addr} {n : Nat} {xs : List Int} (h : IntsAt w A n xs) (m : Nat) : IntsAt (w.drewN m) A n xs := h
theorem IntsIn.other {w : World} {B S : Nat} {A : Option Addr} {n c : Nat} {xs : List Int} (h : IntsIn w B S A n c xs) {g j : Nat} (u : Value) (hne : A ≠ some ⟨g, 0, none⟩) : IntsIn (w.setCell ⟨g, j, none⟩ u) B S A n c xs := ⟨h.1, h.2.other (p := ⟨g, j, none⟩) hne u⟩
theorem OptsIn.other {w : World} {B S : Nat} {A : Option Addr} {n c : Nat} {L : List Opt} (h : OptsIn w B S A n c L) {g j : Nat} (u : Value) (hne : A ≠ some ⟨g, 0, none⟩) : OptsIn (w.setCell ⟨g, j, none⟩ u) B S A n c L := ⟨h.1, h.2.other (p := ⟨g, j, none⟩) hne u⟩
theorem zeros_in {w' : World} {n : Nat} {B g : Nat} (h : w'.ownsRow B 3 1 (.slice (some ⟨g, 0, none⟩) n n) n (madeCells (Value.int .i64 0).cells (n * 1)).toList) : IntsIn w' B w'.heap.size (some ⟨g, 0, none⟩) n n (List.replicate n 0) := by
  have e : (madeCells (Value.int .i64 0).cells (n * 1)).toList = icells (List.replicate n 0) := by
    rw [Nat.mul_one]
    have := toList_madeCells_one (Value.int .i64 0) n
    unfold icells
    rw [List.map_replicate]
    exact this
  rw [e] at h
  obtain ⟨A', c', e', hr⟩ := IntsIn.of_own h
  cases e'
  exact hr
theorem inth_zeros (n j : Nat) : inth (List.replicate n 0) j = 0 := by
  unfold inth
  rw [List.getD_eq_getElem?_getD, List.getElem?_replicate]
  split <;> rfl

def GotSplit (w : World) (L : List Opt) (p : Int) (e : Ending) (w' : World) : Prop :=
  ∃ A c xs, e = .returned (.slice A xs.length c) ∧ Splitted L p xs ∧ IntsAt w' A xs.length xs ∧ Below w.heap.size w w'

set_option maxRecDepth 100000 in
set_option maxHeartbeats 4000000 in
theorem split_i (A : Option Addr) (n c : Nat) (L : List Opt) (w : World) (p : Int) (h : OptsAt w A n L) (hn : n ≤ 1000) :
    Calls Try.prog 28 #[.slice A n c, .int .i64 p] w (GotSplit w L p) := by
  obtain ⟨i0, hi0, hz0, hz1, hz2⟩ := info_parts info_int
  have hl := h.1
  go_enter Try.func28, Try.ntmps28
  go_wp2_with fail
  refine (valid_impl A n c L w h (by omega)).mono ?_
  rintro e w1 ⟨rfl, hb1⟩
  cases hok : okO L with
  | false =>
    have HK := hid_of hok
    clear hok
    go_wp2_with fail
    go_ret
    exact ⟨_, _, [], rfl, .inr ⟨fun e => (by rw [HK.out] at e; cases e.1), rfl⟩, IntsAt.empty _ _, hb1⟩
  | true =>
    obtain ⟨rg, hrg⟩ : ∃ b, decide (0 ≤ p ∧ p ≤ 256) = b := ⟨_, rfl⟩
    have hopt := (okO_iff.1 hok).1
    have HK := hid_of hok
    have HOPT := hid_of hopt
    have HR := hid_of hrg
    clear hok hrg hopt
    go_wp2_with fail
    refine (within_v HR.out _).mono ?_
    rintro e w2 ⟨rfl, rfl⟩
    cases rg with
    | false =>
      go_wp2_with fail
      go_ret
      exact ⟨_, _, [], rfl, .inr ⟨fun e => (by have := HR.out; rw [decide_eq_true e.2] at this; cases this), rfl⟩, IntsAt.empty _ _, hb1⟩
    | true =>
      have hp := HR.out
      rw [decide_eq_true_iff] at hp
      obtain ⟨hp0, hp1⟩ := hp
      go_wp2_with (at_make; refine wpList_make_full _ rfl _ _ 31 rfl w1.heap.size 3 i0 (.int .i64 0) 1 Try.underlying31 hi0 hz0 hz1 .i64 .i64 _ _ n rfl rfl rfl rfl (by rw [hz2]; omega) (by unfold maxLen; omega) (Nat.le_refl _) ?_; intro w3 hown3 hgrow3)
      have hI3 := zeros_in hown3
      have hb3 := below_of_none hgrow3
      have HB3 : Below w.heap.size w w3 := hb1.trans (hb3.mono hb1.size)
      have hs3 : w1.heap.size < w3.heap.size := by
        rcases hown3.2 with ⟨h1, _⟩ | ⟨g', c', cur, h1, _, h2, _⟩
        · cases h1
        · cases h1
          exact (Array.getElem?_eq_some_iff.1 h2).1
      clear hown3 hgrow3
      refine (order_iN A n c L w3 (h.below HB3) (by omega)).mono ?_
      rintro e w4 ⟨A4, c4, O, rfl, ho, _, _, _, I4, hb4, hnew⟩
      have hO : IsOrder L O := by
        rcases ho with h | h
        · exact h.2
        · rw [HK.out] at h; cases h.1
      have hol : O.length ≤ 1000 := by have := order_len hO; omega
      have HO := hid_of hO
      clear ho hO
      have HB4 : Below w.heap.size w w4 := HB3.trans (hb4.mono HB3.size)
      have hI4 := hI3.below hb4
      have hs1 := hb1.size
      have hfar : 0 < O.length → ∀ b off, A4 = some ⟨b, off, none⟩ → b ≠ w1.heap.size := fun hp b off e => by
        obtain ⟨g, e', hg⟩ := hnew hp
        rw [e'] at e
        cases e
        omega
      have HF := hid_of hfar
      clear hfar hnew
      go_wp2_with fail
      go_loopw [1, 22] (fun t x wr => ∃ (P R : List Nat) (m : Int) (xs : List Int), t = .int .i64 m ∧ x = .int .i64 (P.length : Nat) ∧ 0 ≤ m ∧ m ≤ 256 ∧ xs.length = n ∧ Hid (P ++ R = O ∧ (∀ j, j < xs.length → inth xs j + alloc (sp L) R m j = alloc (sp L) O p j) ∧ (∀ j, j ∈ R → inth xs j = 0)) ∧ IntsIn wr w1.heap.size w3.heap.size (some ⟨w1.heap.size, 0, none⟩) n n xs ∧ IntsAt wr A4 O.length (ints O) ∧ Below w.heap.size w wr)
        (fun _ x _ => O.length - (intOf x).toNat)
      case atStart => exact ⟨[], O, p, List.replicate n 0, rfl, rfl, hp0, hp1, by simp, ⟨rfl, fun j _ => by rw [inth_zeros]; omega, fun j _ => inth_zeros n j⟩, hI4, I4, HB4⟩
      case round =>
        obtain ⟨P, R, m, xs, rfl, rfl, hm0, hm1, hxl, HX, hI, I5, hb⟩ := hrel
        have hlen : P.length + R.length = O.length := by rw [← HX.out.1, List.length_append]
        cases R with
        | nil =>
          have hPO : P.length = O.length := by simpa using hlen
          rw [hPO]
          go_wp2_with fail
          go_ret
          refine ⟨_, _, xs, by rw [hxl]; rfl, .inl ⟨HK.out, ⟨hp0, hp1⟩, O, HO.out, share_ext (by omega) fun j hj => ?_⟩, by rw [hxl]; exact hI.reads, hb⟩
          have := HX.out.2.1 j (by omega)
          rw [show alloc (sp L) [] m j = 0 from rfl] at this
          omega
        | cons i R' =>
          have hlt : P.length < O.length := by simp at hlen; omega
          have hiO : i ∈ O := by rw [← HX.out.1]; simp
          have hi : i < n := by have := ((HO.out.2 i).1 hiO).1; omega
          have hsp := order_sp HO.out i hiO
          have hob := optB_iff.1 (HOPT.out i (by omega))
          have hnd : i ∉ R' := by
            have := order_nodup HO.out
            rw [← HX.out.1, List.nodup_append] at this
            exact (List.nodup_cons.1 this.2.1).1
          have hstep := share_step (s := sp L) (i := i) (R := R') (m := m) (xs := xs) (a := alloc (sp L) O p) hnd (by omega) HX.out.2.1 HX.out.2.2
          have hPR : (P ++ [i]) ++ R' = O := by rw [← HX.out.1]; simp
          have hOs : O = P ++ i :: R' := HX.out.1.symm
          obtain ⟨g4, off4, rfl, hg4, hc4⟩ := I5.2 (by omega)
          have e0 := hc4 P.length hlt
          rw [hOs, mid] at e0
          obtain ⟨b, off, rfl, hbl, hc⟩ := (h.below hb).2 (by omega)
          obtain ⟨_, _, d2, d3⟩ := hc i hi
          obtain ⟨g', e', hg1, hg2, hgl, hf, hcx⟩ := hI.at_ (by omega)
          cases e'
          have x0 := hcx i hi
          have f0 := hf i
          unfold sp at hsp
          have hspv : sp L i = (onth L i).w - (onth L i).f := rfl
          rw [hspv] at hstep
          obtain ⟨hob1, ⟨hw0, hw1⟩, hf0, hf1⟩ := hob
          generalize (onth L i).w = ww at d2 hsp hstep hw0 hw1
          generalize (onth L i).f = ff at d3 hsp hstep hf0 hf1
          have HS := hid_of hstep
          have HPR := hid_of hPR
          have i1 : (0 : Int) ≤ (i : Int) := Int.natCast_nonneg _
          have i2 : (i : Int) < (n : Int) := by omega
          clear hstep hspv hOs hiO hnd hc hcx hc4 hf hob1 hPR
          by_cases hms : m ≤ ww - ff
          · have hmin : min m (ww - ff) = m := by omega
            rw [hmin] at HS
            have hni : ¬ ww - ff < m := by omega
            go_wp2_with fail
            go_region
            all_goals go_wp2_with fail
            all_goals go_roundw
            case rel => exact ⟨P ++ [i], R', (m - m), xs.set i m, by first | rfl | (simp; done), by first | (simp; done) | go_num, by omega, by omega, by rw [List.length_set]; exact hxl, ⟨HPR.out, HS.out.1, HS.out.2⟩, by first | exact (hI.store (by omega) m).drew | exact hI.store (by omega) m, by first | exact (I5.other _ HF.out).drew | exact I5.other _ HF.out, by first | exact (hb.setCell (p := ⟨w1.heap.size, i, none⟩) hs1 _).drew | exact hb.setCell (p := ⟨w1.heap.size, i, none⟩) hs1 _⟩
            case measure => simp [intOf]; omega
          · have hmin : min m (ww - ff) = ww - ff := by omega
            rw [hmin] at HS
            have hlt2 : ww - ff < m := by omega
            go_wp2_with fail
            go_region
            all_goals go_wp2_with fail
            all_goals go_roundw
            case rel => exact ⟨P ++ [i], R', (m - (ww - ff)), xs.set i (ww - ff), by first | rfl | (simp; done), by first | (simp; done) | go_num, by omega, by omega, by rw [List.length_set]; exact hxl, ⟨HPR.out, HS.out.1, HS.out.2⟩, by first | exact (hI.store (by omega) (ww - ff)).drew | exact hI.store (by omega) (ww - ff), by first | exact (I5.other _ HF.out).drew | exact I5.other _ HF.out, by first | exact (hb.setCell (p := ⟨w1.heap.size, i, none⟩) hs1 _).drew | exact hb.setCell (p := ⟨w1.heap.size, i, none⟩) hs1 _⟩
            case measure => simp [intOf]; omega

end Go.Proofs.Ytbmmoncbklcbmaa
