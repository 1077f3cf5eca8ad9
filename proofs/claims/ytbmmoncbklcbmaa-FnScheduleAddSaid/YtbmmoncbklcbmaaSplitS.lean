/- The reference's assignment of packets, walked: one packet after the other. -/
import Derived.Test.YtbmmoncbklcbmaaSplitW
namespace Go.Proofs.Ytbmmoncbklcbmaa
open Go.RowKit

theorem after_zero (L : List Opt) (O : List Nat) (hO : IsOrder L O) : After L L O 0 := by
  refine ⟨rfl, fun j _ => ?_⟩
  rw [alloc_zero (sp L) (fun _ => .inr trivial) O j fun i hi => by have := order_sp hO i hi; omega, Int.add_zero]
theorem after_same {L M : List Opt} {O : List Nat} {m : Int} (h : After L M O m) (e : ∀ j, alloc (sp L) O (m + 1) j = alloc (sp L) O m j) : After L M O (m + 1) :=
  ⟨h.1, fun j hj => by rw [h.2 j hj, e j]⟩
theorem after_step {L M : List Opt} {O : List Nat} {m : Int} {i : Nat} (h : After L M O m) (hi : i < L.length) (e : ∀ j, alloc (sp L) O (m + 1) j = alloc (sp L) O m j + if j = i then 1 else 0) : After L (setF M i ((onth M i).f + 1)) O (m + 1) := by
  refine ⟨len_setF.trans h.1, fun j hj => ?_⟩
  unfold setF
  rw [onth_set, e j]
  by_cases hji : j = i
  · subst hji
    rw [if_pos ⟨rfl, by rw [h.1]; exact hi⟩, if_pos rfl, h.2 j hj]
    simp only [Int.add_assoc]
  · rw [if_neg (fun k => hji k.1), if_neg hji, Int.add_zero, h.2 j hj]

set_option maxRecDepth 100000 in
set_option maxHeartbeats 4000000 in
theorem split_s (A : Option Addr) (n c : Nat) (L : List Opt) (w : World) (p : Int) (h : OptsAt w A n L) (hnil : A = none → c = 0) (hn : n ≤ 1000) :
    Calls Try.prog 29 #[.slice A n c, .int .i64 p] w (GotSplit w L p) := by
  obtain ⟨i0, hi0, hz0, hz1, hz2⟩ := info_parts info_int
  have hl := h.1
  go_enter Try.func29, Try.ntmps29
  go_wp2_with (at_make; refine wpList_make_full _ rfl _ _ 31 rfl w.heap.size 3 i0 (.int .i64 0) 1 Try.underlying31 hi0 hz0 hz1 .i64 .i64 _ _ n rfl rfl rfl rfl (by rw [hz2]; omega) (by unfold maxLen; omega) (Nat.le_refl _) ?_; intro w0 hown0 hgrow0)
  have hI0 := zeros_in hown0
  have hb0 := below_of_none hgrow0
  have hs0 : w.heap.size < w0.heap.size := by
    rcases hown0.2 with ⟨h1, _⟩ | ⟨g', c', cur, h1, _, h2, _⟩
    · cases h1
    · cases h1
      exact (Array.getElem?_eq_some_iff.1 h2).1
  clear hown0 hgrow0
  refine (valid_spec A n c L w0 (h.below hb0) (by omega)).mono ?_
  rintro e w1 ⟨rfl, hb1⟩
  have HB1 : Below w.heap.size w w1 := hb0.trans (hb1.mono hb0.size)
  have hI1 := hI0.below hb1
  cases hok : okO L with
  | false =>
    have HK := hid_of hok
    clear hok
    go_wp2_with fail
    go_ret
    exact ⟨_, _, [], rfl, .inr ⟨fun e => (by rw [HK.out] at e; cases e.1), rfl⟩, IntsAt.empty _ _, HB1.alloc HB1.size _⟩
  | true =>
    obtain ⟨rg, hrg⟩ : ∃ b, decide (0 ≤ p ∧ p ≤ 256) = b := ⟨_, rfl⟩
    have hopt := (okO_iff.1 hok).1
    have HK := hid_of hok
    have HOPT := hid_of hopt
    have HR := hid_of hrg
    clear hok hrg hopt
    go_wp2_with fail
    refine (l6In_v HR.out _).mono ?_
    rintro e w2 ⟨rfl, rfl⟩
    cases rg with
    | false =>
      go_wp2_with fail
      go_ret
      exact ⟨_, _, [], rfl, .inr ⟨fun e => (by have := HR.out; rw [decide_eq_true e.2] at this; cases this), rfl⟩, IntsAt.empty _ _, HB1.alloc HB1.size _⟩
    | true =>
      have hp := HR.out
      rw [decide_eq_true_iff] at hp
      obtain ⟨hp0, hp1⟩ := hp
      obtain ⟨O, hO⟩ := order_exists L
      have hsp := order_sp hO
      have hndO := order_nodup hO
      have HO := hid_of hO
      have HSP := hid_of hsp
      have HND := hid_of hndO
      have h00 : ∀ j, alloc (sp L) O 0 j = 0 := fun j => alloc_zero (sp L) (fun _ => .inr trivial) O j fun i hi => by have := hsp i hi; omega
      have HZ := hid_of h00
      clear hO hsp hndO h00
      go_wp2_with (at_builtin; refine wpList_copy_opts _ rfl _ _ rfl rfl (World.ownsRow_lit _ #[] 0 (Nat.le_refl _) (Nat.zero_le _) rfl) (by simp) rfl ((h.below HB1).alloc _) hnil (by omega) ?_; intro A3 c3 w3 hI3 hgr)
      have hb3 : Below w1.heap.size w1 w3 := ((Below.refl _ w1).alloc (Nat.le_refl _) _).grown hgr (by simp) (by intro k hk; simp at hk; omega)
      have HB3 : Below w.heap.size w w3 := HB1.trans (hb3.mono HB1.size)
      have hX3 := hI1.below hb3
      have hs1 := hb1.size
      clear hgr
      go_loopw [7] (fun x wr => ∃ (q : Nat) (M : List Opt) (xs : List Int), x = .int .i64 (q : Nat) ∧ (q : Int) ≤ p ∧ Hid (After L M O q) ∧ xs.length = n ∧ Hid (∀ j, j < n → inth xs j = alloc (sp L) O q j) ∧ OptsIn wr w1.heap.size w3.heap.size A3 n c3 M ∧ IntsIn wr w.heap.size w0.heap.size (some ⟨w.heap.size, 0, none⟩) n n xs ∧ Below w.heap.size w wr ∧ w3.heap.size ≤ wr.heap.size)
        (fun x _ => p.toNat - (intOf x).toNat)
      case atStart => exact ⟨0, L, List.replicate n 0, rfl, hp0, after_zero L O HO.out, by simp, fun j _ => by rw [inth_zeros]; exact (HZ.out j).symm, hI3, hX3, HB3, Nat.le_refl _⟩
      case round =>
        obtain ⟨q, M, xs, rfl, hqp, HA, hxl, HX, hM, hX, hb, hs3⟩ := hrel
        by_cases hlt : (q : Int) < p
        · have hbt : ∀ i, i < n → 0 ≤ (onth M i).t ∧ (onth M i).t ≤ 100000 := fun i hi => by
            rw [HA.out.2 i (by omega)]
            have := (optB_iff.1 (HOPT.out i (by omega))).1
            show 0 ≤ (onth L i).t ∧ (onth L i).t ≤ 100000
            omega
          have hcon := l43_any A3 n c3 M wr hM.reads (by omega) hbt
          clear hbt
          go_wp2_with fail
          refine hcon.mono ?_
          rintro e w5 ⟨g5, c5, out, rfl, ho, hI5, hb5⟩
          have hfil := order_unique ho (after_order HA.out HO.out)
          have hsucc := alloc_succ (sp := sp L) (l := O) (n := (q : Int)) HND.out (by omega) HSP.out
          rw [← hfil] at hsucc
          have hom : ∀ i, i ∈ out → i < n ∧ alloc (sp L) O q i < sp L i := fun i hi => by
            rw [hfil] at hi
            have := List.mem_filter.1 hi
            have h1 := ((HO.out.2 i).1 this.1).1
            exact ⟨by omega, by simpa using this.2⟩
          have HB5 : Below w.heap.size w w5 := hb.trans (hb5.mono hb.size)
          have hM5 := hM.below hb5
          have hX5 := hX.below hb5
          have hs5 := hb5.size
          have hg5 := hI5.ge
          clear ho hcon hfil
          cases out with
          | nil =>
            have HSU := hid_of hsucc
            clear hsucc hom
            go_wp2_with fail
            go_roundw
            case rel => exact ⟨q + 1, M, xs, by go_num, by omega, by rw [show ((q + 1 : Nat) : Int) = (q : Int) + 1 from by push_cast; rfl]; exact after_same HA.out HSU.out, hxl, fun j hj => by rw [HX.out j hj, show ((q + 1 : Nat) : Int) = (q : Int) + 1 from by push_cast; rfl, HSU.out j], hM5, hX5, HB5, by omega⟩
            case measure => simp [intOf]; omega
          | cons i t =>
            have HSU := hid_of hsucc
            obtain ⟨hi, hai⟩ := hom i List.mem_cons_self
            have halo := (alloc_bd (sp := sp L) (l := O) (n := (q : Int)) (j := i) (by omega) fun k hk => by have := HSP.out k hk; omega).1
            have hob := optB_iff.1 (HOPT.out i (by omega))
            have hMi := HA.out.2 i (by omega)
            have hXi := HX.out i hi
            have hspv : sp L i = (onth L i).w - (onth L i).f := rfl
            rw [hspv] at hai
            obtain ⟨_, ⟨hw0, hw1⟩, hf0, hf1⟩ := hob
            have e0 := (hI5.in_.at_ (by simp))
            obtain ⟨g', e', _, _, hg5l, _, hc5⟩ := e0
            cases e'
            have o0 := hc5 0 (by simp)
            rw [show inth (ints (i :: t)) 0 = (i : Int) from rfl] at o0
            obtain ⟨gm, rfl, hgm1, hgm2, hgml, hfm, hcm⟩ := hM5.at_ (by omega)
            obtain ⟨_, _, _, m3⟩ := hcm i hi
            have fm := hfm (i * 4 + 3)
            obtain ⟨gx, ex, _, _, hgxl, hfx, hcx⟩ := hX5.at_ (by omega)
            cases ex
            have x0 := hcx i hi
            have fx := hfx i
            have hmf : (onth M i).f = (onth L i).f + alloc (sp L) O q i := by rw [hMi]
            have hmf0 : 0 ≤ (onth M i).f ∧ (onth M i).f ≤ 64 := by omega
            have hx0 : 0 ≤ inth xs i ∧ inth xs i ≤ 64 := by omega
            have nM := hM5.storeF hi ((onth M i).f + 1)
            have nX := (hX5.other (g := gm) (j := i * 4 + 3) (.int .i64 ((onth M i).f + 1)) (by intro e; injection e with e; injection e with e; omega)).store (k := i) (by omega) (inth xs i + 1)
            have nM2 := nM.other (g := w.heap.size) (j := i) (.int .i64 (inth xs i + 1)) (by intro e; injection e with e; injection e with e; omega)
            have nB := (HB5.setCell (p := ⟨gm, i * 4 + 3, none⟩) (by show _ ≤ gm; omega) (.int .i64 ((onth M i).f + 1))).setCell (p := ⟨w.heap.size, i, none⟩) (Nat.le_refl _) (.int .i64 (inth xs i + 1))
            have hne1 : g5 ≠ gm := by omega
            have hne2 : g5 ≠ w.heap.size := by omega
            have hne3 : gm ≠ w.heap.size := by omega
            have HN1 := hid_of nM2
            have HN2 := hid_of nX
            have HN3 := hid_of nB
            have HAS := hid_of (after_step HA.out (i := i) (by omega) HSU.out)
            have HXS : Hid (∀ j, j < n → inth (xs.set i (inth xs i + 1)) j = alloc (sp L) O ((q : Int) + 1) j) := fun j hj => by
              rw [inth_set, HSU.out j]
              by_cases hji : j = i
              · subst hji
                rw [if_pos ⟨rfl, by omega⟩, if_pos rfl, HX.out j hj]
              · rw [if_neg (fun k => hji k.1), if_neg hji, Int.add_zero, HX.out j hj]
            obtain ⟨hm0, hm1⟩ := hmf0
            obtain ⟨hx1, hx2⟩ := hx0
            obtain ⟨mf, hmfe⟩ : ∃ z, z = (onth M i).f := ⟨_, rfl⟩
            rw [← hmfe] at m3 hm0 hm1 HN1 HN2 HN3 HAS
            obtain ⟨xv, hxve⟩ : ∃ z, z = inth xs i := ⟨_, rfl⟩
            rw [← hxve] at x0 hx1 hx2 HN1 HN2 HN3 HXS
            have hlp : 0 < (i :: t).length := by simp
            obtain ⟨len5, hlen⟩ : ∃ z, z = (i :: t).length := ⟨_, rfl⟩
            rw [← hlen] at hlp ⊢
            have hpos : (0 : Int) < (len5 : Int) := by omega
            have i1 : (0 : Int) ≤ (i : Int) := Int.natCast_nonneg _
            have i2 : (i : Int) < (n : Int) := by omega
            clear hsucc hom hai halo hMi hXi hspv hc5 hfm hcm hfx hcx hmf hmfe hxve hlen nM nX nM2 nB
            go_wp2_with fail
            go_region
            all_goals go_wp2_with fail
            all_goals go_region
            all_goals go_wp2_with fail
            all_goals go_roundw
            case rel =>
              have hc1 : ((q + 1 : Nat) : Int) = (q : Int) + 1 := by push_cast; rfl
              exact ⟨q + 1, setF M i (mf + 1), xs.set i (xv + 1), by go_num, by omega, by rw [hc1]; exact HAS, by rw [List.length_set]; exact hxl, by rw [hc1]; exact HXS, HN1.out.drew.drew, HN2.out.drew.drew, HN3.out.drew.drew, by simp [World.setCell]; omega⟩
            case measure => simp [intOf]; omega
        · go_wp2_with fail
          go_ret
          refine ⟨_, _, xs, by rw [hxl]; rfl, .inl ⟨HK.out, ⟨hp0, hp1⟩, O, HO.out, share_ext (by omega) fun j hj => ?_⟩, by rw [hxl]; exact hX.reads, hb⟩
          have hqe : (q : Int) = p := by omega
          rw [HX.out j (by omega), hqe]

end Go.Proofs.Ytbmmoncbklcbmaa
