/- A receiving side that holds pieces of one text is valid. -/
import Derived.Test.YtmkmaeblnnfheaaRcvC
import Derived.Deep.Cut
namespace Go.Proofs.Ytmkmaeblnnfheaa
open Go.RowKit
attribute [local irreducible] Go.wpQuiet

theorem some_bytes {d : ByteArray} (h : 0 < d.size) : d.toList.isEmpty = false := by
  rw [bytes_toList, List.isEmpty_eq_false_iff]
  intro e
  have := congrArg List.length e
  rw [Array.length_toList] at this
  have h' : 0 < d.data.size := h
  rw [List.length_nil] at this
  omega

set_option maxRecDepth 100000 in
set_option maxHeartbeats 4000000 in
theorem rvalid_w {D : ByteArray} {L : List Rg} {R F : Int} {A : Option Addr} {c : Nat} (hx : Rx D L) (hR : 0 ≤ R ∧ R ≤ 30) (hRL : ∀ r, r ∈ L → R ≤ r.lo) (t : Bool) (ht : (F == -1) = t) (E : Int) (hE : endOf R L = E) (hF : t = false → decide (E ≤ F ∧ F ≤ 30) = true) (w : World) (h : PcAt w A L.length (pcs D L)) :
    Calls Try.prog 75 #[.agg #[.int .i64 R, .slice A L.length c, .int .i64 F, .int .i64 30]] w fun e w' => e = .returned (.bool true) ∧ Below w.heap.size w w' := by
  have hAW := h.alloc (.cells #[.int .i64 R, .slice A L.length c, .int .i64 F, .int .i64 30] 58)
  have hBX := Own4.newT (R := R) (A := A) (n := L.length) (c := c) (F := F) (l := 30) w 58
  have HX := hid_of hx
  have HRL := hid_of hRL
  have HE := hid_of hE
  have HF := hid_of hF
  have H1 : Hid (decide ((0 : Int) ≤ 30 ∧ (30 : Int) ≤ 30) = true) := hid_of (by decide)
  have H2 : Hid (decide (0 ≤ R ∧ R ≤ 30) = true) := hid_of (decide_eq_true hR)
  have hlen := hx.len
  have hfew := hx.few
  have hb0 : Below w.heap.size w (w.alloc (.cells #[.int .i64 R, .slice A L.length c, .int .i64 F, .int .i64 30] 58)) := (Below.refl _ w).alloc (Nat.le_refl _) _
  have hs0 : w.heap.size < (w.alloc (.cells #[.int .i64 R, .slice A L.length c, .int .i64 F, .int .i64 30] 58)).heap.size := by simp
  have hwR : IntKind.i64.wrap (R - 1) = R - 1 := IntWalk.i64_in _ (by omega)
  obtain ⟨hR0, hR1⟩ := hR
  clear hx hRL hE hF h
  go_enter Try.func75, Try.ntmps75
  go_wp2_with (first | (go_at_call 55; (with_reducible refine (within_v H1.out _).mono ?_); rintro e w9 ⟨rfl, rfl⟩) | (go_at_call 55; (with_reducible refine (within_v H2.out _).mono ?_); rintro e w9 ⟨rfl, rfl⟩))
  generalize hW : World.alloc w _ = W0 at hAW hBX hb0 hs0 ⊢
  clear hW
  go_loopw [3, 24] (fun s i wr => ∃ (k : Nat) (q : Int), i = .int .i64 (k : Nat) ∧ s = .int .i64 q ∧ k ≤ L.length ∧ (-1 ≤ q ∧ q ≤ 31) ∧ Hid (k < L.length → q < (rth L k).lo) ∧ Below W0.heap.size W0 wr) (fun _ i _ => L.length - (intOf i).toNat)
  case atStart => exact ⟨0, R - 1, rfl, rfl, Nat.zero_le _, by omega, hid_of (fun h => by have := HRL.out _ (rth_mem h); omega), Below.refl _ _⟩
  case round =>
    obtain ⟨k, q, rfl, rfl, hk, ⟨hq0, hq1⟩, HQ, hb⟩ := hrel
    obtain ⟨⟨z0, z1, z2, z3⟩, zf⟩ := hBX.grow hb
    by_cases hlt : k < L.length
    · obtain ⟨g, off, rfl, hgl, hc⟩ := (hAW.below hb).2 (by omega)
      obtain ⟨c0, c1⟩ := hc k hlt
      obtain ⟨h1, h2, h3⟩ := HX.out.at_ hlt
      have hsz := pce_size h1 h2 h3
      have hql := HQ.out hlt
      have hnx : k + 1 < L.length → (rth L k).hi + 1 < (rth L (k + 1)).lo := fun e => by have := canon_get HX.out.c (show k < k + 1 by omega) e; omega
      rw [pcs_th hlt] at c0 c1
      obtain ⟨⟨o, d⟩, hp⟩ : ∃ p, pce D (rth L k) = p := ⟨_, rfl⟩
      have ho : (rth L k).lo = o := congrArg Pc.o hp
      obtain ⟨hh, hhh⟩ : ∃ x, (rth L k).hi = x := ⟨_, rfl⟩
      rw [hp] at c0 c1 hsz
      rw [ho] at hsz h1 h2 hql
      rw [hhh] at hsz h2 h3 hnx
      dsimp only at c0 c1 hsz
      have HNX := hid_of hnx
      have HPE : Hid (o + d.size = hh + 1) := hid_of (by omega)
      have t1 : decide (o ≤ q) = false := decide_eq_false (by omega)
      have hw1 : IntKind.i64.wrap (30 - o) = 30 - o := IntWalk.i64_in _ (by omega)
      have t2 : decide (30 - o < (d.size : Int)) = false := decide_eq_false (by omega)
      have hne := some_bytes (d := d) (by omega)
      have hd30 : d.size ≤ 30 := by omega
      clear hc hp ho hhh hnx hsz
      rename World => wr
      go_upto_region 7 with (fail)
      generalize hW : World.alloc wr _ = W2
      have hX : Own2 W2 wr.heap.size o d := by rw [← hW]; exact Own2.newT _ _
      have hb2 : Below W0.heap.size W0 W2 := by rw [← hW]; exact hb.alloc hb.size _
      clear hW c0 c1 z0 z1 z2 z3 zf
      obtain ⟨⟨x0, x1⟩, xf⟩ := hX
      obtain ⟨⟨z0, z1, z2, z3⟩, zf⟩ := hBX.grow hb2
      go_wp2_with (go_at_call 99; (with_reducible refine (pend_v HPE.out _ (by omega) (by omega)).mono ?_); rintro e wn ⟨rfl, hb1⟩)
      go_roundw
      case rel => exact ⟨k + 1, hh + 1, by go_num, rfl, by omega, by omega, hid_of HNX.out, hb2.trans (hb1.mono hb2.size)⟩
      case measure => simp [intOf]; omega
    · have hA := hAW.below hb
      have hs := hb.size
      have hkn : k = L.length := by omega
      clear hkn
      rename World => wr
      have u0 := fun y => Up.cell z0 y
      have u1 := fun y => Up.cell z1 y
      have u2 := fun y => Up.cell z2 y
      have u3 := fun y => Up.cell z3 y
      cases t with
      | true =>
        go_wp2_with fail
        refine wp_region_up (by kernel_rfl) (by kernel_rfl) ?_
        repeat (quiet_step (fail))
        refine wpQuiet_nil ?_
        intro w3 hb3
        clear u0 u1 u2 u3
        go_wp2_with fail
        go_ret
        exact ⟨rfl, hb0.trans ((hb.trans (hb3.mono hb.size)).mono hb0.size)⟩
      | false =>
        have HC := hid_of (HF.out rfl)
        go_wp2_with fail
        refine wp_region_up (by kernel_rfl) (by kernel_rfl) ?_
        repeat (quiet_step (first | (go_at_call 77; with_reducible exact up_of fun w' hb' => rend_v HE.out HX.out w' (hA.below hb')) | (go_at_call 55; with_reducible exact up_same (within_v HC.out _))))
        refine wpQuiet_nil ?_
        intro w3 hb3
        clear u0 u1 u2 u3
        go_wp2_with fail
        go_ret
        exact ⟨rfl, hb0.trans ((hb.trans (hb3.mono hb.size)).mono hb0.size)⟩
theorem rvalid_v {D : ByteArray} {L : List Rg} {R F : Int} {A : Option Addr} {c : Nat} (hx : Rx D L) (hR : 0 ≤ R ∧ R ≤ 30) (hRL : ∀ r, r ∈ L → R ≤ r.lo) (hF : F = -1 ∨ (endOf R L ≤ F ∧ F ≤ 30)) (w : World) (h : PcAt w A L.length (pcs D L)) :
    Calls Try.prog 75 #[.agg #[.int .i64 R, .slice A L.length c, .int .i64 F, .int .i64 30]] w fun e w' => e = .returned (.bool true) ∧ Below w.heap.size w w' :=
  rvalid_w hx hR hRL _ rfl _ rfl (fun e => decide_eq_true (hF.resolve_left (by intro e'; rw [e'] at e; cases e))) w h

end Go.Proofs.Ytmkmaeblnnfheaa
