/- No conflict with bytes of the same text; a copy; a receiving side of one text is valid. -/
import Derived.Test.YtmkmaeblnnfheaaRcvB
namespace Go.Proofs.Ytmkmaeblnnfheaa
open Go.RowKit
attribute [local irreducible] Go.wpQuiet

set_option maxRecDepth 100000 in
set_option maxHeartbeats 2000000 in
theorem conf_v {D dat : ByteArray} {L : List Rg} {R F l off : Int} {A : Option Addr} {c : Nat} (hd : ∀ (i : Nat) (h : i < dat.size), bAt D (off + (i : Int)) = ((dat[i]'h).toNat : Int)) (hx : Rx D L) (ho : 0 ≤ off ∧ off ≤ 1000) (hs : dat.size ≤ 1000) (w : World) (h : PcAt w A L.length (pcs D L)) :
    Calls Try.prog 78 #[.agg #[.int .i64 R, .slice A L.length c, .int .i64 F, .int .i64 l], .int .i64 off, .string dat] w fun e w' => e = .returned (.bool false) ∧ Below w.heap.size w w' := by
  have hAW := h.alloc (.cells #[.int .i64 R, .slice A L.length c, .int .i64 F, .int .i64 l] 58)
  have hBX := Own4.newT (R := R) (A := A) (n := L.length) (c := c) (F := F) (l := l) w 58
  have HD := hid_of hd
  have HX := hid_of hx
  have hb0 : Below w.heap.size w (w.alloc (.cells #[.int .i64 R, .slice A L.length c, .int .i64 F, .int .i64 l] 58)) := (Below.refl _ w).alloc (Nat.le_refl _) _
  clear hd hx h
  go_enter Try.func78, Try.ntmps78
  go_wp2_with fail
  generalize hW : World.alloc w _ = W0 at hAW hBX hb0 ⊢
  clear hW
  go_loopw [12] (fun i wr => ∃ k : Nat, i = .int .i64 (k : Nat) ∧ k ≤ dat.size ∧ Below W0.heap.size W0 wr) (fun i _ => dat.size - (intOf i).toNat)
  case atStart => exact ⟨0, rfl, Nat.zero_le _, Below.refl _ _⟩
  case round =>
    obtain ⟨k, rfl, hk, hb⟩ := hrel
    by_cases hlt : k < dat.size
    · obtain ⟨⟨z0, z1, z2, z3⟩, zf⟩ := hBX.grow hb
      have hA := hAW.below hb
      have hwr : IntKind.i64.wrap (off + (k : Int)) = off + k := IntWalk.i64_in _ (by omega)
      have hk0 : (0 : Int) ≤ (k : Int) := by omega
      obtain ⟨m, hm⟩ : ∃ m, memB L (off + (k : Int)) = m := ⟨_, rfl⟩
      have HM := hid_of hm
      clear hm
      cases m with
      | true =>
        go_wp2_with (go_at_call 101; (with_reducible refine (wait_v HM.out (fun _ => HD.out k hlt) (fun e => by cases e) HX.out (by omega) _ hA).mono ?_); rintro e wn ⟨rfl, hb1⟩)
        go_roundw
        case rel => exact ⟨k + 1, by go_num, by omega, hb.trans (hb1.mono hb.size)⟩
        case measure => simp [intOf]; omega
      | false =>
        go_wp2_with (go_at_call 101; (with_reducible refine (wait_v (u := 0) HM.out (fun e => by cases e) (fun _ => rfl) HX.out (by omega) _ hA).mono ?_); rintro e wn ⟨rfl, hb1⟩)
        go_roundw
        case rel => exact ⟨k + 1, by go_num, by omega, hb.trans (hb1.mono hb.size)⟩
        case measure => simp [intOf]; omega
    · have hkn : k = dat.size := by omega
      clear hlt
      subst hkn
      go_wp2_with fail
      go_ret
      exact ⟨rfl, hb0.trans (hb.mono hb0.size)⟩

theorem clone_pcs {D : ByteArray} {L : List Rg} {A : Option Addr} {c : Nat} (w : World) (h : PcAt w A L.length (pcs D L)) (hnone : A = none → c = 0) (hn : L.length ≤ 2000000) :
    Calls Try.prog 100 #[.slice A L.length c] w fun e w' => ∃ A' c', e = .returned (.slice A' L.length c') ∧ PcIn w' w.heap.size w'.heap.size A' L.length c' (pcs D L) ∧ Below w.heap.size w w' := by
  have := clone_pc A c (pcs D L) w (by rw [pcs_len]; exact h) hnone (by rw [pcs_len]; exact hn)
  rw [pcs_len] at this
  exact this.mono fun e w' ⟨A', c', h1, h2, h3⟩ => ⟨A', c', by rw [pcs_len] at h1; exact h1, by rw [pcs_len] at h2; exact h2, h3⟩

set_option maxRecDepth 100000 in
set_option maxHeartbeats 2000000 in
theorem copy_r {D : ByteArray} {L : List Rg} {R F l : Int} {A : Option Addr} {c : Nat} (w : World) (h : PcAt w A L.length (pcs D L)) (hnone : A = none → c = 0) (hn : L.length ≤ 2000000) :
    Calls Try.prog 76 #[.agg #[.int .i64 R, .slice A L.length c, .int .i64 F, .int .i64 l]] w fun e w' => ∃ A' c', e = .returned (.agg #[.int .i64 R, .slice A' L.length c', .int .i64 F, .int .i64 l]) ∧ PcIn w' w.heap.size w'.heap.size A' L.length c' (pcs D L) ∧ Below w.heap.size w w' := by
  go_enter Try.func76, Try.ntmps76
  go_wp2_with fail
  have hX : Hid (Own4 ((w.alloc (.cells #[.int .i64 R, .slice A L.length c, .int .i64 F, .int .i64 l] 58)).alloc (.cells #[.int .i64 0, .slice none 0 0, .int .i64 0, .int .i64 0] 58)) w.heap.size R A L.length c F l) := hid_of ((Own4.newT _ _).alloc _)
  have hY : Hid (Own4 ((w.alloc (.cells #[.int .i64 R, .slice A L.length c, .int .i64 F, .int .i64 l] 58)).alloc (.cells #[.int .i64 0, .slice none 0 0, .int .i64 0, .int .i64 0] 58)) (w.heap.size + 1) 0 none 0 0 0 0) := hid_of (by have := Own4.newT (R := 0) (A := none) (n := 0) (c := 0) (F := 0) (l := 0) (w.alloc (.cells #[.int .i64 R, .slice A L.length c, .int .i64 F, .int .i64 l] 58)) 58; simpa using this)
  have hA := (h.alloc (.cells #[.int .i64 R, .slice A L.length c, .int .i64 F, .int .i64 l] 58)).alloc (.cells #[.int .i64 0, .slice none 0 0, .int .i64 0, .int .i64 0] 58)
  have hb0 : Below w.heap.size w ((w.alloc (.cells #[.int .i64 R, .slice A L.length c, .int .i64 F, .int .i64 l] 58)).alloc (.cells #[.int .i64 0, .slice none 0 0, .int .i64 0, .int .i64 0] 58)) := ((Below.refl _ w).alloc (Nat.le_refl _) _).alloc (by simp) _
  have hs0 : w.heap.size + 1 + 1 ≤ ((w.alloc (.cells #[.int .i64 R, .slice A L.length c, .int .i64 F, .int .i64 l] 58)).alloc (.cells #[.int .i64 0, .slice none 0 0, .int .i64 0, .int .i64 0] 58)).heap.size := by simp
  generalize hW : World.alloc (World.alloc w _) _ = W0 at *
  clear hW h
  with_reducible refine (clone_pcs W0 hA hnone hn).mono ?_
  rintro e w1 ⟨A', c', rfl, hI, hb1⟩
  have hs1 := hb1.size
  have X1 := hid_of (hX.out.grow hb1)
  have Y1 := hid_of (hY.out.grow hb1)
  clear hX hY hA
  obtain ⟨⟨x0, x1, x2, x3⟩, xf⟩ := X1.out
  obtain ⟨⟨y0, y1, y2, y3⟩, yf⟩ := Y1.out
  go_wp2_with fail
  try simp only [Exit.inBlock, Exit.then]
  refine bodyPost_ret (results_r4 rfl rfl ((Y1.out.other (by dsimp only; omega) _).setAll _ _ _ _ _ _)) rfl ?_
  refine ⟨A', c', rfl, ?_, ?_⟩
  · have t : Touch w1 (((((w1.setCell ⟨w.heap.size, 1, none⟩ (.slice A' L.length c')).setCell ⟨w.heap.size + 1, 0, none⟩ (.int .i64 R)).setCell ⟨w.heap.size + 1, 1, none⟩ (.slice A' L.length c')).setCell ⟨w.heap.size + 1, 2, none⟩ (.int .i64 F)).setCell ⟨w.heap.size + 1, 3, none⟩ (.int .i64 l)) w.heap.size (w.heap.size + 2) := by
      repeat refine Touch.setCell ?_ (by dsimp only; omega) (by dsimp only; omega) _
      exact Touch.refl _ _ _
    exact (hI.touch t (.inr (by omega))).mono (by omega) t.size
  · repeat refine Below.setCell ?_ (by dsimp only; omega) _
    exact hb0.trans (hb1.mono hb0.size)

end Go.Proofs.Ytmkmaeblnnfheaa
