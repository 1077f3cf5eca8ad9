/- Nothing is read where nothing came. -/
import Derived.Test.YtmkmaeblnnfheaaRcvI
namespace Go.Proofs.Ytmkmaeblnnfheaa
open Go.RowKit
attribute [local irreducible] Go.wpQuiet

set_option linter.unusedVariables false in
set_option maxRecDepth 100000 in
set_option maxHeartbeats 4000000 in
theorem read_nil {A : Option Addr} {c : Nat} (w : World) (hnone : A = none → c = 0) :
    Calls Try.prog 43 #[.agg #[.int .i64 0, .slice A 0 c, .int .i64 0, .int .i64 30], .int .i64 30] w fun e w' => (∃ A' c', e = .returned (.tuple #[.agg #[.int .i64 0, .slice A' 0 c', .int .i64 0, .int .i64 30], .string ⟨#[]⟩])) ∧ Below w.heap.size w w' := by
  have hBX : Hid (Own4 ((w.alloc (.cells #[.int .i64 0, .slice A 0 c, .int .i64 0, .int .i64 30] 58)).alloc (.cells #[.int .i64 0, .slice none 0 0, .int .i64 0, .int .i64 0] 58)) w.heap.size 0 A 0 c 0 30) := hid_of ((Own4.newT _ _).alloc _)
  have hY : Hid (Own4 ((w.alloc (.cells #[.int .i64 0, .slice A 0 c, .int .i64 0, .int .i64 30] 58)).alloc (.cells #[.int .i64 0, .slice none 0 0, .int .i64 0, .int .i64 0] 58)) (w.heap.size + 1) 0 none 0 0 0 0) := hid_of (by have := Own4.newT (R := 0) (A := none) (n := 0) (c := 0) (F := 0) (l := 0) (w.alloc (.cells #[.int .i64 0, .slice A 0 c, .int .i64 0, .int .i64 30] 58)) 58; simpa using this)
  have hb0 : Below w.heap.size w ((w.alloc (.cells #[.int .i64 0, .slice A 0 c, .int .i64 0, .int .i64 30] 58)).alloc (.cells #[.int .i64 0, .slice none 0 0, .int .i64 0, .int .i64 0] 58)) := ((Below.refl _ w).alloc (Nat.le_refl _) _).alloc (by simp) _
  have hs0 : w.heap.size + 2 ≤ ((w.alloc (.cells #[.int .i64 0, .slice A 0 c, .int .i64 0, .int .i64 30] 58)).alloc (.cells #[.int .i64 0, .slice none 0 0, .int .i64 0, .int .i64 0] 58)).heap.size := by simp
  have HV1 : Hid (decide ((0 : Int) ≤ 30 ∧ (30 : Int) ≤ 30) = true) := hid_of (by decide)
  go_enter Try.func43, Try.ntmps43
  go_wp2_with fail
  generalize hW : World.alloc (World.alloc w _) _ = W0 at *
  clear hW
  with_reducible refine (rvalid_nil ⟨by omega, by omega⟩ W0).mono ?_
  rintro e' w1 ⟨rfl, hb⟩
  have BX := hid_of (hBX.out.grow hb)
  have Y := hid_of (hY.out.grow hb)
  have hbw := hb0.trans (hb.mono hb0.size)
  have hs : w.heap.size + 2 ≤ w1.heap.size := by have := hb.size; omega
  clear hBX hY hb0 hs0 hb
  obtain ⟨⟨z0, z1, z2, z3⟩, zf⟩ := BX.out
  go_wp2_with (go_at_call 55; (with_reducible refine (within_v HV1.out _).mono ?_); rintro e w9 ⟨rfl, rfl⟩)
  with_reducible refine (copy_nil w1 hnone).mono ?_
  rintro e' w2 ⟨A', c', rfl, hb⟩
  have BX := hid_of (BX.out.grow hb)
  have Y := hid_of (Y.out.grow hb)
  have hbw := hbw.trans (hb.mono hbw.size)
  have hs2 : w.heap.size + 2 ≤ w2.heap.size := by have := hb.size; omega
  clear hb z0 z1 z2 z3 zf
  go_upto_region 4 with (fail)
  generalize hW : World.alloc w2 _ = w3
  obtain ⟨ob, hob⟩ : ∃ b, w2.heap.size = b := ⟨_, rfl⟩
  have hb : Below w2.heap.size w2 w3 := by rw [← hW]; exact (Below.refl _ _).alloc (Nat.le_refl _) _
  have X : Hid (Own4 w3 ob 0 A' 0 c' 0 30) := by rw [← hW, ← hob]; exact hid_of (Own4.newT _ _)
  have BX := hid_of (BX.out.grow hb)
  have Y := hid_of (Y.out.grow hb)
  have hbw := hbw.trans (hb.mono hbw.size)
  have ho : w.heap.size + 2 ≤ ob := by omega
  rw [hob] at *
  clear hW hb hob
  obtain ⟨⟨z0, z1, z2, z3⟩, zf⟩ := BX.out
  go_wp2_with fail
  with_reducible refine (ready_nil w3).mono ?_
  rintro e' w4 ⟨rfl, hb⟩
  have X := hid_of (X.out.grow hb)
  have Y := hid_of (Y.out.grow hb)
  have hbw := hbw.trans (hb.mono hbw.size)
  clear z0 z1 z2 z3 zf BX hb
  obtain ⟨⟨x0, x1, x2, x3⟩, xf⟩ := X.out
  obtain ⟨⟨y0, y1, y2, y3⟩, yf⟩ := Y.out
  go_wp2_with fail
  try simp only [Exit.inBlock, Exit.then]
  refine bodyPost_ret (results_rv rfl rfl rfl (Y.out.setAll _ _ _ _ _ _)) rfl ?_
  refine ⟨⟨A', c', rfl⟩, ?_⟩
  repeat refine Below.setCell ?_ (by dsimp only; omega) _
  exact hbw

end Go.Proofs.Ytmkmaeblnnfheaa
