/- All of a text was received: it is ready, it is read, the stream has ended. -/
import Derived.Test.YtmkmaeblnnfheaaRcvE
import Derived.Test.YtmkmaeblnnfheaaRcvG
namespace Go.Proofs.Ytmkmaeblnnfheaa
open Go.RowKit
attribute [local irreducible] Go.wpQuiet

theorem pcs_one {D : ByteArray} : pcs D [⟨0, (D.size : Int) - 1⟩] = [⟨0, D⟩] := by
  show [pce D _] = _
  unfold pce
  dsimp only
  rw [show ((D.size : Int) - 1 + 1).toNat = D.size from by omega, show (0 : Int).toNat = 0 from rfl, ByteArray.extract_zero_size]
theorem rx_one {D : ByteArray} (hpos : 0 < D.size) (h30 : D.size ≤ 30) : Rx D [⟨0, (D.size : Int) - 1⟩] :=
  ⟨h30, canon_cons.2 ⟨by dsimp only; omega, fun _ h => (by cases h), canon_nil⟩, fun r hr => by
    obtain rfl : r = _ := by simpa using hr
    dsimp only
    omega⟩
theorem rx_nil {D : ByteArray} (h30 : D.size ≤ 30) : Rx D [] := ⟨h30, canon_nil, fun _ h => (by cases h)⟩
theorem rvalid_one {D : ByteArray} (hpos : 0 < D.size) (h30 : D.size ≤ 30) {A : Option Addr} {c : Nat} (w : World) (h : PcAt w A 1 [⟨0, D⟩]) :
    Calls Try.prog 75 #[.agg #[.int .i64 0, .slice A 1 c, .int .i64 (D.size : Int), .int .i64 30]] w fun e w' => e = .returned (.bool true) ∧ Below w.heap.size w w' := by
  rw [← pcs_one] at h
  exact rvalid_v (rx_one hpos h30) ⟨by omega, by omega⟩ (fun r hr => by obtain rfl : r = _ := by simpa using hr
                                                                        exact Int.le_refl _) (.inr ⟨(endOf_le (rx_one hpos h30)).2, by omega⟩) w h
theorem rvalid_nil {R : Int} (hR : 0 ≤ R ∧ R ≤ 30) {A : Option Addr} {c : Nat} (w : World) :
    Calls Try.prog 75 #[.agg #[.int .i64 R, .slice A 0 c, .int .i64 R, .int .i64 30]] w fun e w' => e = .returned (.bool true) ∧ Below w.heap.size w w' :=
  rvalid_v (D := ⟨#[]⟩) (L := []) (rx_nil (by decide)) hR (fun _ h => (by cases h)) (.inr ⟨Int.le_refl _, hR.2⟩) w (PcAt.nil _ _)

set_option maxRecDepth 100000 in
set_option maxHeartbeats 1000000 in
theorem ready_nil {R F l : Int} {A : Option Addr} {c : Nat} (w : World) :
    Calls Try.prog 80 #[.agg #[.int .i64 R, .slice A 0 c, .int .i64 F, .int .i64 l]] w fun e w' => e = .returned (.int .i64 0) ∧ Below w.heap.size w w' := by
  have hBX := Own4.newT (R := R) (A := A) (n := 0) (c := c) (F := F) (l := l) w 58
  have hb0 : Below w.heap.size w (w.alloc (.cells #[.int .i64 R, .slice A 0 c, .int .i64 F, .int .i64 l] 58)) := (Below.refl _ w).alloc (Nat.le_refl _) _
  go_enter Try.func80, Try.ntmps80
  go_wp2_with fail
  generalize hW : World.alloc w _ = W0 at *
  obtain ⟨⟨z0, z1, z2, z3⟩, zf⟩ := hBX
  have u0 := fun y => Up.cell z0 y
  have u1 := fun y => Up.cell z1 y
  refine wp_region_up (by kernel_rfl) (by kernel_rfl) ?_
  repeat (quiet_step (fail))
  refine wpQuiet_nil ?_
  intro w1 hb1
  clear u0 u1
  go_wp2_with fail
  go_ret
  exact ⟨rfl, hb0.trans (hb1.mono hb0.size)⟩

set_option maxRecDepth 100000 in
set_option maxHeartbeats 1000000 in
theorem ready_one {D : ByteArray} {F l : Int} {A : Option Addr} {c : Nat} (w : World) (h : PcAt w A 1 [⟨0, D⟩]) :
    Calls Try.prog 80 #[.agg #[.int .i64 0, .slice A 1 c, .int .i64 F, .int .i64 l]] w fun e w' => e = .returned (.int .i64 (D.size : Int)) ∧ Below w.heap.size w w' := by
  have hBX := Own4.newT (R := 0) (A := A) (n := 1) (c := c) (F := F) (l := l) w 58
  have hb0 : Below w.heap.size w (w.alloc (.cells #[.int .i64 0, .slice A 1 c, .int .i64 F, .int .i64 l] 58)) := (Below.refl _ w).alloc (Nat.le_refl _) _
  have hA := h.alloc (.cells #[.int .i64 0, .slice A 1 c, .int .i64 F, .int .i64 l] 58)
  obtain ⟨g, off, rfl, hgl, hc⟩ := hA.2 (by omega)
  obtain ⟨c0, c1⟩ := hc 0 (by omega)
  simp only [Nat.zero_mul, Nat.add_zero] at c0 c1
  have c0 : _ = some (Value.int .i64 0) := c0
  have c1 : _ = some (Value.string D) := c1
  clear hc hA h
  go_enter Try.func80, Try.ntmps80
  go_wp2_with fail
  generalize hW : World.alloc w _ = W0 at *
  obtain ⟨⟨z0, z1, z2, z3⟩, zf⟩ := hBX
  have hzl : w.heap.size < W0.heap.size := World.block_lt_of_cell? _ _ z0
  have u0 := fun y => Up.cell z0 y
  have u1 := fun y => Up.cell z1 y
  have v0 := fun y => Up.cell c0 y
  refine wp_region_up (by kernel_rfl) (by kernel_rfl) ?_
  repeat (quiet_step (fail))
  refine wpQuiet_nil ?_
  intro w1 hb1
  have d1 := (hb1.cell (p := ⟨g, off + 1, none⟩) hgl).trans c1
  have e1 := (hb1.cell (p := ⟨w.heap.size, 1, none⟩) hzl).trans z1
  clear u0 u1 v0
  go_wp2_with fail
  go_ret
  exact ⟨rfl, hb0.trans (hb1.mono hb0.size)⟩

set_option maxRecDepth 100000 in
set_option maxHeartbeats 1000000 in
theorem rready_one {D : ByteArray} (hpos : 0 < D.size) (h30 : D.size ≤ 30) {A : Option Addr} {c : Nat} (w : World) (h : PcAt w A 1 [⟨0, D⟩]) :
    Calls Try.prog 44 #[.agg #[.int .i64 0, .slice A 1 c, .int .i64 (D.size : Int), .int .i64 30]] w fun e w' => e = .returned (.int .i64 (D.size : Int)) ∧ Below w.heap.size w w' := by
  have hBX := Own4.newT (R := 0) (A := A) (n := 1) (c := c) (F := (D.size : Int)) (l := 30) w 58
  have hb0 : Below w.heap.size w (w.alloc (.cells #[.int .i64 0, .slice A 1 c, .int .i64 (D.size : Int), .int .i64 30] 58)) := (Below.refl _ w).alloc (Nat.le_refl _) _
  have hA := h.alloc (.cells #[.int .i64 0, .slice A 1 c, .int .i64 (D.size : Int), .int .i64 30] 58)
  go_enter Try.func44, Try.ntmps44
  go_wp2_with fail
  generalize hW : World.alloc w _ = W0 at *
  with_reducible refine (rvalid_one hpos h30 W0 hA).mono ?_
  rintro e w1 ⟨rfl, hb1⟩
  obtain ⟨⟨z0, z1, z2, z3⟩, zf⟩ := hBX.grow hb1
  go_wp2_with (go_at_call 80; (with_reducible refine (ready_one _ (hA.below hb1)).mono ?_); rintro e w2 ⟨rfl, hb2⟩)
  go_ret
  exact ⟨rfl, hb0.trans ((hb1.trans (hb2.mono hb1.size)).mono hb0.size)⟩
set_option maxRecDepth 100000 in
set_option maxHeartbeats 1000000 in
theorem rready_nil {A : Option Addr} {c : Nat} (w : World) :
    Calls Try.prog 44 #[.agg #[.int .i64 0, .slice A 0 c, .int .i64 0, .int .i64 30]] w fun e w' => e = .returned (.int .i64 0) ∧ Below w.heap.size w w' := by
  have hBX := Own4.newT (R := 0) (A := A) (n := 0) (c := c) (F := 0) (l := 30) w 58
  have hb0 : Below w.heap.size w (w.alloc (.cells #[.int .i64 0, .slice A 0 c, .int .i64 0, .int .i64 30] 58)) := (Below.refl _ w).alloc (Nat.le_refl _) _
  go_enter Try.func44, Try.ntmps44
  go_wp2_with fail
  generalize hW : World.alloc w _ = W0 at *
  with_reducible refine (rvalid_nil ⟨by omega, by omega⟩ W0).mono ?_
  rintro e w1 ⟨rfl, hb1⟩
  obtain ⟨⟨z0, z1, z2, z3⟩, zf⟩ := hBX.grow hb1
  go_wp2_with (go_at_call 80; (with_reducible refine (ready_nil _).mono ?_); rintro e w2 ⟨rfl, hb2⟩)
  go_ret
  exact ⟨rfl, hb0.trans ((hb1.trans (hb2.mono hb1.size)).mono hb0.size)⟩
set_option maxRecDepth 100000 in
set_option maxHeartbeats 1000000 in
theorem rended_v {R : Int} (hR : 0 ≤ R ∧ R ≤ 30) {A : Option Addr} {c : Nat} (w : World) :
    Calls Try.prog 45 #[.agg #[.int .i64 R, .slice A 0 c, .int .i64 R, .int .i64 30]] w fun e w' => e = .returned (.bool true) ∧ Below w.heap.size w w' := by
  have hBX := Own4.newT (R := R) (A := A) (n := 0) (c := c) (F := R) (l := 30) w 58
  have hb0 : Below w.heap.size w (w.alloc (.cells #[.int .i64 R, .slice A 0 c, .int .i64 R, .int .i64 30] 58)) := (Below.refl _ w).alloc (Nat.le_refl _) _
  go_enter Try.func45, Try.ntmps45
  go_wp2_with fail
  generalize hW : World.alloc w _ = W0 at *
  with_reducible refine (rvalid_nil hR W0).mono ?_
  rintro e w1 ⟨rfl, hb1⟩
  obtain ⟨⟨z0, z1, z2, z3⟩, zf⟩ := hBX.grow hb1
  go_wp2_with fail
  go_ret
  exact ⟨rfl, hb0.trans (hb1.mono hb0.size)⟩

end Go.Proofs.Ytmkmaeblnnfheaa
