/- SendDone on both sides: a completed stream. -/
import Derived.Test.YtmkmaeblnnfheaaMg1
import Derived.Test.YtmkmaeblnnfheaaMg3
namespace Go.Proofs.Ytmkmaeblnnfheaa
open Go.RowKit
attribute [local irreducible] Go.wpQuiet

theorem doneB_eq {s : Sd} : doneB s = (okS s && (s.f && (count s.A == s.pos))) := by
  rw [Bool.eq_iff_iff, doneB_iff, Bool.and_eq_true, Bool.and_eq_true, okS_iff, beq_iff_eq]
  constructor
  · rintro ⟨h, hf, hA⟩; exact ⟨h, hf, (done_eq h hf).2 hA⟩
  · rintro ⟨h, hf, hc⟩; exact ⟨h, hf, (done_eq h hf).1 hc⟩
theorem doneB_bad {s : Sd} (h : okS s = false) : doneB s = false := by rw [doneB_eq, h]; rfl
theorem doneB_open {s : Sd} (h : s.f = false) : doneB s = false := by rw [doneB_eq, h]; cases okS s <;> rfl
theorem doneB_list {s : Sd} (h : okS s = true) (hf : s.f = true) (x : Bool) (hx : x = true ↔ s.A = [⟨0, s.d.size⟩]) : doneB s = x := by
  rw [Bool.eq_iff_iff, doneB_iff, hx]
  exact ⟨fun ⟨_, _, e⟩ => e, fun e => ⟨okS_iff.1 h, hf, e⟩⟩

set_option linter.unusedVariables false in
set_option maxRecDepth 100000 in
set_option maxHeartbeats 2000000 in
theorem done_i_bad (d : ByteArray) (f : Bool) (l n : Int) (LA LB : List Rg) (A : Option Addr) (ca : Nat) (B : Option Addr) (cb : Nat) (w : World) (hA : RngAt w A LA.length LA) (hB : RngAt w B LB.length LB) (hn : LA.length ≤ 2000000) (hn' : LB.length ≤ 2000000) (HV : Hid (okS ⟨d, f, l, n, LA, LB⟩ = false)) :
    Calls Try.prog 32 #[.agg #[.string d, .bool f, .int .i64 l, .int .i64 n, .slice A LA.length ca, .slice B LB.length cb]] w fun e w' => e = .returned (.bool false) ∧ Below w.heap.size w w' := by
  have hx0 := Box.new (d := d) (f := f) (l := l) (n := n) (A := A) (na := LA.length) (ca := ca) (B := B) (nb := LB.length) (cb := cb) w
  have hAW := hA.alloc (.cells #[.string d, .bool f, .int .i64 l, .int .i64 n, .slice A LA.length ca, .slice B LB.length cb] 25)
  have hBW := hB.alloc (.cells #[.string d, .bool f, .int .i64 l, .int .i64 n, .slice A LA.length ca, .slice B LB.length cb] 25)
  have u0 := fun y => (hx0.up y).1
  have u1 := fun y => (hx0.up y).2.1
  have u2 := fun y => (hx0.up y).2.2.1
  have u3 := fun y => (hx0.up y).2.2.2.1
  have u4 := fun y => (hx0.up y).2.2.2.2.1
  have u5 := fun y => (hx0.up y).2.2.2.2.2
  go_enter Try.func32, Try.ntmps32
  go_wp2_with fail
  refine wp_region_up (by kernel_rfl) (by kernel_rfl) ?_
  repeat (quiet_step (first | (go_at_call 19; with_reducible exact up_of fun w' hb' => sv_v_i HV.out w' (hAW.below hb') (hBW.below hb') (by omega) (by omega))))
  refine wpQuiet_nil ?_
  intro w1 hb1
  clear hx0 hAW hBW u0 u1 u2 u3 u4 u5 
  go_wp2_with fail
  go_ret
  exact ⟨rfl, ((Below.refl _ w).alloc (Nat.le_refl _) _).trans (hb1.mono (by simp))⟩

set_option linter.unusedVariables false in
set_option maxRecDepth 100000 in
set_option maxHeartbeats 2000000 in
theorem done_i_open (d : ByteArray) (l n : Int) (LA LB : List Rg) (A : Option Addr) (ca : Nat) (B : Option Addr) (cb : Nat) (w : World) (hA : RngAt w A LA.length LA) (hB : RngAt w B LB.length LB) (hn : LA.length ≤ 2000000) (hn' : LB.length ≤ 2000000) (HV : Hid (okS ⟨d, false, l, n, LA, LB⟩ = true)) :
    Calls Try.prog 32 #[.agg #[.string d, .bool false, .int .i64 l, .int .i64 n, .slice A LA.length ca, .slice B LB.length cb]] w fun e w' => e = .returned (.bool false) ∧ Below w.heap.size w w' := by
  have hx0 := Box.new (d := d) (f := false) (l := l) (n := n) (A := A) (na := LA.length) (ca := ca) (B := B) (nb := LB.length) (cb := cb) w
  have hAW := hA.alloc (.cells #[.string d, .bool false, .int .i64 l, .int .i64 n, .slice A LA.length ca, .slice B LB.length cb] 25)
  have hBW := hB.alloc (.cells #[.string d, .bool false, .int .i64 l, .int .i64 n, .slice A LA.length ca, .slice B LB.length cb] 25)
  have u0 := fun y => (hx0.up y).1
  have u1 := fun y => (hx0.up y).2.1
  have u2 := fun y => (hx0.up y).2.2.1
  have u3 := fun y => (hx0.up y).2.2.2.1
  have u4 := fun y => (hx0.up y).2.2.2.2.1
  have u5 := fun y => (hx0.up y).2.2.2.2.2
  go_enter Try.func32, Try.ntmps32
  go_wp2_with fail
  refine wp_region_up (by kernel_rfl) (by kernel_rfl) ?_
  repeat (quiet_step (first | (go_at_call 19; with_reducible exact up_of fun w' hb' => sv_v_i HV.out w' (hAW.below hb') (hBW.below hb') (by omega) (by omega))))
  refine wpQuiet_nil ?_
  intro w1 hb1
  clear hx0 hAW hBW u0 u1 u2 u3 u4 u5 
  go_wp2_with fail
  go_ret
  exact ⟨rfl, ((Below.refl _ w).alloc (Nat.le_refl _) _).trans (hb1.mono (by simp))⟩

set_option linter.unusedVariables false in
set_option maxRecDepth 100000 in
set_option maxHeartbeats 2000000 in
theorem done_s_bad (d : ByteArray) (f : Bool) (l n : Int) (LA LB : List Rg) (A : Option Addr) (ca : Nat) (B : Option Addr) (cb : Nat) (w : World) (hA : RngAt w A LA.length LA) (hB : RngAt w B LB.length LB) (hn : LA.length ≤ 2000000) (hn' : LB.length ≤ 2000000) (HV : Hid (okS ⟨d, f, l, n, LA, LB⟩ = false)) :
    Calls Try.prog 33 #[.agg #[.string d, .bool f, .int .i64 l, .int .i64 n, .slice A LA.length ca, .slice B LB.length cb]] w fun e w' => e = .returned (.bool false) ∧ Below w.heap.size w w' := by
  have hx0 := Box.new (d := d) (f := f) (l := l) (n := n) (A := A) (na := LA.length) (ca := ca) (B := B) (nb := LB.length) (cb := cb) w
  have hAW := hA.alloc (.cells #[.string d, .bool f, .int .i64 l, .int .i64 n, .slice A LA.length ca, .slice B LB.length cb] 25)
  have hBW := hB.alloc (.cells #[.string d, .bool f, .int .i64 l, .int .i64 n, .slice A LA.length ca, .slice B LB.length cb] 25)
  have u0 := fun y => (hx0.up y).1
  have u1 := fun y => (hx0.up y).2.1
  have u2 := fun y => (hx0.up y).2.2.1
  have u3 := fun y => (hx0.up y).2.2.2.1
  have u4 := fun y => (hx0.up y).2.2.2.2.1
  have u5 := fun y => (hx0.up y).2.2.2.2.2
  go_enter Try.func33, Try.ntmps33
  go_wp2_with fail
  refine wp_region_up (by kernel_rfl) (by kernel_rfl) ?_
  repeat (quiet_step (first | (go_at_call 61; with_reducible exact up_of fun w' hb' => sv_v_s HV.out w' (hAW.below hb') (hBW.below hb') (by omega) (by omega))))
  refine wpQuiet_nil ?_
  intro w1 hb1
  clear hx0 hAW hBW u0 u1 u2 u3 u4 u5 
  go_wp2_with fail
  go_ret
  exact ⟨rfl, ((Below.refl _ w).alloc (Nat.le_refl _) _).trans (hb1.mono (by simp))⟩

set_option linter.unusedVariables false in
set_option maxRecDepth 100000 in
set_option maxHeartbeats 2000000 in
theorem done_s_open (d : ByteArray) (l n : Int) (LA LB : List Rg) (A : Option Addr) (ca : Nat) (B : Option Addr) (cb : Nat) (w : World) (hA : RngAt w A LA.length LA) (hB : RngAt w B LB.length LB) (hn : LA.length ≤ 2000000) (hn' : LB.length ≤ 2000000) (HV : Hid (okS ⟨d, false, l, n, LA, LB⟩ = true)) :
    Calls Try.prog 33 #[.agg #[.string d, .bool false, .int .i64 l, .int .i64 n, .slice A LA.length ca, .slice B LB.length cb]] w fun e w' => e = .returned (.bool false) ∧ Below w.heap.size w w' := by
  have hx0 := Box.new (d := d) (f := false) (l := l) (n := n) (A := A) (na := LA.length) (ca := ca) (B := B) (nb := LB.length) (cb := cb) w
  have hAW := hA.alloc (.cells #[.string d, .bool false, .int .i64 l, .int .i64 n, .slice A LA.length ca, .slice B LB.length cb] 25)
  have hBW := hB.alloc (.cells #[.string d, .bool false, .int .i64 l, .int .i64 n, .slice A LA.length ca, .slice B LB.length cb] 25)
  have u0 := fun y => (hx0.up y).1
  have u1 := fun y => (hx0.up y).2.1
  have u2 := fun y => (hx0.up y).2.2.1
  have u3 := fun y => (hx0.up y).2.2.2.1
  have u4 := fun y => (hx0.up y).2.2.2.2.1
  have u5 := fun y => (hx0.up y).2.2.2.2.2
  go_enter Try.func33, Try.ntmps33
  go_wp2_with fail
  refine wp_region_up (by kernel_rfl) (by kernel_rfl) ?_
  repeat (quiet_step (first | (go_at_call 61; with_reducible exact up_of fun w' hb' => sv_v_s HV.out w' (hAW.below hb') (hBW.below hb') (by omega) (by omega))))
  refine wpQuiet_nil ?_
  intro w1 hb1
  clear hx0 hAW hBW u0 u1 u2 u3 u4 u5 
  go_wp2_with fail
  go_ret
  exact ⟨rfl, ((Below.refl _ w).alloc (Nat.le_refl _) _).trans (hb1.mono (by simp))⟩

theorem count_v {A : Option Addr} {n c : Nat} {L : List Rg} {q : Int} (hq : count L = q) (w : World) (h : RngAt w A n L) (hn : n ≤ 2000000) (hr : rvB L = true) :
    Calls Try.prog 68 #[.slice A n c] w fun e w' => e = .returned (.int .i64 q) ∧ Below w.heap.size w w' := hq ▸ count_any A n c L w h hn hr

set_option linter.unusedVariables false in
set_option maxRecDepth 100000 in
set_option maxHeartbeats 2000000 in
theorem done_i_fin (d : ByteArray) (l n : Int) (LA LB : List Rg) (A : Option Addr) (ca : Nat) (B : Option Addr) (cb : Nat) (w : World) (hA : RngAt w A LA.length LA) (hB : RngAt w B LB.length LB) (hn : LA.length ≤ 2000000) (hn' : LB.length ≤ 2000000) (HV : Hid (okS ⟨d, true, l, n, LA, LB⟩ = true)) (HR : Hid (rvB LA = true)) (hd : d.size ≤ 1000000) {q p : Int} (HQ : Hid (count LA = q)) (HP : Hid (Sd.pos ⟨d, true, l, n, LA, LB⟩ = p)) {b : Bool} (hb : (q == p) = b) :
    Calls Try.prog 32 #[.agg #[.string d, .bool true, .int .i64 l, .int .i64 n, .slice A LA.length ca, .slice B LB.length cb]] w fun e w' => e = .returned (.bool b) ∧ Below w.heap.size w w' := by
  have hx0 := Box.new (d := d) (f := true) (l := l) (n := n) (A := A) (na := LA.length) (ca := ca) (B := B) (nb := LB.length) (cb := cb) w
  have hAW := hA.alloc (.cells #[.string d, .bool true, .int .i64 l, .int .i64 n, .slice A LA.length ca, .slice B LB.length cb] 25)
  have hBW := hB.alloc (.cells #[.string d, .bool true, .int .i64 l, .int .i64 n, .slice A LA.length ca, .slice B LB.length cb] 25)
  have u0 := fun y => (hx0.up y).1
  have u1 := fun y => (hx0.up y).2.1
  have u2 := fun y => (hx0.up y).2.2.1
  have u3 := fun y => (hx0.up y).2.2.2.1
  have u4 := fun y => (hx0.up y).2.2.2.2.1
  have u5 := fun y => (hx0.up y).2.2.2.2.2
  go_enter Try.func32, Try.ntmps32
  go_wp2_with fail
  refine wp_region_up (by kernel_rfl) (by kernel_rfl) ?_
  repeat (quiet_step (first | (go_at_call 19; with_reducible exact up_of fun w' hb' => sv_v_i HV.out w' (hAW.below hb') (hBW.below hb') (by omega) (by omega)) | (go_at_call 68; with_reducible exact up_of fun w' hb' => count_v HQ.out w' (hAW.below hb') (by omega) HR.out) | (go_at_call 56; with_reducible exact up_box fun w' => pos_v_impl HP.out w' (by omega))))
  refine wpQuiet_nil ?_
  intro w1 hb1
  clear hx0 hAW hBW u0 u1 u2 u3 u4 u5 
  go_wp2_with fail
  go_ret
  exact ⟨rfl, ((Below.refl _ w).alloc (Nat.le_refl _) _).trans (hb1.mono (by simp))⟩

set_option linter.unusedVariables false in
set_option maxRecDepth 100000 in
set_option maxHeartbeats 2000000 in
theorem done_s_len (d : ByteArray) (l n : Int) (LA LB : List Rg) (A : Option Addr) (ca : Nat) (B : Option Addr) (cb : Nat) (w : World) (hA : RngAt w A LA.length LA) (hB : RngAt w B LB.length LB) (hn : LA.length ≤ 2000000) (hn' : LB.length ≤ 2000000) (HV : Hid (okS ⟨d, true, l, n, LA, LB⟩ = true)) (hl : ((LA.length : Int) == 1) = false) :
    Calls Try.prog 33 #[.agg #[.string d, .bool true, .int .i64 l, .int .i64 n, .slice A LA.length ca, .slice B LB.length cb]] w fun e w' => e = .returned (.bool false) ∧ Below w.heap.size w w' := by
  have hx0 := Box.new (d := d) (f := true) (l := l) (n := n) (A := A) (na := LA.length) (ca := ca) (B := B) (nb := LB.length) (cb := cb) w
  have hAW := hA.alloc (.cells #[.string d, .bool true, .int .i64 l, .int .i64 n, .slice A LA.length ca, .slice B LB.length cb] 25)
  have hBW := hB.alloc (.cells #[.string d, .bool true, .int .i64 l, .int .i64 n, .slice A LA.length ca, .slice B LB.length cb] 25)
  have u0 := fun y => (hx0.up y).1
  have u1 := fun y => (hx0.up y).2.1
  have u2 := fun y => (hx0.up y).2.2.1
  have u3 := fun y => (hx0.up y).2.2.2.1
  have u4 := fun y => (hx0.up y).2.2.2.2.1
  have u5 := fun y => (hx0.up y).2.2.2.2.2
  go_enter Try.func33, Try.ntmps33
  go_wp2_with fail
  refine wp_region_up (by kernel_rfl) (by kernel_rfl) ?_
  repeat (quiet_step (first | (go_at_call 61; with_reducible exact up_of fun w' hb' => sv_v_s HV.out w' (hAW.below hb') (hBW.below hb') (by omega) (by omega))))
  refine wpQuiet_nil ?_
  intro w1 hb1
  clear hx0 hAW hBW u0 u1 u2 u3 u4 u5 
  go_wp2_with fail
  go_ret
  exact ⟨rfl, ((Below.refl _ w).alloc (Nat.le_refl _) _).trans (hb1.mono (by simp))⟩

set_option linter.unusedVariables false in
set_option maxRecDepth 100000 in
set_option maxHeartbeats 2000000 in
theorem done_s_lo (d : ByteArray) (l n : Int) (LA LB : List Rg) (A : Option Addr) (ca : Nat) (B : Option Addr) (cb : Nat) (w : World) (hA : RngAt w A LA.length LA) (hB : RngAt w B LB.length LB) (hn : LA.length ≤ 2000000) (hn' : LB.length ≤ 2000000) (HV : Hid (okS ⟨d, true, l, n, LA, LB⟩ = true)) (hl : ((LA.length : Int) == 1) = true) (hpos : 0 < LA.length) {lo hi : Int} (hr : rth LA 0 = ⟨lo, hi⟩) (h0 : (lo == 0) = false) :
    Calls Try.prog 33 #[.agg #[.string d, .bool true, .int .i64 l, .int .i64 n, .slice A LA.length ca, .slice B LB.length cb]] w fun e w' => e = .returned (.bool false) ∧ Below w.heap.size w w' := by
  have hx0 := Box.new (d := d) (f := true) (l := l) (n := n) (A := A) (na := LA.length) (ca := ca) (B := B) (nb := LB.length) (cb := cb) w
  have hAW := hA.alloc (.cells #[.string d, .bool true, .int .i64 l, .int .i64 n, .slice A LA.length ca, .slice B LB.length cb] 25)
  have hBW := hB.alloc (.cells #[.string d, .bool true, .int .i64 l, .int .i64 n, .slice A LA.length ca, .slice B LB.length cb] 25)
  obtain ⟨bb, off, rfl, _, hc⟩ := hAW.2 (by omega)
  obtain ⟨z0, z1⟩ := hc 0 (by omega)
  rw [hr] at z0 z1
  simp only [Nat.zero_mul, Nat.add_zero] at z0 z1
  clear hc
  have hi0 : (0 : Int) < (LA.length : Int) := by omega
  have v0 := fun y => Up.cell z0 y
  have v1 := fun y => Up.cell z1 y
  have u0 := fun y => (hx0.up y).1
  have u1 := fun y => (hx0.up y).2.1
  have u2 := fun y => (hx0.up y).2.2.1
  have u3 := fun y => (hx0.up y).2.2.2.1
  have u4 := fun y => (hx0.up y).2.2.2.2.1
  have u5 := fun y => (hx0.up y).2.2.2.2.2
  go_enter Try.func33, Try.ntmps33
  go_wp2_with fail
  refine wp_region_up (by kernel_rfl) (by kernel_rfl) ?_
  repeat (quiet_step (first | (go_at_call 61; with_reducible exact up_of fun w' hb' => sv_v_s HV.out w' (hAW.below hb') (hBW.below hb') (by omega) (by omega))))
  refine wpQuiet_nil ?_
  intro w1 hb1
  clear hx0 hAW hBW u0 u1 u2 u3 u4 u5 v0 v1 z0 z1
  go_wp2_with fail
  go_ret
  exact ⟨rfl, ((Below.refl _ w).alloc (Nat.le_refl _) _).trans (hb1.mono (by simp))⟩

set_option linter.unusedVariables false in
set_option maxRecDepth 100000 in
set_option maxHeartbeats 2000000 in
theorem done_s_hi (d : ByteArray) (l n : Int) (LA LB : List Rg) (A : Option Addr) (ca : Nat) (B : Option Addr) (cb : Nat) (w : World) (hA : RngAt w A LA.length LA) (hB : RngAt w B LB.length LB) (hn : LA.length ≤ 2000000) (hn' : LB.length ≤ 2000000) (HV : Hid (okS ⟨d, true, l, n, LA, LB⟩ = true)) (hl : ((LA.length : Int) == 1) = true) (hpos : 0 < LA.length) {lo hi : Int} (hr : rth LA 0 = ⟨lo, hi⟩) (h0 : (lo == 0) = true) {b : Bool} (h1 : (hi == (d.size : Int)) = b) :
    Calls Try.prog 33 #[.agg #[.string d, .bool true, .int .i64 l, .int .i64 n, .slice A LA.length ca, .slice B LB.length cb]] w fun e w' => e = .returned (.bool b) ∧ Below w.heap.size w w' := by
  have hx0 := Box.new (d := d) (f := true) (l := l) (n := n) (A := A) (na := LA.length) (ca := ca) (B := B) (nb := LB.length) (cb := cb) w
  have hAW := hA.alloc (.cells #[.string d, .bool true, .int .i64 l, .int .i64 n, .slice A LA.length ca, .slice B LB.length cb] 25)
  have hBW := hB.alloc (.cells #[.string d, .bool true, .int .i64 l, .int .i64 n, .slice A LA.length ca, .slice B LB.length cb] 25)
  obtain ⟨bb, off, rfl, _, hc⟩ := hAW.2 (by omega)
  obtain ⟨z0, z1⟩ := hc 0 (by omega)
  rw [hr] at z0 z1
  simp only [Nat.zero_mul, Nat.add_zero] at z0 z1
  clear hc
  have hi0 : (0 : Int) < (LA.length : Int) := by omega
  have v0 := fun y => Up.cell z0 y
  have v1 := fun y => Up.cell z1 y
  have u0 := fun y => (hx0.up y).1
  have u1 := fun y => (hx0.up y).2.1
  have u2 := fun y => (hx0.up y).2.2.1
  have u3 := fun y => (hx0.up y).2.2.2.1
  have u4 := fun y => (hx0.up y).2.2.2.2.1
  have u5 := fun y => (hx0.up y).2.2.2.2.2
  go_enter Try.func33, Try.ntmps33
  go_wp2_with fail
  refine wp_region_up (by kernel_rfl) (by kernel_rfl) ?_
  repeat (quiet_step (first | (go_at_call 61; with_reducible exact up_of fun w' hb' => sv_v_s HV.out w' (hAW.below hb') (hBW.below hb') (by omega) (by omega))))
  refine wpQuiet_nil ?_
  intro w1 hb1
  clear hx0 hAW hBW u0 u1 u2 u3 u4 u5 v0 v1 z0 z1
  go_wp2_with fail
  go_ret
  exact ⟨rfl, ((Below.refl _ w).alloc (Nat.le_refl _) _).trans (hb1.mono (by simp))⟩

theorem done_i {d : ByteArray} {f : Bool} {l n : Int} {LA LB : List Rg} {A : Option Addr} {ca : Nat} {B : Option Addr} {cb : Nat} {v : Bool} (hv : doneB ⟨d, f, l, n, LA, LB⟩ = v) (w : World) (hA : RngAt w A LA.length LA) (hB : RngAt w B LB.length LB) (hn : LA.length ≤ 2000000) (hn' : LB.length ≤ 2000000) :
    Calls Try.prog 32 #[.agg #[.string d, .bool f, .int .i64 l, .int .i64 n, .slice A LA.length ca, .slice B LB.length cb]] w fun e w' => e = .returned (.bool v) ∧ Below w.heap.size w w' := by
  cases hk : okS ⟨d, f, l, n, LA, LB⟩ with
  | false =>
    rw [doneB_bad hk] at hv
    subst hv
    exact done_i_bad d f l n LA LB A ca B cb w hA hB hn hn' hk
  | true =>
    have hs := okS_iff.1 hk
    cases f with
    | false =>
      rw [doneB_open rfl] at hv
      subst hv
      exact done_i_open d l n LA LB A ca B cb w hA hB hn hn' hk
    | true =>
      rw [doneB_eq, hk, Bool.true_and, Bool.true_and] at hv
      exact done_i_fin d l n LA LB A ca B cb w hA hB hn hn' hk (rvB_iff.2 hs.a) (by have := hs.len; dsimp only at this; omega) (hid_of rfl) (hid_of rfl) hv
theorem done_s {d : ByteArray} {f : Bool} {l n : Int} {LA LB : List Rg} {A : Option Addr} {ca : Nat} {B : Option Addr} {cb : Nat} {v : Bool} (hv : doneB ⟨d, f, l, n, LA, LB⟩ = v) (w : World) (hA : RngAt w A LA.length LA) (hB : RngAt w B LB.length LB) (hn : LA.length ≤ 2000000) (hn' : LB.length ≤ 2000000) :
    Calls Try.prog 33 #[.agg #[.string d, .bool f, .int .i64 l, .int .i64 n, .slice A LA.length ca, .slice B LB.length cb]] w fun e w' => e = .returned (.bool v) ∧ Below w.heap.size w w' := by
  cases hk : okS ⟨d, f, l, n, LA, LB⟩ with
  | false =>
    rw [doneB_bad hk] at hv
    subst hv
    exact done_s_bad d f l n LA LB A ca B cb w hA hB hn hn' hk
  | true =>
    cases f with
    | false =>
      rw [doneB_open rfl] at hv
      subst hv
      exact done_s_open d l n LA LB A ca B cb w hA hB hn hn' hk
    | true =>
      by_cases hl : LA.length = 1
      · obtain ⟨⟨lo, hi⟩, hr⟩ : ∃ r, LA = [r] := by
          match LA, hl with
          | [r], _ => exact ⟨r, rfl⟩
        have hb : ((LA.length : Int) == 1) = true := by rw [hl]; rfl
        have hr0 : rth LA 0 = ⟨lo, hi⟩ := by rw [hr]; rfl
        cases h0 : (lo == 0) with
        | false =>
          rw [doneB_list hk rfl false ⟨fun e => (by cases e), fun e => by
            have e : LA = [⟨0, d.size⟩] := e
            rw [hr] at e
            cases e
            exact absurd h0 (by decide)⟩] at hv
          subst hv
          exact done_s_lo d l n LA LB A ca B cb w hA hB hn hn' hk hb (by omega) hr0 h0
        | true =>
          rw [doneB_list hk rfl (hi == (d.size : Int)) (by
            rw [beq_iff_eq]
            constructor
            · intro e
              show LA = [⟨0, d.size⟩]
              rw [hr, beq_iff_eq.1 h0, e]
            · intro e
              have e : LA = [⟨0, d.size⟩] := e
              rw [hr] at e
              cases e
              rfl)] at hv
          exact done_s_hi d l n LA LB A ca B cb w hA hB hn hn' hk hb (by omega) hr0 h0 hv
      · rw [doneB_list hk rfl false ⟨fun e => (by cases e), fun e => by
          have e : LA = [⟨0, d.size⟩] := e
          exact absurd (by rw [e]; rfl) hl⟩] at hv
        subst hv
        exact done_s_len d l n LA LB A ca B cb w hA hB hn hn' hk (by rw [beq_eq_false_iff_ne]; omega)

end Go.Proofs.Ytmkmaeblnnfheaa
