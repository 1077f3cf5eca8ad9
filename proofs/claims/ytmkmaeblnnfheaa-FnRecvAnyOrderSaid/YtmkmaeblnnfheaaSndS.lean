/- A part was sent, by the reference: each way. -/
import Derived.Test.YtmkmaeblnnfheaaMg4
namespace Go.Proofs.Ytmkmaeblnnfheaa
open Go.RowKit
attribute [local irreducible] Go.wpQuiet

set_option linter.unusedVariables false in
set_option maxRecDepth 100000 in
set_option maxHeartbeats 4000000 in
theorem sent_s_0 (d : ByteArray) (f : Bool) (l n : Int) (LA LB : List Rg) (A : Option Addr) (ca : Nat) (B : Option Addr) (cb : Nat) (o : Int) (dp : ByteArray) (fp : Bool) (ls : Int) (w : World) (HLS : Hid (Pt.last ⟨o, dp, fp⟩ = ls)) (hd : d.size ≤ 30) (t0 : decide (o < 0) = true) :
    Calls Try.prog 65 #[.agg #[.string d, .bool f, .int .i64 l, .int .i64 n, .slice A LA.length ca, .slice B LB.length cb], .agg #[.int .i64 o, .string dp, .bool fp]] w fun e w' => e = .returned (.bool false) ∧ Below w.heap.size w w' := by
  have z := (Own6.new (d := d) (f := f) (l := l) (n := n) (A := A) (na := LA.length) (ca := ca) (B := B) (nb := LB.length) (cb := cb) w).alloc (.cells #[.int .i64 o, .string dp, .bool fp] 27)
  have q := Own3.new (w.alloc (.cells #[.string d, .bool f, .int .i64 l, .int .i64 n, .slice A LA.length ca, .slice B LB.length cb] 25)) o dp fp
  rw [show (w.alloc (.cells #[.string d, .bool f, .int .i64 l, .int .i64 n, .slice A LA.length ca, .slice B LB.length cb] 25)).heap.size = w.heap.size + 1 from by simp] at q
  have hW0 : Below w.heap.size w _ := ((Below.refl _ w).alloc (Nat.le_refl _) (.cells #[.string d, .bool f, .int .i64 l, .int .i64 n, .slice A LA.length ca, .slice B LB.length cb] 25)).alloc (by simp) (.cells #[.int .i64 o, .string dp, .bool fp] 27)
  have hsz : ((w.alloc (.cells #[.string d, .bool f, .int .i64 l, .int .i64 n, .slice A LA.length ca, .slice B LB.length cb] 25)).alloc (.cells #[.int .i64 o, .string dp, .bool fp] 27)).heap.size = w.heap.size + 1 + 1 := by simp
  go_enter Try.func65, Try.ntmps65
  go_wp2_with fail
  generalize hW : World.alloc (World.alloc w _) _ = W
  rw [hW] at z q hW0 hsz
  clear hW
  have u3 := fun y : Up W => y.cell z.1.2.2.2.1
  have v0 := fun y : Up W => y.cell q.1.1
  have v1 := fun y : Up W => y.cell q.1.2.1
  have v2 := fun y : Up W => y.cell q.1.2.2
  refine wp_region_up (by kernel_rfl) (by kernel_rfl) ?_
  repeat (quiet_step (fail))
  refine wpQuiet_nil ?_
  intro w1 hbw1
  go_wp2_with fail
  go_ret
  exact ⟨rfl, hW0.trans (hbw1.mono hW0.size)⟩

set_option linter.unusedVariables false in
set_option maxRecDepth 100000 in
set_option maxHeartbeats 4000000 in
theorem sent_s_1 (d : ByteArray) (f : Bool) (l n : Int) (LA LB : List Rg) (A : Option Addr) (ca : Nat) (B : Option Addr) (cb : Nat) (o : Int) (dp : ByteArray) (fp : Bool) (ls : Int) (w : World) (HLS : Hid (Pt.last ⟨o, dp, fp⟩ = ls)) (hd : d.size ≤ 30) (t0 : decide (o < 0) = false) (t1 : decide (30 < o) = true) :
    Calls Try.prog 65 #[.agg #[.string d, .bool f, .int .i64 l, .int .i64 n, .slice A LA.length ca, .slice B LB.length cb], .agg #[.int .i64 o, .string dp, .bool fp]] w fun e w' => e = .returned (.bool false) ∧ Below w.heap.size w w' := by
  have z := (Own6.new (d := d) (f := f) (l := l) (n := n) (A := A) (na := LA.length) (ca := ca) (B := B) (nb := LB.length) (cb := cb) w).alloc (.cells #[.int .i64 o, .string dp, .bool fp] 27)
  have q := Own3.new (w.alloc (.cells #[.string d, .bool f, .int .i64 l, .int .i64 n, .slice A LA.length ca, .slice B LB.length cb] 25)) o dp fp
  rw [show (w.alloc (.cells #[.string d, .bool f, .int .i64 l, .int .i64 n, .slice A LA.length ca, .slice B LB.length cb] 25)).heap.size = w.heap.size + 1 from by simp] at q
  have hW0 : Below w.heap.size w _ := ((Below.refl _ w).alloc (Nat.le_refl _) (.cells #[.string d, .bool f, .int .i64 l, .int .i64 n, .slice A LA.length ca, .slice B LB.length cb] 25)).alloc (by simp) (.cells #[.int .i64 o, .string dp, .bool fp] 27)
  have hsz : ((w.alloc (.cells #[.string d, .bool f, .int .i64 l, .int .i64 n, .slice A LA.length ca, .slice B LB.length cb] 25)).alloc (.cells #[.int .i64 o, .string dp, .bool fp] 27)).heap.size = w.heap.size + 1 + 1 := by simp
  go_enter Try.func65, Try.ntmps65
  go_wp2_with fail
  generalize hW : World.alloc (World.alloc w _) _ = W
  rw [hW] at z q hW0 hsz
  clear hW
  have u3 := fun y : Up W => y.cell z.1.2.2.2.1
  have v0 := fun y : Up W => y.cell q.1.1
  have v1 := fun y : Up W => y.cell q.1.2.1
  have v2 := fun y : Up W => y.cell q.1.2.2
  refine wp_region_up (by kernel_rfl) (by kernel_rfl) ?_
  repeat (quiet_step (fail))
  refine wpQuiet_nil ?_
  intro w1 hbw1
  go_wp2_with fail
  go_ret
  exact ⟨rfl, hW0.trans (hbw1.mono hW0.size)⟩

set_option linter.unusedVariables false in
set_option maxRecDepth 100000 in
set_option maxHeartbeats 4000000 in
theorem sent_s_2 (d : ByteArray) (f : Bool) (l n : Int) (LA LB : List Rg) (A : Option Addr) (ca : Nat) (B : Option Addr) (cb : Nat) (o : Int) (dp : ByteArray) (fp : Bool) (ls : Int) (w : World) (HLS : Hid (Pt.last ⟨o, dp, fp⟩ = ls)) (hd : d.size ≤ 30) (t0 : decide (o < 0) = false) (t1 : decide (30 < o) = false) (t2 : decide ((30 : Int) < (dp.size : Int)) = true) :
    Calls Try.prog 65 #[.agg #[.string d, .bool f, .int .i64 l, .int .i64 n, .slice A LA.length ca, .slice B LB.length cb], .agg #[.int .i64 o, .string dp, .bool fp]] w fun e w' => e = .returned (.bool false) ∧ Below w.heap.size w w' := by
  have z := (Own6.new (d := d) (f := f) (l := l) (n := n) (A := A) (na := LA.length) (ca := ca) (B := B) (nb := LB.length) (cb := cb) w).alloc (.cells #[.int .i64 o, .string dp, .bool fp] 27)
  have q := Own3.new (w.alloc (.cells #[.string d, .bool f, .int .i64 l, .int .i64 n, .slice A LA.length ca, .slice B LB.length cb] 25)) o dp fp
  rw [show (w.alloc (.cells #[.string d, .bool f, .int .i64 l, .int .i64 n, .slice A LA.length ca, .slice B LB.length cb] 25)).heap.size = w.heap.size + 1 from by simp] at q
  have hW0 : Below w.heap.size w _ := ((Below.refl _ w).alloc (Nat.le_refl _) (.cells #[.string d, .bool f, .int .i64 l, .int .i64 n, .slice A LA.length ca, .slice B LB.length cb] 25)).alloc (by simp) (.cells #[.int .i64 o, .string dp, .bool fp] 27)
  have hsz : ((w.alloc (.cells #[.string d, .bool f, .int .i64 l, .int .i64 n, .slice A LA.length ca, .slice B LB.length cb] 25)).alloc (.cells #[.int .i64 o, .string dp, .bool fp] 27)).heap.size = w.heap.size + 1 + 1 := by simp
  go_enter Try.func65, Try.ntmps65
  go_wp2_with fail
  generalize hW : World.alloc (World.alloc w _) _ = W
  rw [hW] at z q hW0 hsz
  clear hW
  have u3 := fun y : Up W => y.cell z.1.2.2.2.1
  have v0 := fun y : Up W => y.cell q.1.1
  have v1 := fun y : Up W => y.cell q.1.2.1
  have v2 := fun y : Up W => y.cell q.1.2.2
  refine wp_region_up (by kernel_rfl) (by kernel_rfl) ?_
  repeat (quiet_step (fail))
  refine wpQuiet_nil ?_
  intro w1 hbw1
  go_wp2_with fail
  go_ret
  exact ⟨rfl, hW0.trans (hbw1.mono hW0.size)⟩

set_option linter.unusedVariables false in
set_option maxRecDepth 100000 in
set_option maxHeartbeats 4000000 in
theorem sent_s_3 (d : ByteArray) (f : Bool) (l n : Int) (LA LB : List Rg) (A : Option Addr) (ca : Nat) (B : Option Addr) (cb : Nat) (o : Int) (dp : ByteArray) (fp : Bool) (ls : Int) (w : World) (HLS : Hid (Pt.last ⟨o, dp, fp⟩ = ls)) (hd : d.size ≤ 30) (t0 : decide (o < 0) = false) (t1 : decide (30 < o) = false) (t2 : decide ((30 : Int) < (dp.size : Int)) = false) (t3 : decide (ls < o) = true) :
    Calls Try.prog 65 #[.agg #[.string d, .bool f, .int .i64 l, .int .i64 n, .slice A LA.length ca, .slice B LB.length cb], .agg #[.int .i64 o, .string dp, .bool fp]] w fun e w' => e = .returned (.bool false) ∧ Below w.heap.size w w' := by
  have b0 := of_decide_eq_false t0
  have b1 := of_decide_eq_false t1
  have b2 := of_decide_eq_false t2
  have z := (Own6.new (d := d) (f := f) (l := l) (n := n) (A := A) (na := LA.length) (ca := ca) (B := B) (nb := LB.length) (cb := cb) w).alloc (.cells #[.int .i64 o, .string dp, .bool fp] 27)
  have q := Own3.new (w.alloc (.cells #[.string d, .bool f, .int .i64 l, .int .i64 n, .slice A LA.length ca, .slice B LB.length cb] 25)) o dp fp
  rw [show (w.alloc (.cells #[.string d, .bool f, .int .i64 l, .int .i64 n, .slice A LA.length ca, .slice B LB.length cb] 25)).heap.size = w.heap.size + 1 from by simp] at q
  have hW0 : Below w.heap.size w _ := ((Below.refl _ w).alloc (Nat.le_refl _) (.cells #[.string d, .bool f, .int .i64 l, .int .i64 n, .slice A LA.length ca, .slice B LB.length cb] 25)).alloc (by simp) (.cells #[.int .i64 o, .string dp, .bool fp] 27)
  have hsz : ((w.alloc (.cells #[.string d, .bool f, .int .i64 l, .int .i64 n, .slice A LA.length ca, .slice B LB.length cb] 25)).alloc (.cells #[.int .i64 o, .string dp, .bool fp] 27)).heap.size = w.heap.size + 1 + 1 := by simp
  go_enter Try.func65, Try.ntmps65
  go_wp2_with fail
  generalize hW : World.alloc (World.alloc w _) _ = W
  rw [hW] at z q hW0 hsz
  clear hW
  have u3 := fun y : Up W => y.cell z.1.2.2.2.1
  have v0 := fun y : Up W => y.cell q.1.1
  have v1 := fun y : Up W => y.cell q.1.2.1
  have v2 := fun y : Up W => y.cell q.1.2.2
  refine wp_region_up (by kernel_rfl) (by kernel_rfl) ?_
  repeat (quiet_step ((go_at_call 84; with_reducible exact up_box fun w' => last_v_s HLS.out w' ⟨by omega, by omega⟩ (by omega))))
  refine wpQuiet_nil ?_
  intro w1 hbw1
  go_wp2_with fail
  go_ret
  exact ⟨rfl, hW0.trans (hbw1.mono hW0.size)⟩

set_option linter.unusedVariables false in
set_option maxRecDepth 100000 in
set_option maxHeartbeats 4000000 in
theorem sent_s_4 (d : ByteArray) (f : Bool) (l n : Int) (LA LB : List Rg) (A : Option Addr) (ca : Nat) (B : Option Addr) (cb : Nat) (o : Int) (dp : ByteArray) (fp : Bool) (ls : Int) (w : World) (HLS : Hid (Pt.last ⟨o, dp, fp⟩ = ls)) (hd : d.size ≤ 30) (t0 : decide (o < 0) = false) (t1 : decide (30 < o) = false) (t2 : decide ((30 : Int) < (dp.size : Int)) = false) (t3 : decide (ls < o) = false) (t4 : decide (n ≤ ls) = true) :
    Calls Try.prog 65 #[.agg #[.string d, .bool f, .int .i64 l, .int .i64 n, .slice A LA.length ca, .slice B LB.length cb], .agg #[.int .i64 o, .string dp, .bool fp]] w fun e w' => e = .returned (.bool false) ∧ Below w.heap.size w w' := by
  have b0 := of_decide_eq_false t0
  have b1 := of_decide_eq_false t1
  have b2 := of_decide_eq_false t2
  have z := (Own6.new (d := d) (f := f) (l := l) (n := n) (A := A) (na := LA.length) (ca := ca) (B := B) (nb := LB.length) (cb := cb) w).alloc (.cells #[.int .i64 o, .string dp, .bool fp] 27)
  have q := Own3.new (w.alloc (.cells #[.string d, .bool f, .int .i64 l, .int .i64 n, .slice A LA.length ca, .slice B LB.length cb] 25)) o dp fp
  rw [show (w.alloc (.cells #[.string d, .bool f, .int .i64 l, .int .i64 n, .slice A LA.length ca, .slice B LB.length cb] 25)).heap.size = w.heap.size + 1 from by simp] at q
  have hW0 : Below w.heap.size w _ := ((Below.refl _ w).alloc (Nat.le_refl _) (.cells #[.string d, .bool f, .int .i64 l, .int .i64 n, .slice A LA.length ca, .slice B LB.length cb] 25)).alloc (by simp) (.cells #[.int .i64 o, .string dp, .bool fp] 27)
  have hsz : ((w.alloc (.cells #[.string d, .bool f, .int .i64 l, .int .i64 n, .slice A LA.length ca, .slice B LB.length cb] 25)).alloc (.cells #[.int .i64 o, .string dp, .bool fp] 27)).heap.size = w.heap.size + 1 + 1 := by simp
  go_enter Try.func65, Try.ntmps65
  go_wp2_with fail
  generalize hW : World.alloc (World.alloc w _) _ = W
  rw [hW] at z q hW0 hsz
  clear hW
  have u3 := fun y : Up W => y.cell z.1.2.2.2.1
  have v0 := fun y : Up W => y.cell q.1.1
  have v1 := fun y : Up W => y.cell q.1.2.1
  have v2 := fun y : Up W => y.cell q.1.2.2
  refine wp_region_up (by kernel_rfl) (by kernel_rfl) ?_
  repeat (quiet_step ((go_at_call 84; with_reducible exact up_box fun w' => last_v_s HLS.out w' ⟨by omega, by omega⟩ (by omega))))
  refine wpQuiet_nil ?_
  intro w1 hbw1
  go_wp2_with fail
  go_ret
  exact ⟨rfl, hW0.trans (hbw1.mono hW0.size)⟩

set_option linter.unusedVariables false in
set_option maxRecDepth 100000 in
set_option maxHeartbeats 4000000 in
theorem sent_s_v1 (d : ByteArray) (f : Bool) (l n : Int) (LA LB : List Rg) (A : Option Addr) (ca : Nat) (B : Option Addr) (cb : Nat) (o : Int) (dp : ByteArray) (fp : Bool) (ls : Int) (w : World) (HLS : Hid (Pt.last ⟨o, dp, fp⟩ = ls)) (hd : d.size ≤ 30) (t0 : decide (o < 0) = false) (t1 : decide (30 < o) = false) (t2 : decide ((30 : Int) < (dp.size : Int)) = false) (t3 : decide (ls < o) = false) (t4 : decide (n ≤ ls) = false) (s0 : decide (o + (dp.size : Int) ≤ (d.size : Int)) = false) :
    Calls Try.prog 65 #[.agg #[.string d, .bool f, .int .i64 l, .int .i64 n, .slice A LA.length ca, .slice B LB.length cb], .agg #[.int .i64 o, .string dp, .bool fp]] w fun e w' => e = .returned (.bool false) ∧ Below w.heap.size w w' := by
  have b0 := of_decide_eq_false t0
  have b1 := of_decide_eq_false t1
  have b2 := of_decide_eq_false t2
  have b01 : 0 ≤ o := by omega
  have b11 : o ≤ 30 := by omega
  have b21 : dp.size ≤ 30 := by omega
  have z := (Own6.new (d := d) (f := f) (l := l) (n := n) (A := A) (na := LA.length) (ca := ca) (B := B) (nb := LB.length) (cb := cb) w).alloc (.cells #[.int .i64 o, .string dp, .bool fp] 27)
  have q := Own3.new (w.alloc (.cells #[.string d, .bool f, .int .i64 l, .int .i64 n, .slice A LA.length ca, .slice B LB.length cb] 25)) o dp fp
  rw [show (w.alloc (.cells #[.string d, .bool f, .int .i64 l, .int .i64 n, .slice A LA.length ca, .slice B LB.length cb] 25)).heap.size = w.heap.size + 1 from by simp] at q
  have hW0 : Below w.heap.size w _ := ((Below.refl _ w).alloc (Nat.le_refl _) (.cells #[.string d, .bool f, .int .i64 l, .int .i64 n, .slice A LA.length ca, .slice B LB.length cb] 25)).alloc (by simp) (.cells #[.int .i64 o, .string dp, .bool fp] 27)
  have hsz : ((w.alloc (.cells #[.string d, .bool f, .int .i64 l, .int .i64 n, .slice A LA.length ca, .slice B LB.length cb] 25)).alloc (.cells #[.int .i64 o, .string dp, .bool fp] 27)).heap.size = w.heap.size + 1 + 1 := by simp
  go_enter Try.func65, Try.ntmps65
  go_wp2_with fail
  generalize hW : World.alloc (World.alloc w _) _ = W
  rw [hW] at z q hW0 hsz
  clear hW
  have u3 := fun y : Up W => y.cell z.1.2.2.2.1
  have v0 := fun y : Up W => y.cell q.1.1
  have v1 := fun y : Up W => y.cell q.1.2.1
  have v2 := fun y : Up W => y.cell q.1.2.2
  refine wp_region_up (by kernel_rfl) (by kernel_rfl) ?_
  repeat (quiet_step ((go_at_call 84; with_reducible exact up_box fun w' => last_v_s HLS.out w' ⟨by omega, by omega⟩ (by omega))))
  refine wpQuiet_nil ?_
  intro w1 hbw1
  have zz := z.under hbw1 (by omega)
  have qq := q.under hbw1 (by omega)
  have hw1 := hW0.trans (hbw1.mono hW0.size)
  clear u3 v0 v1 v2 z q hW0
  have hsw := hbw1.size
  obtain ⟨⟨z0, z1, z2, z3, z4, z5⟩, zf⟩ := zz
  obtain ⟨⟨q0, q1, q2⟩, qf⟩ := qq
  go_wp2_with fail
  have u0 := fun y : Up w1 => y.cell z0
  have u1 := fun y : Up w1 => y.cell z1
  have v0 := fun y : Up w1 => y.cell q0
  have v1 := fun y : Up w1 => y.cell q1
  have v2 := fun y : Up w1 => y.cell q2
  clear z0 z1 z2 z3 z4 z5 zf q0 q1 q2 qf
  refine wp_region_up (by kernel_rfl) (by kernel_rfl) ?_
  repeat (quiet_step (fail))
  refine wpQuiet_nil ?_
  intro w2 hbw2
  go_wp2_with fail
  go_ret
  exact ⟨rfl, hw1.trans (hbw2.mono hw1.size)⟩

set_option linter.unusedVariables false in
set_option maxRecDepth 100000 in
set_option maxHeartbeats 4000000 in
theorem sent_s_v2 (d : ByteArray) (f : Bool) (l n : Int) (LA LB : List Rg) (A : Option Addr) (ca : Nat) (B : Option Addr) (cb : Nat) (o : Int) (dp : ByteArray) (fp : Bool) (ls : Int) (w : World) (HLS : Hid (Pt.last ⟨o, dp, fp⟩ = ls)) (hd : d.size ≤ 30) (t0 : decide (o < 0) = false) (t1 : decide (30 < o) = false) (t2 : decide ((30 : Int) < (dp.size : Int)) = false) (t3 : decide (ls < o) = false) (t4 : decide (n ≤ ls) = false) (s0 : decide (o + (dp.size : Int) ≤ (d.size : Int)) = true) (s1 : ((d.extract o.toNat (o + (dp.size : Int)).toNat).toList == dp.toList) = false) :
    Calls Try.prog 65 #[.agg #[.string d, .bool f, .int .i64 l, .int .i64 n, .slice A LA.length ca, .slice B LB.length cb], .agg #[.int .i64 o, .string dp, .bool fp]] w fun e w' => e = .returned (.bool false) ∧ Below w.heap.size w w' := by
  have b0 := of_decide_eq_false t0
  have b1 := of_decide_eq_false t1
  have b2 := of_decide_eq_false t2
  have b01 : 0 ≤ o := by omega
  have b11 : o ≤ 30 := by omega
  have b21 : dp.size ≤ 30 := by omega
  have c0 := of_decide_eq_true s0
  have c1 : o ≤ o + (dp.size : Int) := by omega
  have c2 : 0 ≤ o + (dp.size : Int) := by omega
  have z := (Own6.new (d := d) (f := f) (l := l) (n := n) (A := A) (na := LA.length) (ca := ca) (B := B) (nb := LB.length) (cb := cb) w).alloc (.cells #[.int .i64 o, .string dp, .bool fp] 27)
  have q := Own3.new (w.alloc (.cells #[.string d, .bool f, .int .i64 l, .int .i64 n, .slice A LA.length ca, .slice B LB.length cb] 25)) o dp fp
  rw [show (w.alloc (.cells #[.string d, .bool f, .int .i64 l, .int .i64 n, .slice A LA.length ca, .slice B LB.length cb] 25)).heap.size = w.heap.size + 1 from by simp] at q
  have hW0 : Below w.heap.size w _ := ((Below.refl _ w).alloc (Nat.le_refl _) (.cells #[.string d, .bool f, .int .i64 l, .int .i64 n, .slice A LA.length ca, .slice B LB.length cb] 25)).alloc (by simp) (.cells #[.int .i64 o, .string dp, .bool fp] 27)
  have hsz : ((w.alloc (.cells #[.string d, .bool f, .int .i64 l, .int .i64 n, .slice A LA.length ca, .slice B LB.length cb] 25)).alloc (.cells #[.int .i64 o, .string dp, .bool fp] 27)).heap.size = w.heap.size + 1 + 1 := by simp
  go_enter Try.func65, Try.ntmps65
  go_wp2_with fail
  generalize hW : World.alloc (World.alloc w _) _ = W
  rw [hW] at z q hW0 hsz
  clear hW
  have u3 := fun y : Up W => y.cell z.1.2.2.2.1
  have v0 := fun y : Up W => y.cell q.1.1
  have v1 := fun y : Up W => y.cell q.1.2.1
  have v2 := fun y : Up W => y.cell q.1.2.2
  refine wp_region_up (by kernel_rfl) (by kernel_rfl) ?_
  repeat (quiet_step ((go_at_call 84; with_reducible exact up_box fun w' => last_v_s HLS.out w' ⟨by omega, by omega⟩ (by omega))))
  refine wpQuiet_nil ?_
  intro w1 hbw1
  have zz := z.under hbw1 (by omega)
  have qq := q.under hbw1 (by omega)
  have hw1 := hW0.trans (hbw1.mono hW0.size)
  clear u3 v0 v1 v2 z q hW0
  have hsw := hbw1.size
  obtain ⟨⟨z0, z1, z2, z3, z4, z5⟩, zf⟩ := zz
  obtain ⟨⟨q0, q1, q2⟩, qf⟩ := qq
  go_wp2_with fail
  have u0 := fun y : Up w1 => y.cell z0
  have u1 := fun y : Up w1 => y.cell z1
  have v0 := fun y : Up w1 => y.cell q0
  have v1 := fun y : Up w1 => y.cell q1
  have v2 := fun y : Up w1 => y.cell q2
  clear z0 z1 z2 z3 z4 z5 zf q0 q1 q2 qf
  refine wp_region_up (by kernel_rfl) (by kernel_rfl) ?_
  repeat (quiet_step (fail))
  refine wpQuiet_nil ?_
  intro w2 hbw2
  go_wp2_with fail
  go_ret
  exact ⟨rfl, hw1.trans (hbw2.mono hw1.size)⟩

set_option linter.unusedVariables false in
set_option maxRecDepth 100000 in
set_option maxHeartbeats 4000000 in
theorem sent_s_v3 (d : ByteArray) (f : Bool) (l n : Int) (LA LB : List Rg) (A : Option Addr) (ca : Nat) (B : Option Addr) (cb : Nat) (o : Int) (dp : ByteArray) (fp : Bool) (ls : Int) (w : World) (HLS : Hid (Pt.last ⟨o, dp, fp⟩ = ls)) (hd : d.size ≤ 30) (t0 : decide (o < 0) = false) (t1 : decide (30 < o) = false) (t2 : decide ((30 : Int) < (dp.size : Int)) = false) (t3 : decide (ls < o) = false) (t4 : decide (n ≤ ls) = false) (s0 : decide (o + (dp.size : Int) ≤ (d.size : Int)) = true) (s1 : ((d.extract o.toNat (o + (dp.size : Int)).toNat).toList == dp.toList) = true) (s2 : Hid (fp = false)) :
    Calls Try.prog 65 #[.agg #[.string d, .bool f, .int .i64 l, .int .i64 n, .slice A LA.length ca, .slice B LB.length cb], .agg #[.int .i64 o, .string dp, .bool fp]] w fun e w' => e = .returned (.bool true) ∧ Below w.heap.size w w' := by
  have b0 := of_decide_eq_false t0
  have b1 := of_decide_eq_false t1
  have b2 := of_decide_eq_false t2
  have b01 : 0 ≤ o := by omega
  have b11 : o ≤ 30 := by omega
  have b21 : dp.size ≤ 30 := by omega
  have c0 := of_decide_eq_true s0
  have c1 : o ≤ o + (dp.size : Int) := by omega
  have c2 : 0 ≤ o + (dp.size : Int) := by omega
  have z := (Own6.new (d := d) (f := f) (l := l) (n := n) (A := A) (na := LA.length) (ca := ca) (B := B) (nb := LB.length) (cb := cb) w).alloc (.cells #[.int .i64 o, .string dp, .bool fp] 27)
  have q := Own3.new (w.alloc (.cells #[.string d, .bool f, .int .i64 l, .int .i64 n, .slice A LA.length ca, .slice B LB.length cb] 25)) o dp fp
  rw [show (w.alloc (.cells #[.string d, .bool f, .int .i64 l, .int .i64 n, .slice A LA.length ca, .slice B LB.length cb] 25)).heap.size = w.heap.size + 1 from by simp] at q
  have hW0 : Below w.heap.size w _ := ((Below.refl _ w).alloc (Nat.le_refl _) (.cells #[.string d, .bool f, .int .i64 l, .int .i64 n, .slice A LA.length ca, .slice B LB.length cb] 25)).alloc (by simp) (.cells #[.int .i64 o, .string dp, .bool fp] 27)
  have hsz : ((w.alloc (.cells #[.string d, .bool f, .int .i64 l, .int .i64 n, .slice A LA.length ca, .slice B LB.length cb] 25)).alloc (.cells #[.int .i64 o, .string dp, .bool fp] 27)).heap.size = w.heap.size + 1 + 1 := by simp
  go_enter Try.func65, Try.ntmps65
  go_wp2_with fail
  generalize hW : World.alloc (World.alloc w _) _ = W
  rw [hW] at z q hW0 hsz
  clear hW
  have u3 := fun y : Up W => y.cell z.1.2.2.2.1
  have v0 := fun y : Up W => y.cell q.1.1
  have v1 := fun y : Up W => y.cell q.1.2.1
  have v2 := fun y : Up W => y.cell q.1.2.2
  refine wp_region_up (by kernel_rfl) (by kernel_rfl) ?_
  repeat (quiet_step ((go_at_call 84; with_reducible exact up_box fun w' => last_v_s HLS.out w' ⟨by omega, by omega⟩ (by omega))))
  refine wpQuiet_nil ?_
  intro w1 hbw1
  have zz := z.under hbw1 (by omega)
  have qq := q.under hbw1 (by omega)
  have hw1 := hW0.trans (hbw1.mono hW0.size)
  clear u3 v0 v1 v2 z q hW0
  have hsw := hbw1.size
  obtain ⟨⟨z0, z1, z2, z3, z4, z5⟩, zf⟩ := zz
  obtain ⟨⟨q0, q1, q2⟩, qf⟩ := qq
  go_wp2_with fail
  have u0 := fun y : Up w1 => y.cell z0
  have u1 := fun y : Up w1 => y.cell z1
  have v0 := fun y : Up w1 => y.cell q0
  have v1 := fun y : Up w1 => y.cell q1
  have v2 := fun y : Up w1 => y.cell q2
  clear z0 z1 z2 z3 z4 z5 zf q0 q1 q2 qf
  have s2' := s2.out
  refine wp_region_up (by kernel_rfl) (by kernel_rfl) ?_
  repeat (quiet_step (fail))
  refine wpQuiet_nil ?_
  intro w2 hbw2
  go_wp2_with fail
  go_ret
  exact ⟨rfl, hw1.trans (hbw2.mono hw1.size)⟩

set_option linter.unusedVariables false in
set_option maxRecDepth 100000 in
set_option maxHeartbeats 4000000 in
theorem sent_s_v4 (d : ByteArray) (f : Bool) (l n : Int) (LA LB : List Rg) (A : Option Addr) (ca : Nat) (B : Option Addr) (cb : Nat) (o : Int) (dp : ByteArray) (fp : Bool) (ls : Int) (w : World) (HLS : Hid (Pt.last ⟨o, dp, fp⟩ = ls)) (hd : d.size ≤ 30) (t0 : decide (o < 0) = false) (t1 : decide (30 < o) = false) (t2 : decide ((30 : Int) < (dp.size : Int)) = false) (t3 : decide (ls < o) = false) (t4 : decide (n ≤ ls) = false) (s0 : decide (o + (dp.size : Int) ≤ (d.size : Int)) = true) (s1 : ((d.extract o.toNat (o + (dp.size : Int)).toNat).toList == dp.toList) = true) (s2 : Hid (fp = true)) (s3 : Hid (f = false)) :
    Calls Try.prog 65 #[.agg #[.string d, .bool f, .int .i64 l, .int .i64 n, .slice A LA.length ca, .slice B LB.length cb], .agg #[.int .i64 o, .string dp, .bool fp]] w fun e w' => e = .returned (.bool false) ∧ Below w.heap.size w w' := by
  have b0 := of_decide_eq_false t0
  have b1 := of_decide_eq_false t1
  have b2 := of_decide_eq_false t2
  have b01 : 0 ≤ o := by omega
  have b11 : o ≤ 30 := by omega
  have b21 : dp.size ≤ 30 := by omega
  have c0 := of_decide_eq_true s0
  have c1 : o ≤ o + (dp.size : Int) := by omega
  have c2 : 0 ≤ o + (dp.size : Int) := by omega
  have z := (Own6.new (d := d) (f := f) (l := l) (n := n) (A := A) (na := LA.length) (ca := ca) (B := B) (nb := LB.length) (cb := cb) w).alloc (.cells #[.int .i64 o, .string dp, .bool fp] 27)
  have q := Own3.new (w.alloc (.cells #[.string d, .bool f, .int .i64 l, .int .i64 n, .slice A LA.length ca, .slice B LB.length cb] 25)) o dp fp
  rw [show (w.alloc (.cells #[.string d, .bool f, .int .i64 l, .int .i64 n, .slice A LA.length ca, .slice B LB.length cb] 25)).heap.size = w.heap.size + 1 from by simp] at q
  have hW0 : Below w.heap.size w _ := ((Below.refl _ w).alloc (Nat.le_refl _) (.cells #[.string d, .bool f, .int .i64 l, .int .i64 n, .slice A LA.length ca, .slice B LB.length cb] 25)).alloc (by simp) (.cells #[.int .i64 o, .string dp, .bool fp] 27)
  have hsz : ((w.alloc (.cells #[.string d, .bool f, .int .i64 l, .int .i64 n, .slice A LA.length ca, .slice B LB.length cb] 25)).alloc (.cells #[.int .i64 o, .string dp, .bool fp] 27)).heap.size = w.heap.size + 1 + 1 := by simp
  go_enter Try.func65, Try.ntmps65
  go_wp2_with fail
  generalize hW : World.alloc (World.alloc w _) _ = W
  rw [hW] at z q hW0 hsz
  clear hW
  have u3 := fun y : Up W => y.cell z.1.2.2.2.1
  have v0 := fun y : Up W => y.cell q.1.1
  have v1 := fun y : Up W => y.cell q.1.2.1
  have v2 := fun y : Up W => y.cell q.1.2.2
  refine wp_region_up (by kernel_rfl) (by kernel_rfl) ?_
  repeat (quiet_step ((go_at_call 84; with_reducible exact up_box fun w' => last_v_s HLS.out w' ⟨by omega, by omega⟩ (by omega))))
  refine wpQuiet_nil ?_
  intro w1 hbw1
  have zz := z.under hbw1 (by omega)
  have qq := q.under hbw1 (by omega)
  have hw1 := hW0.trans (hbw1.mono hW0.size)
  clear u3 v0 v1 v2 z q hW0
  have hsw := hbw1.size
  obtain ⟨⟨z0, z1, z2, z3, z4, z5⟩, zf⟩ := zz
  obtain ⟨⟨q0, q1, q2⟩, qf⟩ := qq
  go_wp2_with fail
  have u0 := fun y : Up w1 => y.cell z0
  have u1 := fun y : Up w1 => y.cell z1
  have v0 := fun y : Up w1 => y.cell q0
  have v1 := fun y : Up w1 => y.cell q1
  have v2 := fun y : Up w1 => y.cell q2
  clear z0 z1 z2 z3 z4 z5 zf q0 q1 q2 qf
  have s2' := s2.out
  have s3' := s3.out
  refine wp_region_up (by kernel_rfl) (by kernel_rfl) ?_
  repeat (quiet_step (fail))
  refine wpQuiet_nil ?_
  intro w2 hbw2
  go_wp2_with fail
  go_ret
  exact ⟨rfl, hw1.trans (hbw2.mono hw1.size)⟩

set_option linter.unusedVariables false in
set_option maxRecDepth 100000 in
set_option maxHeartbeats 4000000 in
theorem sent_s_v5 (d : ByteArray) (f : Bool) (l n : Int) (LA LB : List Rg) (A : Option Addr) (ca : Nat) (B : Option Addr) (cb : Nat) (o : Int) (dp : ByteArray) (fp : Bool) (ls : Int) (w : World) (HLS : Hid (Pt.last ⟨o, dp, fp⟩ = ls)) (hd : d.size ≤ 30) (t0 : decide (o < 0) = false) (t1 : decide (30 < o) = false) (t2 : decide ((30 : Int) < (dp.size : Int)) = false) (t3 : decide (ls < o) = false) (t4 : decide (n ≤ ls) = false) (s0 : decide (o + (dp.size : Int) ≤ (d.size : Int)) = true) (s1 : ((d.extract o.toNat (o + (dp.size : Int)).toNat).toList == dp.toList) = true) (s2 : Hid (fp = true)) (s3 : Hid (f = true)) (s4 : (o + (dp.size : Int) == (d.size : Int)) = false) :
    Calls Try.prog 65 #[.agg #[.string d, .bool f, .int .i64 l, .int .i64 n, .slice A LA.length ca, .slice B LB.length cb], .agg #[.int .i64 o, .string dp, .bool fp]] w fun e w' => e = .returned (.bool false) ∧ Below w.heap.size w w' := by
  have b0 := of_decide_eq_false t0
  have b1 := of_decide_eq_false t1
  have b2 := of_decide_eq_false t2
  have b01 : 0 ≤ o := by omega
  have b11 : o ≤ 30 := by omega
  have b21 : dp.size ≤ 30 := by omega
  have c0 := of_decide_eq_true s0
  have c1 : o ≤ o + (dp.size : Int) := by omega
  have c2 : 0 ≤ o + (dp.size : Int) := by omega
  have z := (Own6.new (d := d) (f := f) (l := l) (n := n) (A := A) (na := LA.length) (ca := ca) (B := B) (nb := LB.length) (cb := cb) w).alloc (.cells #[.int .i64 o, .string dp, .bool fp] 27)
  have q := Own3.new (w.alloc (.cells #[.string d, .bool f, .int .i64 l, .int .i64 n, .slice A LA.length ca, .slice B LB.length cb] 25)) o dp fp
  rw [show (w.alloc (.cells #[.string d, .bool f, .int .i64 l, .int .i64 n, .slice A LA.length ca, .slice B LB.length cb] 25)).heap.size = w.heap.size + 1 from by simp] at q
  have hW0 : Below w.heap.size w _ := ((Below.refl _ w).alloc (Nat.le_refl _) (.cells #[.string d, .bool f, .int .i64 l, .int .i64 n, .slice A LA.length ca, .slice B LB.length cb] 25)).alloc (by simp) (.cells #[.int .i64 o, .string dp, .bool fp] 27)
  have hsz : ((w.alloc (.cells #[.string d, .bool f, .int .i64 l, .int .i64 n, .slice A LA.length ca, .slice B LB.length cb] 25)).alloc (.cells #[.int .i64 o, .string dp, .bool fp] 27)).heap.size = w.heap.size + 1 + 1 := by simp
  go_enter Try.func65, Try.ntmps65
  go_wp2_with fail
  generalize hW : World.alloc (World.alloc w _) _ = W
  rw [hW] at z q hW0 hsz
  clear hW
  have u3 := fun y : Up W => y.cell z.1.2.2.2.1
  have v0 := fun y : Up W => y.cell q.1.1
  have v1 := fun y : Up W => y.cell q.1.2.1
  have v2 := fun y : Up W => y.cell q.1.2.2
  refine wp_region_up (by kernel_rfl) (by kernel_rfl) ?_
  repeat (quiet_step ((go_at_call 84; with_reducible exact up_box fun w' => last_v_s HLS.out w' ⟨by omega, by omega⟩ (by omega))))
  refine wpQuiet_nil ?_
  intro w1 hbw1
  have zz := z.under hbw1 (by omega)
  have qq := q.under hbw1 (by omega)
  have hw1 := hW0.trans (hbw1.mono hW0.size)
  clear u3 v0 v1 v2 z q hW0
  have hsw := hbw1.size
  obtain ⟨⟨z0, z1, z2, z3, z4, z5⟩, zf⟩ := zz
  obtain ⟨⟨q0, q1, q2⟩, qf⟩ := qq
  go_wp2_with fail
  have u0 := fun y : Up w1 => y.cell z0
  have u1 := fun y : Up w1 => y.cell z1
  have v0 := fun y : Up w1 => y.cell q0
  have v1 := fun y : Up w1 => y.cell q1
  have v2 := fun y : Up w1 => y.cell q2
  clear z0 z1 z2 z3 z4 z5 zf q0 q1 q2 qf
  have s2' := s2.out
  have s3' := s3.out
  refine wp_region_up (by kernel_rfl) (by kernel_rfl) ?_
  repeat (quiet_step (fail))
  refine wpQuiet_nil ?_
  intro w2 hbw2
  go_wp2_with fail
  go_ret
  exact ⟨rfl, hw1.trans (hbw2.mono hw1.size)⟩

set_option linter.unusedVariables false in
set_option maxRecDepth 100000 in
set_option maxHeartbeats 4000000 in
theorem sent_s_v6 (d : ByteArray) (f : Bool) (l n : Int) (LA LB : List Rg) (A : Option Addr) (ca : Nat) (B : Option Addr) (cb : Nat) (o : Int) (dp : ByteArray) (fp : Bool) (ls : Int) (w : World) (HLS : Hid (Pt.last ⟨o, dp, fp⟩ = ls)) (hd : d.size ≤ 30) (t0 : decide (o < 0) = false) (t1 : decide (30 < o) = false) (t2 : decide ((30 : Int) < (dp.size : Int)) = false) (t3 : decide (ls < o) = false) (t4 : decide (n ≤ ls) = false) (s0 : decide (o + (dp.size : Int) ≤ (d.size : Int)) = true) (s1 : ((d.extract o.toNat (o + (dp.size : Int)).toNat).toList == dp.toList) = true) (s2 : Hid (fp = true)) (s3 : Hid (f = true)) (s4 : (o + (dp.size : Int) == (d.size : Int)) = true) :
    Calls Try.prog 65 #[.agg #[.string d, .bool f, .int .i64 l, .int .i64 n, .slice A LA.length ca, .slice B LB.length cb], .agg #[.int .i64 o, .string dp, .bool fp]] w fun e w' => e = .returned (.bool true) ∧ Below w.heap.size w w' := by
  have b0 := of_decide_eq_false t0
  have b1 := of_decide_eq_false t1
  have b2 := of_decide_eq_false t2
  have b01 : 0 ≤ o := by omega
  have b11 : o ≤ 30 := by omega
  have b21 : dp.size ≤ 30 := by omega
  have c0 := of_decide_eq_true s0
  have c1 : o ≤ o + (dp.size : Int) := by omega
  have c2 : 0 ≤ o + (dp.size : Int) := by omega
  have z := (Own6.new (d := d) (f := f) (l := l) (n := n) (A := A) (na := LA.length) (ca := ca) (B := B) (nb := LB.length) (cb := cb) w).alloc (.cells #[.int .i64 o, .string dp, .bool fp] 27)
  have q := Own3.new (w.alloc (.cells #[.string d, .bool f, .int .i64 l, .int .i64 n, .slice A LA.length ca, .slice B LB.length cb] 25)) o dp fp
  rw [show (w.alloc (.cells #[.string d, .bool f, .int .i64 l, .int .i64 n, .slice A LA.length ca, .slice B LB.length cb] 25)).heap.size = w.heap.size + 1 from by simp] at q
  have hW0 : Below w.heap.size w _ := ((Below.refl _ w).alloc (Nat.le_refl _) (.cells #[.string d, .bool f, .int .i64 l, .int .i64 n, .slice A LA.length ca, .slice B LB.length cb] 25)).alloc (by simp) (.cells #[.int .i64 o, .string dp, .bool fp] 27)
  have hsz : ((w.alloc (.cells #[.string d, .bool f, .int .i64 l, .int .i64 n, .slice A LA.length ca, .slice B LB.length cb] 25)).alloc (.cells #[.int .i64 o, .string dp, .bool fp] 27)).heap.size = w.heap.size + 1 + 1 := by simp
  go_enter Try.func65, Try.ntmps65
  go_wp2_with fail
  generalize hW : World.alloc (World.alloc w _) _ = W
  rw [hW] at z q hW0 hsz
  clear hW
  have u3 := fun y : Up W => y.cell z.1.2.2.2.1
  have v0 := fun y : Up W => y.cell q.1.1
  have v1 := fun y : Up W => y.cell q.1.2.1
  have v2 := fun y : Up W => y.cell q.1.2.2
  refine wp_region_up (by kernel_rfl) (by kernel_rfl) ?_
  repeat (quiet_step ((go_at_call 84; with_reducible exact up_box fun w' => last_v_s HLS.out w' ⟨by omega, by omega⟩ (by omega))))
  refine wpQuiet_nil ?_
  intro w1 hbw1
  have zz := z.under hbw1 (by omega)
  have qq := q.under hbw1 (by omega)
  have hw1 := hW0.trans (hbw1.mono hW0.size)
  clear u3 v0 v1 v2 z q hW0
  have hsw := hbw1.size
  obtain ⟨⟨z0, z1, z2, z3, z4, z5⟩, zf⟩ := zz
  obtain ⟨⟨q0, q1, q2⟩, qf⟩ := qq
  go_wp2_with fail
  have u0 := fun y : Up w1 => y.cell z0
  have u1 := fun y : Up w1 => y.cell z1
  have v0 := fun y : Up w1 => y.cell q0
  have v1 := fun y : Up w1 => y.cell q1
  have v2 := fun y : Up w1 => y.cell q2
  clear z0 z1 z2 z3 z4 z5 zf q0 q1 q2 qf
  have s2' := s2.out
  have s3' := s3.out
  refine wp_region_up (by kernel_rfl) (by kernel_rfl) ?_
  repeat (quiet_step (fail))
  refine wpQuiet_nil ?_
  intro w2 hbw2
  go_wp2_with fail
  go_ret
  exact ⟨rfl, hw1.trans (hbw2.mono hw1.size)⟩

end Go.Proofs.Ytmkmaeblnnfheaa
