/- A part was sent, by the program: each way. -/
import Derived.Test.YtmkmaeblnnfheaaMg3
import Derived.Test.YtmkmaeblnnfheaaMg1
namespace Go.Proofs.Ytmkmaeblnnfheaa
open Go.RowKit
attribute [local irreducible] Go.wpQuiet

theorem last_v_j {o : Int} {d : ByteArray} {f : Bool} {ls : Int} (h : Pt.last ⟨o, d, f⟩ = ls) (w : World) (ho : -1000000 ≤ o ∧ o ≤ 1000000) (hd : d.size ≤ 2000000) :
    Calls Try.prog 49 #[.agg #[.int .i64 o, .string d, .bool f]] w fun e w' => e = .returned (.int .i64 ls) ∧ ∃ x, w' = w.alloc x := by
  rw [← h]
  clear h
  cases f
  all_goals
    go_enter Try.func49, Try.ntmps49
    go_wp2_with fail
    go_ret
    exact ⟨ret_int (by simp [Pt.last]), _, rfl⟩
set_option linter.unusedVariables false in
set_option maxHeartbeats 1000000 in
theorem hpl_any (s p : ByteArray) (w : World) (hs : s.size ≤ 1000000) (hp : p.size ≤ 2000000) :
    Calls Try.prog 103 #[.string s, .string p] w fun e w' => e = .returned (.bool (pre s p)) ∧ w = w' := by
  unfold pre
  by_cases h : p.size ≤ s.size
  · have h' : (p.size : Int) ≤ (s.size : Int) := by omega
    rw [decide_eq_true h, Bool.true_and]
    obtain ⟨b, hb⟩ : ∃ b, ((s.extract 0 p.size).toList == p.toList) = b := ⟨_, rfl⟩
    rw [hb]
    cases b with
    | true =>
      go_enter Try.func103, Try.ntmps103
      go_wp2_with fail
      go_ret
      exact ⟨rfl, rfl⟩
    | false =>
      go_enter Try.func103, Try.ntmps103
      go_wp2_with fail
      go_ret
      exact ⟨rfl, rfl⟩
  · rw [decide_eq_false h, Bool.false_and]
    have h' : (s.size : Int) < (p.size : Int) := by omega
    go_enter Try.func103, Try.ntmps103
    go_wp2_with fail
    go_ret
    exact ⟨rfl, rfl⟩
set_option maxHeartbeats 1000000 in
theorem hp_v {s p : ByteArray} {b : Bool} (hb : pre s p = b) (w : World) (hs : s.size ≤ 1000000) (hp : p.size ≤ 2000000) :
    Calls Try.prog 93 #[.string s, .string p] w fun e w' => e = .returned (.bool b) ∧ w = w' := by
  rw [← hb]
  clear hb
  go_enter Try.func93, Try.ntmps93
  go_wp2_with (go_at_call 103; (with_reducible refine (hpl_any s p _ hs hp).mono ?_); rintro e w1 ⟨rfl, rfl⟩)
  go_ret
  exact ⟨rfl, rfl⟩

set_option linter.unusedVariables false in
set_option maxRecDepth 100000 in
set_option maxHeartbeats 4000000 in
theorem sent_i_0 (d : ByteArray) (f : Bool) (l n : Int) (LA LB : List Rg) (A : Option Addr) (ca : Nat) (B : Option Addr) (cb : Nat) (o : Int) (dp : ByteArray) (fp : Bool) (ls : Int) (w : World) (HLS : Hid (Pt.last ⟨o, dp, fp⟩ = ls)) (hd : d.size ≤ 30) (hdp : dp.size ≤ 2000000) (HC : Hid (decide (0 ≤ o ∧ o ≤ 30) = false)) :
    Calls Try.prog 64 #[.agg #[.string d, .bool f, .int .i64 l, .int .i64 n, .slice A LA.length ca, .slice B LB.length cb], .agg #[.int .i64 o, .string dp, .bool fp]] w fun e w' => e = .returned (.bool false) ∧ Below w.heap.size w w' := by
  have z := (Own6.new (d := d) (f := f) (l := l) (n := n) (A := A) (na := LA.length) (ca := ca) (B := B) (nb := LB.length) (cb := cb) w).alloc (.cells #[.int .i64 o, .string dp, .bool fp] 27)
  have q := Own3.new (w.alloc (.cells #[.string d, .bool f, .int .i64 l, .int .i64 n, .slice A LA.length ca, .slice B LB.length cb] 25)) o dp fp
  rw [show (w.alloc (.cells #[.string d, .bool f, .int .i64 l, .int .i64 n, .slice A LA.length ca, .slice B LB.length cb] 25)).heap.size = w.heap.size + 1 from by simp] at q
  have hW0 : Below w.heap.size w _ := ((Below.refl _ w).alloc (Nat.le_refl _) (.cells #[.string d, .bool f, .int .i64 l, .int .i64 n, .slice A LA.length ca, .slice B LB.length cb] 25)).alloc (by simp) (.cells #[.int .i64 o, .string dp, .bool fp] 27)
  have hsz : ((w.alloc (.cells #[.string d, .bool f, .int .i64 l, .int .i64 n, .slice A LA.length ca, .slice B LB.length cb] 25)).alloc (.cells #[.int .i64 o, .string dp, .bool fp] 27)).heap.size = w.heap.size + 1 + 1 := by simp
  go_enter Try.func64, Try.ntmps64
  go_wp2_with fail
  generalize hW : World.alloc (World.alloc w _) _ = W
  rw [hW] at z q hW0 hsz
  clear hW
  have u0 := fun y : Up W => y.cell z.1.1
  have u3 := fun y : Up W => y.cell z.1.2.2.2.1
  have v0 := fun y : Up W => y.cell q.1.1
  have v1 := fun y : Up W => y.cell q.1.2.1
  have v2 := fun y : Up W => y.cell q.1.2.2
  refine wp_region_up (by kernel_rfl) (by kernel_rfl) ?_
  repeat (quiet_step ((go_at_call 55; with_reducible exact up_same (within_v HC.out _))))
  refine wpQuiet_nil ?_
  intro w1 hbw1
  go_wp2_with fail
  go_ret
  exact ⟨rfl, hW0.trans (hbw1.mono hW0.size)⟩

set_option linter.unusedVariables false in
set_option maxRecDepth 100000 in
set_option maxHeartbeats 4000000 in
theorem sent_i_1 (d : ByteArray) (f : Bool) (l n : Int) (LA LB : List Rg) (A : Option Addr) (ca : Nat) (B : Option Addr) (cb : Nat) (o : Int) (dp : ByteArray) (fp : Bool) (ls : Int) (w : World) (HLS : Hid (Pt.last ⟨o, dp, fp⟩ = ls)) (hd : d.size ≤ 30) (hdp : dp.size ≤ 2000000) (HC : Hid (decide (0 ≤ o ∧ o ≤ 30) = true)) (t1 : decide (ls < o) = true) :
    Calls Try.prog 64 #[.agg #[.string d, .bool f, .int .i64 l, .int .i64 n, .slice A LA.length ca, .slice B LB.length cb], .agg #[.int .i64 o, .string dp, .bool fp]] w fun e w' => e = .returned (.bool false) ∧ Below w.heap.size w w' := by
  have ho := of_decide_eq_true HC.out
  have z := (Own6.new (d := d) (f := f) (l := l) (n := n) (A := A) (na := LA.length) (ca := ca) (B := B) (nb := LB.length) (cb := cb) w).alloc (.cells #[.int .i64 o, .string dp, .bool fp] 27)
  have q := Own3.new (w.alloc (.cells #[.string d, .bool f, .int .i64 l, .int .i64 n, .slice A LA.length ca, .slice B LB.length cb] 25)) o dp fp
  rw [show (w.alloc (.cells #[.string d, .bool f, .int .i64 l, .int .i64 n, .slice A LA.length ca, .slice B LB.length cb] 25)).heap.size = w.heap.size + 1 from by simp] at q
  have hW0 : Below w.heap.size w _ := ((Below.refl _ w).alloc (Nat.le_refl _) (.cells #[.string d, .bool f, .int .i64 l, .int .i64 n, .slice A LA.length ca, .slice B LB.length cb] 25)).alloc (by simp) (.cells #[.int .i64 o, .string dp, .bool fp] 27)
  have hsz : ((w.alloc (.cells #[.string d, .bool f, .int .i64 l, .int .i64 n, .slice A LA.length ca, .slice B LB.length cb] 25)).alloc (.cells #[.int .i64 o, .string dp, .bool fp] 27)).heap.size = w.heap.size + 1 + 1 := by simp
  go_enter Try.func64, Try.ntmps64
  go_wp2_with fail
  generalize hW : World.alloc (World.alloc w _) _ = W
  rw [hW] at z q hW0 hsz
  clear hW
  have u0 := fun y : Up W => y.cell z.1.1
  have u3 := fun y : Up W => y.cell z.1.2.2.2.1
  have v0 := fun y : Up W => y.cell q.1.1
  have v1 := fun y : Up W => y.cell q.1.2.1
  have v2 := fun y : Up W => y.cell q.1.2.2
  refine wp_region_up (by kernel_rfl) (by kernel_rfl) ?_
  repeat (quiet_step (first | (go_at_call 55; with_reducible exact up_same (within_v HC.out _)) | (go_at_call 49; with_reducible exact up_box fun w' => last_v_j HLS.out w' ⟨by omega, by omega⟩ (by omega))))
  refine wpQuiet_nil ?_
  intro w1 hbw1
  go_wp2_with fail
  go_ret
  exact ⟨rfl, hW0.trans (hbw1.mono hW0.size)⟩

set_option linter.unusedVariables false in
set_option maxRecDepth 100000 in
set_option maxHeartbeats 4000000 in
theorem sent_i_2 (d : ByteArray) (f : Bool) (l n : Int) (LA LB : List Rg) (A : Option Addr) (ca : Nat) (B : Option Addr) (cb : Nat) (o : Int) (dp : ByteArray) (fp : Bool) (ls : Int) (w : World) (HLS : Hid (Pt.last ⟨o, dp, fp⟩ = ls)) (hd : d.size ≤ 30) (hdp : dp.size ≤ 2000000) (HC : Hid (decide (0 ≤ o ∧ o ≤ 30) = true)) (t1 : decide (ls < o) = false) (t2 : decide (n ≤ ls) = true) :
    Calls Try.prog 64 #[.agg #[.string d, .bool f, .int .i64 l, .int .i64 n, .slice A LA.length ca, .slice B LB.length cb], .agg #[.int .i64 o, .string dp, .bool fp]] w fun e w' => e = .returned (.bool false) ∧ Below w.heap.size w w' := by
  have ho := of_decide_eq_true HC.out
  have z := (Own6.new (d := d) (f := f) (l := l) (n := n) (A := A) (na := LA.length) (ca := ca) (B := B) (nb := LB.length) (cb := cb) w).alloc (.cells #[.int .i64 o, .string dp, .bool fp] 27)
  have q := Own3.new (w.alloc (.cells #[.string d, .bool f, .int .i64 l, .int .i64 n, .slice A LA.length ca, .slice B LB.length cb] 25)) o dp fp
  rw [show (w.alloc (.cells #[.string d, .bool f, .int .i64 l, .int .i64 n, .slice A LA.length ca, .slice B LB.length cb] 25)).heap.size = w.heap.size + 1 from by simp] at q
  have hW0 : Below w.heap.size w _ := ((Below.refl _ w).alloc (Nat.le_refl _) (.cells #[.string d, .bool f, .int .i64 l, .int .i64 n, .slice A LA.length ca, .slice B LB.length cb] 25)).alloc (by simp) (.cells #[.int .i64 o, .string dp, .bool fp] 27)
  have hsz : ((w.alloc (.cells #[.string d, .bool f, .int .i64 l, .int .i64 n, .slice A LA.length ca, .slice B LB.length cb] 25)).alloc (.cells #[.int .i64 o, .string dp, .bool fp] 27)).heap.size = w.heap.size + 1 + 1 := by simp
  go_enter Try.func64, Try.ntmps64
  go_wp2_with fail
  generalize hW : World.alloc (World.alloc w _) _ = W
  rw [hW] at z q hW0 hsz
  clear hW
  have u0 := fun y : Up W => y.cell z.1.1
  have u3 := fun y : Up W => y.cell z.1.2.2.2.1
  have v0 := fun y : Up W => y.cell q.1.1
  have v1 := fun y : Up W => y.cell q.1.2.1
  have v2 := fun y : Up W => y.cell q.1.2.2
  refine wp_region_up (by kernel_rfl) (by kernel_rfl) ?_
  repeat (quiet_step (first | (go_at_call 55; with_reducible exact up_same (within_v HC.out _)) | (go_at_call 49; with_reducible exact up_box fun w' => last_v_j HLS.out w' ⟨by omega, by omega⟩ (by omega))))
  refine wpQuiet_nil ?_
  intro w1 hbw1
  go_wp2_with fail
  go_ret
  exact ⟨rfl, hW0.trans (hbw1.mono hW0.size)⟩

set_option linter.unusedVariables false in
set_option maxRecDepth 100000 in
set_option maxHeartbeats 4000000 in
theorem sent_i_3 (d : ByteArray) (f : Bool) (l n : Int) (LA LB : List Rg) (A : Option Addr) (ca : Nat) (B : Option Addr) (cb : Nat) (o : Int) (dp : ByteArray) (fp : Bool) (ls : Int) (w : World) (HLS : Hid (Pt.last ⟨o, dp, fp⟩ = ls)) (hd : d.size ≤ 30) (hdp : dp.size ≤ 2000000) (HC : Hid (decide (0 ≤ o ∧ o ≤ 30) = true)) (t1 : decide (ls < o) = false) (t2 : decide (n ≤ ls) = false) (t3 : decide ((d.size : Int) < o) = true) :
    Calls Try.prog 64 #[.agg #[.string d, .bool f, .int .i64 l, .int .i64 n, .slice A LA.length ca, .slice B LB.length cb], .agg #[.int .i64 o, .string dp, .bool fp]] w fun e w' => e = .returned (.bool false) ∧ Below w.heap.size w w' := by
  have ho := of_decide_eq_true HC.out
  have z := (Own6.new (d := d) (f := f) (l := l) (n := n) (A := A) (na := LA.length) (ca := ca) (B := B) (nb := LB.length) (cb := cb) w).alloc (.cells #[.int .i64 o, .string dp, .bool fp] 27)
  have q := Own3.new (w.alloc (.cells #[.string d, .bool f, .int .i64 l, .int .i64 n, .slice A LA.length ca, .slice B LB.length cb] 25)) o dp fp
  rw [show (w.alloc (.cells #[.string d, .bool f, .int .i64 l, .int .i64 n, .slice A LA.length ca, .slice B LB.length cb] 25)).heap.size = w.heap.size + 1 from by simp] at q
  have hW0 : Below w.heap.size w _ := ((Below.refl _ w).alloc (Nat.le_refl _) (.cells #[.string d, .bool f, .int .i64 l, .int .i64 n, .slice A LA.length ca, .slice B LB.length cb] 25)).alloc (by simp) (.cells #[.int .i64 o, .string dp, .bool fp] 27)
  have hsz : ((w.alloc (.cells #[.string d, .bool f, .int .i64 l, .int .i64 n, .slice A LA.length ca, .slice B LB.length cb] 25)).alloc (.cells #[.int .i64 o, .string dp, .bool fp] 27)).heap.size = w.heap.size + 1 + 1 := by simp
  go_enter Try.func64, Try.ntmps64
  go_wp2_with fail
  generalize hW : World.alloc (World.alloc w _) _ = W
  rw [hW] at z q hW0 hsz
  clear hW
  have u0 := fun y : Up W => y.cell z.1.1
  have u3 := fun y : Up W => y.cell z.1.2.2.2.1
  have v0 := fun y : Up W => y.cell q.1.1
  have v1 := fun y : Up W => y.cell q.1.2.1
  have v2 := fun y : Up W => y.cell q.1.2.2
  refine wp_region_up (by kernel_rfl) (by kernel_rfl) ?_
  repeat (quiet_step (first | (go_at_call 55; with_reducible exact up_same (within_v HC.out _)) | (go_at_call 49; with_reducible exact up_box fun w' => last_v_j HLS.out w' ⟨by omega, by omega⟩ (by omega))))
  refine wpQuiet_nil ?_
  intro w1 hbw1
  go_wp2_with fail
  go_ret
  exact ⟨rfl, hW0.trans (hbw1.mono hW0.size)⟩

set_option linter.unusedVariables false in
set_option maxRecDepth 100000 in
set_option maxHeartbeats 4000000 in
theorem sent_i_5 (d : ByteArray) (f : Bool) (l n : Int) (LA LB : List Rg) (A : Option Addr) (ca : Nat) (B : Option Addr) (cb : Nat) (o : Int) (dp : ByteArray) (fp : Bool) (ls : Int) (w : World) (HLS : Hid (Pt.last ⟨o, dp, fp⟩ = ls)) (hd : d.size ≤ 30) (hdp : dp.size ≤ 2000000) (HC : Hid (decide (0 ≤ o ∧ o ≤ 30) = true)) (t1 : decide (ls < o) = false) (t2 : decide (n ≤ ls) = false) (t3 : decide ((d.size : Int) < o) = false) (s2 : Hid (fp = true)) (s3 : Hid (f = false)) :
    Calls Try.prog 64 #[.agg #[.string d, .bool f, .int .i64 l, .int .i64 n, .slice A LA.length ca, .slice B LB.length cb], .agg #[.int .i64 o, .string dp, .bool fp]] w fun e w' => e = .returned (.bool false) ∧ Below w.heap.size w w' := by
  have ho := of_decide_eq_true HC.out
  have hod := of_decide_eq_false t3
  obtain ⟨ho0, ho1⟩ := ho
  have hod' : o ≤ (d.size : Int) := by omega
  have hxs : (d.extract o.toNat d.size).size ≤ 1000000 := by rw [ByteArray.size_extract]; omega
  have z := (Own6.new (d := d) (f := f) (l := l) (n := n) (A := A) (na := LA.length) (ca := ca) (B := B) (nb := LB.length) (cb := cb) w).alloc (.cells #[.int .i64 o, .string dp, .bool fp] 27)
  have q := Own3.new (w.alloc (.cells #[.string d, .bool f, .int .i64 l, .int .i64 n, .slice A LA.length ca, .slice B LB.length cb] 25)) o dp fp
  rw [show (w.alloc (.cells #[.string d, .bool f, .int .i64 l, .int .i64 n, .slice A LA.length ca, .slice B LB.length cb] 25)).heap.size = w.heap.size + 1 from by simp] at q
  have hW0 : Below w.heap.size w _ := ((Below.refl _ w).alloc (Nat.le_refl _) (.cells #[.string d, .bool f, .int .i64 l, .int .i64 n, .slice A LA.length ca, .slice B LB.length cb] 25)).alloc (by simp) (.cells #[.int .i64 o, .string dp, .bool fp] 27)
  have hsz : ((w.alloc (.cells #[.string d, .bool f, .int .i64 l, .int .i64 n, .slice A LA.length ca, .slice B LB.length cb] 25)).alloc (.cells #[.int .i64 o, .string dp, .bool fp] 27)).heap.size = w.heap.size + 1 + 1 := by simp
  go_enter Try.func64, Try.ntmps64
  go_wp2_with fail
  generalize hW : World.alloc (World.alloc w _) _ = W
  rw [hW] at z q hW0 hsz
  clear hW
  have u0 := fun y : Up W => y.cell z.1.1
  have u3 := fun y : Up W => y.cell z.1.2.2.2.1
  have v0 := fun y : Up W => y.cell q.1.1
  have v1 := fun y : Up W => y.cell q.1.2.1
  have v2 := fun y : Up W => y.cell q.1.2.2
  refine wp_region_up (by kernel_rfl) (by kernel_rfl) ?_
  repeat (quiet_step (first | (go_at_call 55; with_reducible exact up_same (within_v HC.out _)) | (go_at_call 49; with_reducible exact up_box fun w' => last_v_j HLS.out w' ⟨by omega, by omega⟩ (by omega))))
  refine wpQuiet_nil ?_
  intro w1 hbw1
  have zz := z.under hbw1 (by omega)
  have qq := q.under hbw1 (by omega)
  have hw1 := hW0.trans (hbw1.mono hW0.size)
  clear u0 u3 v0 v1 v2 z q hW0
  have hsw := hbw1.size
  have ZZ := hid_of zz
  have QQ := hid_of qq
  obtain ⟨⟨z0, z1, z2, z3, z4, z5⟩, zf⟩ := zz
  obtain ⟨⟨q0, q1, q2⟩, qf⟩ := qq
  have s2' := s2.out
  have s3' := s3.out
  go_wp2_with fail
  go_ret
  exact ⟨rfl, hw1⟩

set_option linter.unusedVariables false in
set_option maxRecDepth 100000 in
set_option maxHeartbeats 4000000 in
theorem sent_i_6 (d : ByteArray) (f : Bool) (l n : Int) (LA LB : List Rg) (A : Option Addr) (ca : Nat) (B : Option Addr) (cb : Nat) (o : Int) (dp : ByteArray) (fp : Bool) (ls : Int) (w : World) (HLS : Hid (Pt.last ⟨o, dp, fp⟩ = ls)) (hd : d.size ≤ 30) (hdp : dp.size ≤ 2000000) (HC : Hid (decide (0 ≤ o ∧ o ≤ 30) = true)) (t1 : decide (ls < o) = false) (t2 : decide (n ≤ ls) = false) (t3 : decide ((d.size : Int) < o) = false) (s2 : Hid (fp = true)) (s3 : Hid (f = true)) (s4 : (((o + (dp.size : Int)) == (d.size : Int))) = false) :
    Calls Try.prog 64 #[.agg #[.string d, .bool f, .int .i64 l, .int .i64 n, .slice A LA.length ca, .slice B LB.length cb], .agg #[.int .i64 o, .string dp, .bool fp]] w fun e w' => e = .returned (.bool false) ∧ Below w.heap.size w w' := by
  have ho := of_decide_eq_true HC.out
  have hod := of_decide_eq_false t3
  obtain ⟨ho0, ho1⟩ := ho
  have hod' : o ≤ (d.size : Int) := by omega
  have hxs : (d.extract o.toNat d.size).size ≤ 1000000 := by rw [ByteArray.size_extract]; omega
  have z := (Own6.new (d := d) (f := f) (l := l) (n := n) (A := A) (na := LA.length) (ca := ca) (B := B) (nb := LB.length) (cb := cb) w).alloc (.cells #[.int .i64 o, .string dp, .bool fp] 27)
  have q := Own3.new (w.alloc (.cells #[.string d, .bool f, .int .i64 l, .int .i64 n, .slice A LA.length ca, .slice B LB.length cb] 25)) o dp fp
  rw [show (w.alloc (.cells #[.string d, .bool f, .int .i64 l, .int .i64 n, .slice A LA.length ca, .slice B LB.length cb] 25)).heap.size = w.heap.size + 1 from by simp] at q
  have hW0 : Below w.heap.size w _ := ((Below.refl _ w).alloc (Nat.le_refl _) (.cells #[.string d, .bool f, .int .i64 l, .int .i64 n, .slice A LA.length ca, .slice B LB.length cb] 25)).alloc (by simp) (.cells #[.int .i64 o, .string dp, .bool fp] 27)
  have hsz : ((w.alloc (.cells #[.string d, .bool f, .int .i64 l, .int .i64 n, .slice A LA.length ca, .slice B LB.length cb] 25)).alloc (.cells #[.int .i64 o, .string dp, .bool fp] 27)).heap.size = w.heap.size + 1 + 1 := by simp
  go_enter Try.func64, Try.ntmps64
  go_wp2_with fail
  generalize hW : World.alloc (World.alloc w _) _ = W
  rw [hW] at z q hW0 hsz
  clear hW
  have u0 := fun y : Up W => y.cell z.1.1
  have u3 := fun y : Up W => y.cell z.1.2.2.2.1
  have v0 := fun y : Up W => y.cell q.1.1
  have v1 := fun y : Up W => y.cell q.1.2.1
  have v2 := fun y : Up W => y.cell q.1.2.2
  refine wp_region_up (by kernel_rfl) (by kernel_rfl) ?_
  repeat (quiet_step (first | (go_at_call 55; with_reducible exact up_same (within_v HC.out _)) | (go_at_call 49; with_reducible exact up_box fun w' => last_v_j HLS.out w' ⟨by omega, by omega⟩ (by omega))))
  refine wpQuiet_nil ?_
  intro w1 hbw1
  have zz := z.under hbw1 (by omega)
  have qq := q.under hbw1 (by omega)
  have hw1 := hW0.trans (hbw1.mono hW0.size)
  clear u0 u3 v0 v1 v2 z q hW0
  have hsw := hbw1.size
  have ZZ := hid_of zz
  have QQ := hid_of qq
  obtain ⟨⟨z0, z1, z2, z3, z4, z5⟩, zf⟩ := zz
  obtain ⟨⟨q0, q1, q2⟩, qf⟩ := qq
  have s2' := s2.out
  have s3' := s3.out
  go_wp2_with fail
  go_ret
  exact ⟨rfl, hw1⟩

set_option linter.unusedVariables false in
set_option maxRecDepth 100000 in
set_option maxHeartbeats 4000000 in
theorem sent_i_7 (d : ByteArray) (f : Bool) (l n : Int) (LA LB : List Rg) (A : Option Addr) (ca : Nat) (B : Option Addr) (cb : Nat) (o : Int) (dp : ByteArray) (fp : Bool) (ls : Int) (w : World) (HLS : Hid (Pt.last ⟨o, dp, fp⟩ = ls)) (hd : d.size ≤ 30) (hdp : dp.size ≤ 2000000) (HC : Hid (decide (0 ≤ o ∧ o ≤ 30) = true)) (t1 : decide (ls < o) = false) (t2 : decide (n ≤ ls) = false) (t3 : decide ((d.size : Int) < o) = false) (s2 : Hid (fp = false)) (b : Bool) (HB : Hid (pre (d.extract o.toNat d.size) dp = b)) :
    Calls Try.prog 64 #[.agg #[.string d, .bool f, .int .i64 l, .int .i64 n, .slice A LA.length ca, .slice B LB.length cb], .agg #[.int .i64 o, .string dp, .bool fp]] w fun e w' => e = .returned (.bool b) ∧ Below w.heap.size w w' := by
  have ho := of_decide_eq_true HC.out
  have hod := of_decide_eq_false t3
  obtain ⟨ho0, ho1⟩ := ho
  have hod' : o ≤ (d.size : Int) := by omega
  have hxs : (d.extract o.toNat d.size).size ≤ 1000000 := by rw [ByteArray.size_extract]; omega
  have z := (Own6.new (d := d) (f := f) (l := l) (n := n) (A := A) (na := LA.length) (ca := ca) (B := B) (nb := LB.length) (cb := cb) w).alloc (.cells #[.int .i64 o, .string dp, .bool fp] 27)
  have q := Own3.new (w.alloc (.cells #[.string d, .bool f, .int .i64 l, .int .i64 n, .slice A LA.length ca, .slice B LB.length cb] 25)) o dp fp
  rw [show (w.alloc (.cells #[.string d, .bool f, .int .i64 l, .int .i64 n, .slice A LA.length ca, .slice B LB.length cb] 25)).heap.size = w.heap.size + 1 from by simp] at q
  have hW0 : Below w.heap.size w _ := ((Below.refl _ w).alloc (Nat.le_refl _) (.cells #[.string d, .bool f, .int .i64 l, .int .i64 n, .slice A LA.length ca, .slice B LB.length cb] 25)).alloc (by simp) (.cells #[.int .i64 o, .string dp, .bool fp] 27)
  have hsz : ((w.alloc (.cells #[.string d, .bool f, .int .i64 l, .int .i64 n, .slice A LA.length ca, .slice B LB.length cb] 25)).alloc (.cells #[.int .i64 o, .string dp, .bool fp] 27)).heap.size = w.heap.size + 1 + 1 := by simp
  go_enter Try.func64, Try.ntmps64
  go_wp2_with fail
  generalize hW : World.alloc (World.alloc w _) _ = W
  rw [hW] at z q hW0 hsz
  clear hW
  have u0 := fun y : Up W => y.cell z.1.1
  have u3 := fun y : Up W => y.cell z.1.2.2.2.1
  have v0 := fun y : Up W => y.cell q.1.1
  have v1 := fun y : Up W => y.cell q.1.2.1
  have v2 := fun y : Up W => y.cell q.1.2.2
  refine wp_region_up (by kernel_rfl) (by kernel_rfl) ?_
  repeat (quiet_step (first | (go_at_call 55; with_reducible exact up_same (within_v HC.out _)) | (go_at_call 49; with_reducible exact up_box fun w' => last_v_j HLS.out w' ⟨by omega, by omega⟩ (by omega))))
  refine wpQuiet_nil ?_
  intro w1 hbw1
  have zz := z.under hbw1 (by omega)
  have qq := q.under hbw1 (by omega)
  have hw1 := hW0.trans (hbw1.mono hW0.size)
  clear u0 u3 v0 v1 v2 z q hW0
  have hsw := hbw1.size
  have ZZ := hid_of zz
  have QQ := hid_of qq
  obtain ⟨⟨z0, z1, z2, z3, z4, z5⟩, zf⟩ := zz
  obtain ⟨⟨q0, q1, q2⟩, qf⟩ := qq
  have s2' := s2.out
  go_wp2_with fail
  have u0 := fun y : Up w1 => y.cell z0
  have v0 := fun y : Up w1 => y.cell q0
  have v1 := fun y : Up w1 => y.cell q1
  clear z0 z1 z2 z3 z4 z5 zf q0 q1 q2 qf
  refine wp_region_up (by kernel_rfl) (by kernel_rfl) ?_
  repeat (quiet_step ((go_at_call 93; with_reducible exact up_same (hp_v HB.out _ hxs hdp))))
  refine wpQuiet_nil ?_
  intro w2 hbw2
  go_wp2_with fail
  go_ret
  exact ⟨rfl, hw1.trans (hbw2.mono hw1.size)⟩

set_option linter.unusedVariables false in
set_option maxRecDepth 100000 in
set_option maxHeartbeats 4000000 in
theorem sent_i_8 (d : ByteArray) (f : Bool) (l n : Int) (LA LB : List Rg) (A : Option Addr) (ca : Nat) (B : Option Addr) (cb : Nat) (o : Int) (dp : ByteArray) (fp : Bool) (ls : Int) (w : World) (HLS : Hid (Pt.last ⟨o, dp, fp⟩ = ls)) (hd : d.size ≤ 30) (hdp : dp.size ≤ 2000000) (HC : Hid (decide (0 ≤ o ∧ o ≤ 30) = true)) (t1 : decide (ls < o) = false) (t2 : decide (n ≤ ls) = false) (t3 : decide ((d.size : Int) < o) = false) (s2 : Hid (fp = true)) (s3 : Hid (f = true)) (s4 : (((o + (dp.size : Int)) == (d.size : Int))) = true) (b : Bool) (HB : Hid (pre (d.extract o.toNat d.size) dp = b)) :
    Calls Try.prog 64 #[.agg #[.string d, .bool f, .int .i64 l, .int .i64 n, .slice A LA.length ca, .slice B LB.length cb], .agg #[.int .i64 o, .string dp, .bool fp]] w fun e w' => e = .returned (.bool b) ∧ Below w.heap.size w w' := by
  have ho := of_decide_eq_true HC.out
  have hod := of_decide_eq_false t3
  obtain ⟨ho0, ho1⟩ := ho
  have hod' : o ≤ (d.size : Int) := by omega
  have hxs : (d.extract o.toNat d.size).size ≤ 1000000 := by rw [ByteArray.size_extract]; omega
  have z := (Own6.new (d := d) (f := f) (l := l) (n := n) (A := A) (na := LA.length) (ca := ca) (B := B) (nb := LB.length) (cb := cb) w).alloc (.cells #[.int .i64 o, .string dp, .bool fp] 27)
  have q := Own3.new (w.alloc (.cells #[.string d, .bool f, .int .i64 l, .int .i64 n, .slice A LA.length ca, .slice B LB.length cb] 25)) o dp fp
  rw [show (w.alloc (.cells #[.string d, .bool f, .int .i64 l, .int .i64 n, .slice A LA.length ca, .slice B LB.length cb] 25)).heap.size = w.heap.size + 1 from by simp] at q
  have hW0 : Below w.heap.size w _ := ((Below.refl _ w).alloc (Nat.le_refl _) (.cells #[.string d, .bool f, .int .i64 l, .int .i64 n, .slice A LA.length ca, .slice B LB.length cb] 25)).alloc (by simp) (.cells #[.int .i64 o, .string dp, .bool fp] 27)
  have hsz : ((w.alloc (.cells #[.string d, .bool f, .int .i64 l, .int .i64 n, .slice A LA.length ca, .slice B LB.length cb] 25)).alloc (.cells #[.int .i64 o, .string dp, .bool fp] 27)).heap.size = w.heap.size + 1 + 1 := by simp
  go_enter Try.func64, Try.ntmps64
  go_wp2_with fail
  generalize hW : World.alloc (World.alloc w _) _ = W
  rw [hW] at z q hW0 hsz
  clear hW
  have u0 := fun y : Up W => y.cell z.1.1
  have u3 := fun y : Up W => y.cell z.1.2.2.2.1
  have v0 := fun y : Up W => y.cell q.1.1
  have v1 := fun y : Up W => y.cell q.1.2.1
  have v2 := fun y : Up W => y.cell q.1.2.2
  refine wp_region_up (by kernel_rfl) (by kernel_rfl) ?_
  repeat (quiet_step (first | (go_at_call 55; with_reducible exact up_same (within_v HC.out _)) | (go_at_call 49; with_reducible exact up_box fun w' => last_v_j HLS.out w' ⟨by omega, by omega⟩ (by omega))))
  refine wpQuiet_nil ?_
  intro w1 hbw1
  have zz := z.under hbw1 (by omega)
  have qq := q.under hbw1 (by omega)
  have hw1 := hW0.trans (hbw1.mono hW0.size)
  clear u0 u3 v0 v1 v2 z q hW0
  have hsw := hbw1.size
  have ZZ := hid_of zz
  have QQ := hid_of qq
  obtain ⟨⟨z0, z1, z2, z3, z4, z5⟩, zf⟩ := zz
  obtain ⟨⟨q0, q1, q2⟩, qf⟩ := qq
  have s2' := s2.out
  have s3' := s3.out
  go_wp2_with fail
  have u0 := fun y : Up w1 => y.cell z0
  have v0 := fun y : Up w1 => y.cell q0
  have v1 := fun y : Up w1 => y.cell q1
  clear z0 z1 z2 z3 z4 z5 zf q0 q1 q2 qf
  refine wp_region_up (by kernel_rfl) (by kernel_rfl) ?_
  repeat (quiet_step ((go_at_call 93; with_reducible exact up_same (hp_v HB.out _ hxs hdp))))
  refine wpQuiet_nil ?_
  intro w2 hbw2
  go_wp2_with fail
  go_ret
  exact ⟨rfl, hw1.trans (hbw2.mono hw1.size)⟩

end Go.Proofs.Ytmkmaeblnnfheaa
