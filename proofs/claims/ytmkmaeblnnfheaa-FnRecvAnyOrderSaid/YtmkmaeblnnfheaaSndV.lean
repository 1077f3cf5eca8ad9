/- The reference's SendValid. -/
import Derived.Test.YtmkmaeblnnfheaaMg1
namespace Go.Proofs.Ytmkmaeblnnfheaa
open Go.RowKit
attribute [local irreducible] Go.wpQuiet

theorem pos_n_spec (d : ByteArray) (f : Bool) (l n : Int) (LA LB : List Rg) (A : Option Addr) (ca : Nat) (B : Option Addr) (cb : Nat) (w : World) (hd : d.size ≤ 1000000) {na nb : Nat} :
    Calls Try.prog 91 #[.agg #[.string d, .bool f, .int .i64 l, .int .i64 n, .slice A na ca, .slice B nb cb]] w fun e w' => e = .returned (.int .i64 (Sd.pos ⟨d, f, l, n, LA, LB⟩)) ∧ ∃ o, w' = w.alloc o := by
  cases f
  all_goals
    go_enter Try.func91, Try.ntmps91
    go_wp2_with fail
    go_ret
    exact ⟨ret_int (by simp [Sd.pos]), _, rfl⟩
theorem pos_v_spec {d : ByteArray} {f : Bool} {l n p : Int} {LA LB : List Rg} {A : Option Addr} {ca : Nat} {B : Option Addr} {cb : Nat} (hp : Sd.pos ⟨d, f, l, n, LA, LB⟩ = p) (w : World) (hd : d.size ≤ 1000000) {na nb : Nat} :
    Calls Try.prog 91 #[.agg #[.string d, .bool f, .int .i64 l, .int .i64 n, .slice A na ca, .slice B nb cb]] w fun e w' => e = .returned (.int .i64 p) ∧ ∃ o, w' = w.alloc o := by
  rw [← hp]
  exact pos_n_spec d f l n LA LB A ca B cb w hd
theorem rv_v_spec {L : List Rg} {b : Bool} {A : Option Addr} {n c : Nat} (hb : rvB L = b) (w : World) (h : RngAt w A n L) (hn : n ≤ 2000000) :
    Calls Try.prog 92 #[.slice A n c] w fun e w' => e = .returned (.bool b) ∧ Below w.heap.size w w' := hb ▸ rv_spec A n c L w h hn
theorem l2Has_v {L : List Rg} {b : Bool} {q : Int} {A : Option Addr} {n c : Nat} (hb : memB L q = b) (w : World) (h : RngAt w A n L) (hn : n ≤ 2000000) :
    Calls Try.prog 88 #[.slice A n c, .int .i64 q] w fun e w' => e = .returned (.bool b) ∧ Below w.heap.size w w' := hb ▸ l2Has_any A n c L w q h hn
set_option linter.unusedVariables false in
set_option maxRecDepth 100000 in
set_option maxHeartbeats 2000000 in
theorem sv_spec_len (d : ByteArray) (f : Bool) (l n : Int) (LA LB : List Rg) (A : Option Addr) (na ca : Nat) (B : Option Addr) (nb cb : Nat) (w : World) (hA : RngAt w A na LA) (hB : RngAt w B nb LB) (hn : na ≤ 2000000) (hn' : nb ≤ 2000000) (d1 : decide ((30 : Int) < (d.size : Int)) = true) :
    Calls Try.prog 61 #[.agg #[.string d, .bool f, .int .i64 l, .int .i64 n, .slice A na ca, .slice B nb cb]] w fun e w' => e = .returned (.bool false) ∧ Below w.heap.size w w' := by
  have HLA := hid_of hA.1
  have HLB := hid_of hB.1
  have hx0 := Box.new (d := d) (f := f) (l := l) (n := n) (A := A) (na := na) (ca := ca) (B := B) (nb := nb) (cb := cb) w
  have hAW := hA.alloc (.cells #[.string d, .bool f, .int .i64 l, .int .i64 n, .slice A na ca, .slice B nb cb] 25)
  have hBW := hB.alloc (.cells #[.string d, .bool f, .int .i64 l, .int .i64 n, .slice A na ca, .slice B nb cb] 25)
  have u0 := fun y => (hx0.up y).1
  have u1 := fun y => (hx0.up y).2.1
  have u2 := fun y => (hx0.up y).2.2.1
  have u3 := fun y => (hx0.up y).2.2.2.1
  have u4 := fun y => (hx0.up y).2.2.2.2.1
  have u5 := fun y => (hx0.up y).2.2.2.2.2
  go_enter Try.func61, Try.ntmps61
  go_wp2_with fail
  refine wp_region_up (by kernel_rfl) (by kernel_rfl) ?_
  repeat (quiet_step (fail))
  refine wpQuiet_nil ?_
  intro w1 hb1
  clear hx0 hAW hBW u0 u1 u2 u3 u4 u5
  go_wp2_with fail
  go_ret
  exact ⟨rfl, ((Below.refl _ w).alloc (Nat.le_refl _) _).trans (hb1.mono (by simp))⟩
set_option linter.unusedVariables false in
set_option maxRecDepth 100000 in
set_option maxHeartbeats 2000000 in
theorem sv_spec_lim (d : ByteArray) (f : Bool) (l n : Int) (LA LB : List Rg) (A : Option Addr) (na ca : Nat) (B : Option Addr) (nb cb : Nat) (w : World) (hA : RngAt w A na LA) (hB : RngAt w B nb LB) (hn : na ≤ 2000000) (hn' : nb ≤ 2000000) (d1 : decide ((30 : Int) < (d.size : Int)) = false) (hd : d.size ≤ 1000000) (H2 : Hid (decide (0 ≤ l ∧ l ≤ 30) = false)) :
    Calls Try.prog 61 #[.agg #[.string d, .bool f, .int .i64 l, .int .i64 n, .slice A na ca, .slice B nb cb]] w fun e w' => e = .returned (.bool false) ∧ Below w.heap.size w w' := by
  have HLA := hid_of hA.1
  have HLB := hid_of hB.1
  have hx0 := Box.new (d := d) (f := f) (l := l) (n := n) (A := A) (na := na) (ca := ca) (B := B) (nb := nb) (cb := cb) w
  have hAW := hA.alloc (.cells #[.string d, .bool f, .int .i64 l, .int .i64 n, .slice A na ca, .slice B nb cb] 25)
  have hBW := hB.alloc (.cells #[.string d, .bool f, .int .i64 l, .int .i64 n, .slice A na ca, .slice B nb cb] 25)
  have u0 := fun y => (hx0.up y).1
  have u1 := fun y => (hx0.up y).2.1
  have u2 := fun y => (hx0.up y).2.2.1
  have u3 := fun y => (hx0.up y).2.2.2.1
  have u4 := fun y => (hx0.up y).2.2.2.2.1
  have u5 := fun y => (hx0.up y).2.2.2.2.2
  go_enter Try.func61, Try.ntmps61
  go_wp2_with fail
  refine wp_region_up (by kernel_rfl) (by kernel_rfl) ?_
  repeat (quiet_step (first | (go_at_call 70; with_reducible exact up_same (l6In_v H2.out _))))
  refine wpQuiet_nil ?_
  intro w1 hb1
  clear hx0 hAW hBW u0 u1 u2 u3 u4 u5
  go_wp2_with fail
  go_ret
  exact ⟨rfl, ((Below.refl _ w).alloc (Nat.le_refl _) _).trans (hb1.mono (by simp))⟩
set_option linter.unusedVariables false in
set_option maxRecDepth 100000 in
set_option maxHeartbeats 2000000 in
theorem sv_spec_nxt (d : ByteArray) (f : Bool) (l n : Int) (LA LB : List Rg) (A : Option Addr) (na ca : Nat) (B : Option Addr) (nb cb : Nat) (w : World) (hA : RngAt w A na LA) (hB : RngAt w B nb LB) (hn : na ≤ 2000000) (hn' : nb ≤ 2000000) (d1 : decide ((30 : Int) < (d.size : Int)) = false) (hd : d.size ≤ 1000000) (H2 : Hid (decide (0 ≤ l ∧ l ≤ 30) = true)) {pos : Int} (HP : Hid (Sd.pos ⟨d, f, l, n, LA, LB⟩ = pos)) (H3 : Hid (decide (0 ≤ n ∧ n ≤ pos) = false)) :
    Calls Try.prog 61 #[.agg #[.string d, .bool f, .int .i64 l, .int .i64 n, .slice A na ca, .slice B nb cb]] w fun e w' => e = .returned (.bool false) ∧ Below w.heap.size w w' := by
  have HLA := hid_of hA.1
  have HLB := hid_of hB.1
  have hx0 := Box.new (d := d) (f := f) (l := l) (n := n) (A := A) (na := na) (ca := ca) (B := B) (nb := nb) (cb := cb) w
  have hAW := hA.alloc (.cells #[.string d, .bool f, .int .i64 l, .int .i64 n, .slice A na ca, .slice B nb cb] 25)
  have hBW := hB.alloc (.cells #[.string d, .bool f, .int .i64 l, .int .i64 n, .slice A na ca, .slice B nb cb] 25)
  have u0 := fun y => (hx0.up y).1
  have u1 := fun y => (hx0.up y).2.1
  have u2 := fun y => (hx0.up y).2.2.1
  have u3 := fun y => (hx0.up y).2.2.2.1
  have u4 := fun y => (hx0.up y).2.2.2.2.1
  have u5 := fun y => (hx0.up y).2.2.2.2.2
  go_enter Try.func61, Try.ntmps61
  go_wp2_with fail
  refine wp_region_up (by kernel_rfl) (by kernel_rfl) ?_
  repeat (quiet_step (first | (go_at_call 70; with_reducible exact up_same (l6In_v H2.out _)) | (go_at_call 91; with_reducible exact up_box fun w' => pos_v_spec HP.out w' (by omega)) | (go_at_call 70; with_reducible exact up_same (l6In_v H3.out _))))
  refine wpQuiet_nil ?_
  intro w1 hb1
  clear hx0 hAW hBW u0 u1 u2 u3 u4 u5
  go_wp2_with fail
  go_ret
  exact ⟨rfl, ((Below.refl _ w).alloc (Nat.le_refl _) _).trans (hb1.mono (by simp))⟩
set_option linter.unusedVariables false in
set_option maxRecDepth 100000 in
set_option maxHeartbeats 2000000 in
theorem sv_spec_min (d : ByteArray) (f : Bool) (l n : Int) (LA LB : List Rg) (A : Option Addr) (na ca : Nat) (B : Option Addr) (nb cb : Nat) (w : World) (hA : RngAt w A na LA) (hB : RngAt w B nb LB) (hn : na ≤ 2000000) (hn' : nb ≤ 2000000) (d1 : decide ((30 : Int) < (d.size : Int)) = false) (hd : d.size ≤ 1000000) (H2 : Hid (decide (0 ≤ l ∧ l ≤ 30) = true)) {pos : Int} (HP : Hid (Sd.pos ⟨d, f, l, n, LA, LB⟩ = pos)) (H3 : Hid (decide (0 ≤ n ∧ n ≤ pos) = true)) {mv : Int} (hmv : (if (d.size : Int) < n then (d.size : Int) else n) = mv) (h4 : decide (l < mv) = true) :
    Calls Try.prog 61 #[.agg #[.string d, .bool f, .int .i64 l, .int .i64 n, .slice A na ca, .slice B nb cb]] w fun e w' => e = .returned (.bool false) ∧ Below w.heap.size w w' := by
  have HLA := hid_of hA.1
  have HLB := hid_of hB.1
  have hx0 := Box.new (d := d) (f := f) (l := l) (n := n) (A := A) (na := na) (ca := ca) (B := B) (nb := nb) (cb := cb) w
  have hAW := hA.alloc (.cells #[.string d, .bool f, .int .i64 l, .int .i64 n, .slice A na ca, .slice B nb cb] 25)
  have hBW := hB.alloc (.cells #[.string d, .bool f, .int .i64 l, .int .i64 n, .slice A na ca, .slice B nb cb] 25)
  have u0 := fun y => (hx0.up y).1
  have u1 := fun y => (hx0.up y).2.1
  have u2 := fun y => (hx0.up y).2.2.1
  have u3 := fun y => (hx0.up y).2.2.2.1
  have u4 := fun y => (hx0.up y).2.2.2.2.1
  have u5 := fun y => (hx0.up y).2.2.2.2.2
  go_enter Try.func61, Try.ntmps61
  go_wp2_with fail
  refine wp_region_up (by kernel_rfl) (by kernel_rfl) ?_
  repeat (quiet_step (first | (go_at_call 70; with_reducible exact up_same (l6In_v H2.out _)) | (go_at_call 91; with_reducible exact up_box fun w' => pos_v_spec HP.out w' (by omega)) | (go_at_call 70; with_reducible exact up_same (l6In_v H3.out _))))
  refine wpQuiet_nil ?_
  intro w1 hb1
  clear hx0 hAW hBW u0 u1 u2 u3 u4 u5
  go_wp2_with fail
  go_ret
  exact ⟨rfl, ((Below.refl _ w).alloc (Nat.le_refl _) _).trans (hb1.mono (by simp))⟩
set_option linter.unusedVariables false in
set_option maxRecDepth 100000 in
set_option maxHeartbeats 2000000 in
theorem sv_spec_ra (d : ByteArray) (f : Bool) (l n : Int) (LA LB : List Rg) (A : Option Addr) (na ca : Nat) (B : Option Addr) (nb cb : Nat) (w : World) (hA : RngAt w A na LA) (hB : RngAt w B nb LB) (hn : na ≤ 2000000) (hn' : nb ≤ 2000000) (d1 : decide ((30 : Int) < (d.size : Int)) = false) (hd : d.size ≤ 1000000) (H2 : Hid (decide (0 ≤ l ∧ l ≤ 30) = true)) {pos : Int} (HP : Hid (Sd.pos ⟨d, f, l, n, LA, LB⟩ = pos)) (H3 : Hid (decide (0 ≤ n ∧ n ≤ pos) = true)) {mv : Int} (hmv : (if (d.size : Int) < n then (d.size : Int) else n) = mv) (h4 : decide (l < mv) = false) (HA : Hid (rvB LA = false)) :
    Calls Try.prog 61 #[.agg #[.string d, .bool f, .int .i64 l, .int .i64 n, .slice A na ca, .slice B nb cb]] w fun e w' => e = .returned (.bool false) ∧ Below w.heap.size w w' := by
  have HLA := hid_of hA.1
  have HLB := hid_of hB.1
  have hx0 := Box.new (d := d) (f := f) (l := l) (n := n) (A := A) (na := na) (ca := ca) (B := B) (nb := nb) (cb := cb) w
  have hAW := hA.alloc (.cells #[.string d, .bool f, .int .i64 l, .int .i64 n, .slice A na ca, .slice B nb cb] 25)
  have hBW := hB.alloc (.cells #[.string d, .bool f, .int .i64 l, .int .i64 n, .slice A na ca, .slice B nb cb] 25)
  have u0 := fun y => (hx0.up y).1
  have u1 := fun y => (hx0.up y).2.1
  have u2 := fun y => (hx0.up y).2.2.1
  have u3 := fun y => (hx0.up y).2.2.2.1
  have u4 := fun y => (hx0.up y).2.2.2.2.1
  have u5 := fun y => (hx0.up y).2.2.2.2.2
  go_enter Try.func61, Try.ntmps61
  go_wp2_with fail
  refine wp_region_up (by kernel_rfl) (by kernel_rfl) ?_
  repeat (quiet_step (first | (go_at_call 70; with_reducible exact up_same (l6In_v H2.out _)) | (go_at_call 91; with_reducible exact up_box fun w' => pos_v_spec HP.out w' (by omega)) | (go_at_call 70; with_reducible exact up_same (l6In_v H3.out _)) | (go_at_call_of 92 (Value.slice A na ca); with_reducible exact up_of fun w' hb' => rv_v_spec HA.out w' ((hAW.below hb')) hn)))
  refine wpQuiet_nil ?_
  intro w1 hb1
  clear hx0 hAW hBW u0 u1 u2 u3 u4 u5
  go_wp2_with fail
  go_ret
  exact ⟨rfl, ((Below.refl _ w).alloc (Nat.le_refl _) _).trans (hb1.mono (by simp))⟩
set_option linter.unusedVariables false in
set_option maxRecDepth 100000 in
set_option maxHeartbeats 2000000 in
theorem sv_spec_rb (d : ByteArray) (f : Bool) (l n : Int) (LA LB : List Rg) (A : Option Addr) (na ca : Nat) (B : Option Addr) (nb cb : Nat) (w : World) (hA : RngAt w A na LA) (hB : RngAt w B nb LB) (hn : na ≤ 2000000) (hn' : nb ≤ 2000000) (d1 : decide ((30 : Int) < (d.size : Int)) = false) (hd : d.size ≤ 1000000) (H2 : Hid (decide (0 ≤ l ∧ l ≤ 30) = true)) {pos : Int} (HP : Hid (Sd.pos ⟨d, f, l, n, LA, LB⟩ = pos)) (H3 : Hid (decide (0 ≤ n ∧ n ≤ pos) = true)) {mv : Int} (hmv : (if (d.size : Int) < n then (d.size : Int) else n) = mv) (h4 : decide (l < mv) = false) (HA : Hid (rvB LA = true)) (HB : Hid (rvB LB = false)) :
    Calls Try.prog 61 #[.agg #[.string d, .bool f, .int .i64 l, .int .i64 n, .slice A na ca, .slice B nb cb]] w fun e w' => e = .returned (.bool false) ∧ Below w.heap.size w w' := by
  have HLA := hid_of hA.1
  have HLB := hid_of hB.1
  have hx0 := Box.new (d := d) (f := f) (l := l) (n := n) (A := A) (na := na) (ca := ca) (B := B) (nb := nb) (cb := cb) w
  have hAW := hA.alloc (.cells #[.string d, .bool f, .int .i64 l, .int .i64 n, .slice A na ca, .slice B nb cb] 25)
  have hBW := hB.alloc (.cells #[.string d, .bool f, .int .i64 l, .int .i64 n, .slice A na ca, .slice B nb cb] 25)
  have u0 := fun y => (hx0.up y).1
  have u1 := fun y => (hx0.up y).2.1
  have u2 := fun y => (hx0.up y).2.2.1
  have u3 := fun y => (hx0.up y).2.2.2.1
  have u4 := fun y => (hx0.up y).2.2.2.2.1
  have u5 := fun y => (hx0.up y).2.2.2.2.2
  go_enter Try.func61, Try.ntmps61
  go_wp2_with fail
  refine wp_region_up (by kernel_rfl) (by kernel_rfl) ?_
  repeat (quiet_step (first | (go_at_call 70; with_reducible exact up_same (l6In_v H2.out _)) | (go_at_call 91; with_reducible exact up_box fun w' => pos_v_spec HP.out w' (by omega)) | (go_at_call 70; with_reducible exact up_same (l6In_v H3.out _)) | (go_at_call_of 92 (Value.slice A na ca); with_reducible exact up_of fun w' hb' => rv_v_spec HA.out w' ((hAW.below hb')) hn) | (go_at_call_of 92 (Value.slice B nb cb); with_reducible exact up_of fun w' hb' => rv_v_spec HB.out w' ((hBW.below hb')) hn')))
  refine wpQuiet_nil ?_
  intro w1 hb1
  clear hx0 hAW hBW u0 u1 u2 u3 u4 u5
  go_wp2_with fail
  go_ret
  exact ⟨rfl, ((Below.refl _ w).alloc (Nat.le_refl _) _).trans (hb1.mono (by simp))⟩
set_option linter.unusedVariables false in
set_option maxRecDepth 100000 in
set_option maxHeartbeats 16000000 in
theorem sv_spec_main (d : ByteArray) (f : Bool) (l n : Int) (LA LB : List Rg) (A : Option Addr) (na ca : Nat) (B : Option Addr) (nb cb : Nat) (w : World) (hA : RngAt w A na LA) (hB : RngAt w B nb LB) (hn : na ≤ 2000000) (hn' : nb ≤ 2000000) (d1 : decide ((30 : Int) < (d.size : Int)) = false) (hd : d.size ≤ 1000000) (H2 : Hid (decide (0 ≤ l ∧ l ≤ 30) = true)) {pos : Int} (HP : Hid (Sd.pos ⟨d, f, l, n, LA, LB⟩ = pos)) (H3 : Hid (decide (0 ≤ n ∧ n ≤ pos) = true)) {mv : Int} (hmv : (if (d.size : Int) < n then (d.size : Int) else n) = mv) (h4 : decide (l < mv) = false) (HA : Hid (rvB LA = true)) (HB : Hid (rvB LB = true)) (HFIN : Hid (Fine LA n → Fine LB n → (∀ i : Int, 0 ≤ i → i < n → memB LA i = true → memB LB i = true → False) → okS ⟨d, f, l, n, LA, LB⟩ = true)) (HOUT : True) :
    Calls Try.prog 61 #[.agg #[.string d, .bool f, .int .i64 l, .int .i64 n, .slice A na ca, .slice B nb cb]] w fun e w' => e = .returned (.bool (okS ⟨d, f, l, n, LA, LB⟩)) ∧ Below w.heap.size w w' := by
  have HLA := hid_of hA.1
  have HLB := hid_of hB.1
  have hx0 := Box.new (d := d) (f := f) (l := l) (n := n) (A := A) (na := na) (ca := ca) (B := B) (nb := nb) (cb := cb) w
  have hAW := hA.alloc (.cells #[.string d, .bool f, .int .i64 l, .int .i64 n, .slice A na ca, .slice B nb cb] 25)
  have hBW := hB.alloc (.cells #[.string d, .bool f, .int .i64 l, .int .i64 n, .slice A na ca, .slice B nb cb] 25)
  have u0 := fun y => (hx0.up y).1
  have u1 := fun y => (hx0.up y).2.1
  have u2 := fun y => (hx0.up y).2.2.1
  have u3 := fun y => (hx0.up y).2.2.2.1
  have u4 := fun y => (hx0.up y).2.2.2.2.1
  have u5 := fun y => (hx0.up y).2.2.2.2.2
  have h3 := of_decide_eq_true H3.out
  have hpos1 : pos ≤ 1000001 := by have e : Sd.pos ⟨d, f, l, n, LA, LB⟩ ≤ (d.size : Int) + 1 := (pos_le ⟨d, f, l, n, LA, LB⟩).2; rw [HP.out] at e; omega
  go_enter Try.func61, Try.ntmps61
  go_wp2_with fail
  refine wp_region_up (by kernel_rfl) (by kernel_rfl) ?_
  repeat (quiet_step (first | (go_at_call 70; with_reducible exact up_same (l6In_v H2.out _)) | (go_at_call 91; with_reducible exact up_box fun w' => pos_v_spec HP.out w' (by omega)) | (go_at_call 70; with_reducible exact up_same (l6In_v H3.out _)) | (go_at_call_of 92 (Value.slice A na ca); with_reducible exact up_of fun w' hb' => rv_v_spec HA.out w' ((hAW.below hb')) hn) | (go_at_call_of 92 (Value.slice B nb cb); with_reducible exact up_of fun w' hb' => rv_v_spec HB.out w' ((hBW.below hb')) hn')))
  refine wpQuiet_nil ?_
  intro w1 hb1
  have hy := hx0.below hb1
  have hA1 := hAW.below hb1
  have hB1 := hBW.below hb1
  have hw1 : Below w.heap.size w w1 := ((Below.refl _ w).alloc (Nat.le_refl _) _).trans (hb1.mono (by simp))
  have hs1 := hw1.size
  have hlt1 := hy.lt
  obtain ⟨blk, hblk⟩ : ∃ q, w.heap.size = q := ⟨_, rfl⟩
  have HBLK := hid_of hblk
  rw [hblk] at hy hlt1 ⊢
  clear hblk u0 u1 u2 u3 u4 u5 hx0 hAW hBW hb1 hA hB h4 hmv
  obtain ⟨y0, y1, y2, y3, y4, y5⟩ := hy
  clear HOUT
  go_wp2_with fail
  go_loopw [3, 4, 5] (fun i _ _ wr => ∃ j : Nat, i = .int .i64 (j : Nat) ∧ j ≤ 1000 ∧ Hid (∀ q : Int, 0 ≤ q → q < j → memB LA q = true → q < n) ∧ Hid (∀ q : Int, 0 ≤ q → q < j → memB LB q = true → q < n) ∧ Hid (∀ q : Int, 0 ≤ q → q < j → memB LA q = true → memB LB q = true → False) ∧ Below w1.heap.size w1 wr) (fun i _ _ _ => 1000 - (intOf i).toNat)
  case atStart => exact ⟨0, rfl, by omega, fun q h0 h1 => absurd h1 (by omega), fun q h0 h1 => absurd h1 (by omega), fun q h0 h1 => absurd h1 (by omega), Below.refl _ _⟩
  case round =>
    obtain ⟨j, rfl, hj, HJA, HJB, HJ, hb⟩ := hrel
    have hwr := hw1.trans (hb.mono hs1)
    by_cases hjn : j < 1000
    · have y3 := (hb.cell (p := ⟨blk, 3, none⟩) hlt1).trans y3
      have y4 := (hb.cell (p := ⟨blk, 4, none⟩) hlt1).trans y4
      have y5 := (hb.cell (p := ⟨blk, 5, none⟩) hlt1).trans y5
      have hltr : blk < wr.heap.size := Nat.lt_of_lt_of_le hlt1 hb.size
      have hA2 := hA1.below hb
      have hB2 := hB1.below hb
      clear y0 y1 y2 hA1 hB1
      obtain ⟨ba1, hba1⟩ : ∃ b, memB LA (j : Int) = b := ⟨_, rfl⟩
      obtain ⟨bb1, hbb1⟩ : ∃ b, memB LB (j : Int) = b := ⟨_, rfl⟩
      obtain ⟨bn1, hbn1⟩ : ∃ b, decide (n ≤ (j : Int)) = b := ⟨_, rfl⟩
      have HBA := hid_of hba1
      have HBB := hid_of hbb1
      have HBN := hid_of hbn1
      clear hba1 hbb1
      cases ba1 with
      | true =>
        cases bb1 with
        | true =>
          have HS : Hid (okS ⟨d, f, l, n, LA, LB⟩ = false) := okS_not fun h => by exact h.apart (j : Int) HBA.out HBB.out
          go_wp2_with (first | (go_at_call_of 88 (Value.slice A na ca); (with_reducible refine (l2Has_v HBA.out _ hA2 hn).mono ?_); rintro e w2 ⟨rfl, hb2⟩; have z3 := (hb2.cell (p := ⟨blk, 3, none⟩) hltr).trans y3; have z5 := (hb2.cell (p := ⟨blk, 5, none⟩) hltr).trans y5; have hB3 := hB2.below hb2; have hltr2 : blk < w2.heap.size := Nat.lt_of_lt_of_le hltr hb2.size) | (go_at_call_of 88 (Value.slice B nb cb); (with_reducible refine (l2Has_v HBB.out _ hB3 hn').mono ?_); rintro e w3 ⟨rfl, hb3⟩; have z3 := (hb3.cell (p := ⟨blk, 3, none⟩) hltr2).trans z3; have HB3 := hid_of ((hb.trans (hb2.mono hb.size)).trans (hb3.mono (Nat.le_trans hb.size hb2.size)))))
          go_ret
          exact ⟨ret_bool HS.out.symm, HBLK.out ▸ hw1.trans (HB3.out.mono hs1)⟩
        | false =>
          cases bn1 with
          | true =>
            have HS : Hid (okS ⟨d, f, l, n, LA, LB⟩ = false) := okS_not fun h => by have e : (j : Int) < n := h.aLt (j : Int) HBA.out; have := of_decide_eq_true HBN.out; omega
            go_wp2_with (first | (go_at_call_of 88 (Value.slice A na ca); (with_reducible refine (l2Has_v HBA.out _ hA2 hn).mono ?_); rintro e w2 ⟨rfl, hb2⟩; have z3 := (hb2.cell (p := ⟨blk, 3, none⟩) hltr).trans y3; have z5 := (hb2.cell (p := ⟨blk, 5, none⟩) hltr).trans y5; have hB3 := hB2.below hb2; have hltr2 : blk < w2.heap.size := Nat.lt_of_lt_of_le hltr hb2.size) | (go_at_call_of 88 (Value.slice B nb cb); (with_reducible refine (l2Has_v HBB.out _ hB3 hn').mono ?_); rintro e w3 ⟨rfl, hb3⟩; have z3 := (hb3.cell (p := ⟨blk, 3, none⟩) hltr2).trans z3; have HB3 := hid_of ((hb.trans (hb2.mono hb.size)).trans (hb3.mono (Nat.le_trans hb.size hb2.size)))))
            go_ret
            exact ⟨ret_bool HS.out.symm, HBLK.out ▸ hw1.trans (HB3.out.mono hs1)⟩
          | false =>
            go_wp2_with (first | (go_at_call_of 88 (Value.slice A na ca); (with_reducible refine (l2Has_v HBA.out _ hA2 hn).mono ?_); rintro e w2 ⟨rfl, hb2⟩; have z3 := (hb2.cell (p := ⟨blk, 3, none⟩) hltr).trans y3; have z5 := (hb2.cell (p := ⟨blk, 5, none⟩) hltr).trans y5; have hB3 := hB2.below hb2; have hltr2 : blk < w2.heap.size := Nat.lt_of_lt_of_le hltr hb2.size) | (go_at_call_of 88 (Value.slice B nb cb); (with_reducible refine (l2Has_v HBB.out _ hB3 hn').mono ?_); rintro e w3 ⟨rfl, hb3⟩; have z3 := (hb3.cell (p := ⟨blk, 3, none⟩) hltr2).trans z3; have HB3 := hid_of ((hb.trans (hb2.mono hb.size)).trans (hb3.mono (Nat.le_trans hb.size hb2.size)))))
            go_roundw
            case rel => exact ⟨j + 1, by go_num, by omega, upto_next HJA.out (fun ha => by have := of_decide_eq_false HBN.out; omega), upto_next HJB.out (fun ha => by rw [HBB.out] at ha; cases ha), upto_next HJ.out (fun ha hb => by rw [HBB.out] at hb; cases hb), HB3.out⟩
            case measure => simp [intOf]; omega
      | false =>
        cases bb1 with
        | true =>
          cases bn1 with
          | true =>
            have HS : Hid (okS ⟨d, f, l, n, LA, LB⟩ = false) := okS_not fun h => by have e : (j : Int) < n := h.bLt (j : Int) HBB.out; have := of_decide_eq_true HBN.out; omega
            go_wp2_with (first | (go_at_call_of 88 (Value.slice A na ca); (with_reducible refine (l2Has_v HBA.out _ hA2 hn).mono ?_); rintro e w2 ⟨rfl, hb2⟩; have z3 := (hb2.cell (p := ⟨blk, 3, none⟩) hltr).trans y3; have z5 := (hb2.cell (p := ⟨blk, 5, none⟩) hltr).trans y5; have hB3 := hB2.below hb2; have hltr2 : blk < w2.heap.size := Nat.lt_of_lt_of_le hltr hb2.size) | (go_at_call_of 88 (Value.slice B nb cb); (with_reducible refine (l2Has_v HBB.out _ hB3 hn').mono ?_); rintro e w3 ⟨rfl, hb3⟩; have z3 := (hb3.cell (p := ⟨blk, 3, none⟩) hltr2).trans z3; have HB3 := hid_of ((hb.trans (hb2.mono hb.size)).trans (hb3.mono (Nat.le_trans hb.size hb2.size)))))
            go_ret
            exact ⟨ret_bool HS.out.symm, HBLK.out ▸ hw1.trans (HB3.out.mono hs1)⟩
          | false =>
            go_wp2_with (first | (go_at_call_of 88 (Value.slice A na ca); (with_reducible refine (l2Has_v HBA.out _ hA2 hn).mono ?_); rintro e w2 ⟨rfl, hb2⟩; have z3 := (hb2.cell (p := ⟨blk, 3, none⟩) hltr).trans y3; have z5 := (hb2.cell (p := ⟨blk, 5, none⟩) hltr).trans y5; have hB3 := hB2.below hb2; have hltr2 : blk < w2.heap.size := Nat.lt_of_lt_of_le hltr hb2.size) | (go_at_call_of 88 (Value.slice B nb cb); (with_reducible refine (l2Has_v HBB.out _ hB3 hn').mono ?_); rintro e w3 ⟨rfl, hb3⟩; have z3 := (hb3.cell (p := ⟨blk, 3, none⟩) hltr2).trans z3; have HB3 := hid_of ((hb.trans (hb2.mono hb.size)).trans (hb3.mono (Nat.le_trans hb.size hb2.size)))))
            go_roundw
            case rel => exact ⟨j + 1, by go_num, by omega, upto_next HJA.out (fun ha => by rw [HBA.out] at ha; cases ha), upto_next HJB.out (fun ha => by have := of_decide_eq_false HBN.out; omega), upto_next HJ.out (fun ha hb => by rw [HBA.out] at ha; cases ha), HB3.out⟩
            case measure => simp [intOf]; omega
        | false =>
          go_wp2_with (first | (go_at_call_of 88 (Value.slice A na ca); (with_reducible refine (l2Has_v HBA.out _ hA2 hn).mono ?_); rintro e w2 ⟨rfl, hb2⟩; have z3 := (hb2.cell (p := ⟨blk, 3, none⟩) hltr).trans y3; have z5 := (hb2.cell (p := ⟨blk, 5, none⟩) hltr).trans y5; have hB3 := hB2.below hb2; have hltr2 : blk < w2.heap.size := Nat.lt_of_lt_of_le hltr hb2.size) | (go_at_call_of 88 (Value.slice B nb cb); (with_reducible refine (l2Has_v HBB.out _ hB3 hn').mono ?_); rintro e w3 ⟨rfl, hb3⟩; have z3 := (hb3.cell (p := ⟨blk, 3, none⟩) hltr2).trans z3; have HB3 := hid_of ((hb.trans (hb2.mono hb.size)).trans (hb3.mono (Nat.le_trans hb.size hb2.size)))))
          go_roundw
          case rel => exact ⟨j + 1, by go_num, by omega, upto_next HJA.out (fun ha => by rw [HBA.out] at ha; cases ha), upto_next HJB.out (fun ha => by rw [HBB.out] at ha; cases ha), upto_next HJ.out (fun ha hb => by rw [HBA.out] at ha; cases ha), HB3.out⟩
          case measure => simp [intOf]; omega
    · have hkn : j = 1000 := by omega
      subst hkn
      have HS : Hid (okS ⟨d, f, l, n, LA, LB⟩ = true) := HFIN.out ⟨HA.out, fun i hi => by have := mem_range (rvB_iff.1 HA.out).2.2 hi; exact HJA.out i (by omega) (by omega) hi⟩ ⟨HB.out, fun i hi => by have := mem_range (rvB_iff.1 HB.out).2.2 hi; exact HJB.out i (by omega) (by omega) hi⟩ (fun q h0 h1 ha => by have := mem_range (rvB_iff.1 HA.out).2.2 ha; exact HJ.out q h0 (by omega) ha)
      clear hjn y0 y1 y2 y4 y5
      have y3 := (hb.cell (p := ⟨blk, 3, none⟩) hlt1).trans y3
      go_wp2_with fail
      go_ret
      exact ⟨ret_bool HS.out.symm, HBLK.out ▸ hwr⟩
set_option linter.unusedVariables false in
set_option maxRecDepth 100000 in
set_option maxHeartbeats 2000000 in
theorem sv_spec (d : ByteArray) (f : Bool) (l n : Int) (LA LB : List Rg) (A : Option Addr) (na ca : Nat) (B : Option Addr) (nb cb : Nat) (w : World) (hA : RngAt w A na LA) (hB : RngAt w B nb LB) (hn : na ≤ 2000000) (hn' : nb ≤ 2000000)  :
    Calls Try.prog 61 #[.agg #[.string d, .bool f, .int .i64 l, .int .i64 n, .slice A na ca, .slice B nb cb]] w fun e w' => e = .returned (.bool (okS ⟨d, f, l, n, LA, LB⟩)) ∧ Below w.heap.size w w' := by
  by_cases h1 : 30 < d.size
  · rw [okS_not fun h => by have := h.len; dsimp only at this; omega]; exact sv_spec_len d f l n LA LB A na ca B nb cb w hA hB hn hn' (decide_eq_true (by omega))
  have d1 : decide ((30 : Int) < (d.size : Int)) = false := decide_eq_false (by omega)
  have hd : d.size ≤ 1000000 := by omega
  cases h2 : decide (0 ≤ l ∧ l ≤ 30) with
  | false => rw [okS_not fun h => by have e1 := h.l0; have e2 := h.l1; dsimp only at e1 e2; have := of_decide_eq_false h2; omega]; exact sv_spec_lim d f l n LA LB A na ca B nb cb w hA hB hn hn' d1 hd h2
  | true =>
    cases h3 : decide (0 ≤ n ∧ n ≤ Sd.pos ⟨d, f, l, n, LA, LB⟩) with
    | false => rw [okS_not fun h => by have e1 : 0 ≤ n := h.n0; have e2 : n ≤ Sd.pos ⟨d, f, l, n, LA, LB⟩ := h.n1; have := of_decide_eq_false h3; omega]; exact sv_spec_nxt d f l n LA LB A na ca B nb cb w hA hB hn hn' d1 hd h2 rfl h3
    | true =>
      have HMV : min n (d.size : Int) = (if (d.size : Int) < n then (d.size : Int) else n) := by split <;> omega
      cases h4 : decide (l < (if (d.size : Int) < n then (d.size : Int) else n)) with
      | true => rw [okS_not fun h => by have e1 := h.lim; dsimp only at e1; rw [HMV] at e1; have := of_decide_eq_true h4; omega]; exact sv_spec_min d f l n LA LB A na ca B nb cb w hA hB hn hn' d1 hd h2 rfl h3 rfl h4
      | false =>
        have HF : Fine LA n → Fine LB n → (∀ i : Int, 0 ≤ i → i < n → memB LA i = true → memB LB i = true → False) → okS ⟨d, f, l, n, LA, LB⟩ = true := fun p1 p2 p3 => okS_yes (by omega) (of_decide_eq_true h2) (of_decide_eq_true h3) (by rw [HMV]; have := of_decide_eq_false h4; omega) p1.1 p2.1 p1.2 p2.2 p3
        cases h5 : rvB LA with
        | false => rw [okS_not fun h => by have e := rvB_iff.2 h.a; dsimp only at e; rw [h5] at e; cases e]; exact sv_spec_ra d f l n LA LB A na ca B nb cb w hA hB hn hn' d1 hd h2 rfl h3 rfl h4 h5
        | true =>
          cases h6 : rvB LB with
          | false => rw [okS_not fun h => by have e := rvB_iff.2 h.b; dsimp only at e; rw [h6] at e; cases e]; exact sv_spec_rb d f l n LA LB A na ca B nb cb w hA hB hn hn' d1 hd h2 rfl h3 rfl h4 h5 h6
          | true => exact sv_spec_main d f l n LA LB A na ca B nb cb w hA hB hn hn' d1 hd h2 rfl h3 rfl h4 h5 h6 HF trivial

end Go.Proofs.Ytmkmaeblnnfheaa
