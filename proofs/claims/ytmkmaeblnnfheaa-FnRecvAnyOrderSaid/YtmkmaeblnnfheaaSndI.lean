/- The program's SendValid. -/
import Derived.Test.YtmkmaeblnnfheaaMg1
namespace Go.Proofs.Ytmkmaeblnnfheaa
open Go.RowKit
attribute [local irreducible] Go.wpQuiet

theorem pos_n_impl (d : ByteArray) (f : Bool) (l n : Int) (LA LB : List Rg) (A : Option Addr) (ca : Nat) (B : Option Addr) (cb : Nat) (w : World) (hd : d.size ≤ 1000000) {na nb : Nat} :
    Calls Try.prog 56 #[.agg #[.string d, .bool f, .int .i64 l, .int .i64 n, .slice A na ca, .slice B nb cb]] w fun e w' => e = .returned (.int .i64 (Sd.pos ⟨d, f, l, n, LA, LB⟩)) ∧ ∃ o, w' = w.alloc o := by
  cases f
  all_goals
    go_enter Try.func56, Try.ntmps56
    go_wp2_with fail
    go_ret
    exact ⟨ret_int (by simp [Sd.pos]), _, rfl⟩
theorem pos_v_impl {d : ByteArray} {f : Bool} {l n p : Int} {LA LB : List Rg} {A : Option Addr} {ca : Nat} {B : Option Addr} {cb : Nat} (hp : Sd.pos ⟨d, f, l, n, LA, LB⟩ = p) (w : World) (hd : d.size ≤ 1000000) {na nb : Nat} :
    Calls Try.prog 56 #[.agg #[.string d, .bool f, .int .i64 l, .int .i64 n, .slice A na ca, .slice B nb cb]] w fun e w' => e = .returned (.int .i64 p) ∧ ∃ o, w' = w.alloc o := by
  rw [← hp]
  exact pos_n_impl d f l n LA LB A ca B cb w hd
theorem rv_v_impl {L : List Rg} {b : Bool} {A : Option Addr} {n c : Nat} (hb : rvB L = b) (w : World) (h : RngAt w A n L) (hn : n ≤ 2000000) :
    Calls Try.prog 53 #[.slice A n c] w fun e w' => e = .returned (.bool b) ∧ Below w.heap.size w w' := hb ▸ rv_impl A n c L w h hn
theorem has_v {L : List Rg} {b : Bool} {q : Int} {A : Option Addr} {n c : Nat} (hb : memB L q = b) (w : World) (h : RngAt w A n L) (hn : n ≤ 2000000) :
    Calls Try.prog 54 #[.slice A n c, .int .i64 q] w fun e w' => e = .returned (.bool b) ∧ Below w.heap.size w w' := hb ▸ has_any A n c L w q h hn
set_option linter.unusedVariables false in
set_option maxRecDepth 100000 in
set_option maxHeartbeats 2000000 in
theorem sv_impl_len (d : ByteArray) (f : Bool) (l n : Int) (LA LB : List Rg) (A : Option Addr) (na ca : Nat) (B : Option Addr) (nb cb : Nat) (w : World) (hA : RngAt w A na LA) (hB : RngAt w B nb LB) (hn : na ≤ 2000000) (hn' : nb ≤ 2000000) (d1 : decide ((30 : Int) < (d.size : Int)) = true) :
    Calls Try.prog 19 #[.agg #[.string d, .bool f, .int .i64 l, .int .i64 n, .slice A na ca, .slice B nb cb]] w fun e w' => e = .returned (.bool false) ∧ Below w.heap.size w w' := by
  have HLA := hid_of hA.1
  have HLB := hid_of hB.1
  have hx0 := Box.new (d := d) (f := f) (l := l) (n := n) (A := A) (na := na) (ca := ca) (B := B) (nb := nb) (cb := cb) w
  have hAW := hA.alloc (.cells #[.string d, .bool f, .int .i64 l, .int .i64 n, .slice A na ca, .slice B nb cb] 25)
  have hBW := hB.alloc (.cells #[.string d, .bool f, .int .i64 l, .int .i64 n, .slice A na ca, .slice B nb cb] 25)
  have u0 := fun y => (hx0.up y).1
  have u1 := fun y => (hx0.up y).2.1
  have u2 := fun y => (hx0.up y).2.2.1
  have u3 := fun y => (hx0.up y).2.2.2.1
  have u4 := fun y => (hx0.up y).2.2.2.2.1
  have u5 := fun y => (hx0.up y).2.2.2.2.2
  go_enter Try.func19, Try.ntmps19
  go_wp2_with fail
  refine wp_region_up (by kernel_rfl) (by kernel_rfl) ?_
  repeat (quiet_step (fail))
  refine wpQuiet_nil ?_
  intro w1 hb1
  clear hx0 hAW hBW u0 u1 u2 u3 u4 u5
  go_wp2_with fail
  go_ret
  exact ⟨rfl, ((Below.refl _ w).alloc (Nat.le_refl _) _).trans (hb1.mono (by simp))⟩
set_option linter.unusedVariables false in
set_option maxRecDepth 100000 in
set_option maxHeartbeats 2000000 in
theorem sv_impl_lim (d : ByteArray) (f : Bool) (l n : Int) (LA LB : List Rg) (A : Option Addr) (na ca : Nat) (B : Option Addr) (nb cb : Nat) (w : World) (hA : RngAt w A na LA) (hB : RngAt w B nb LB) (hn : na ≤ 2000000) (hn' : nb ≤ 2000000) (d1 : decide ((30 : Int) < (d.size : Int)) = false) (hd : d.size ≤ 1000000) (H2 : Hid (decide (0 ≤ l ∧ l ≤ 30) = false)) :
    Calls Try.prog 19 #[.agg #[.string d, .bool f, .int .i64 l, .int .i64 n, .slice A na ca, .slice B nb cb]] w fun e w' => e = .returned (.bool false) ∧ Below w.heap.size w w' := by
  have HLA := hid_of hA.1
  have HLB := hid_of hB.1
  have hx0 := Box.new (d := d) (f := f) (l := l) (n := n) (A := A) (na := na) (ca := ca) (B := B) (nb := nb) (cb := cb) w
  have hAW := hA.alloc (.cells #[.string d, .bool f, .int .i64 l, .int .i64 n, .slice A na ca, .slice B nb cb] 25)
  have hBW := hB.alloc (.cells #[.string d, .bool f, .int .i64 l, .int .i64 n, .slice A na ca, .slice B nb cb] 25)
  have u0 := fun y => (hx0.up y).1
  have u1 := fun y => (hx0.up y).2.1
  have u2 := fun y => (hx0.up y).2.2.1
  have u3 := fun y => (hx0.up y).2.2.2.1
  have u4 := fun y => (hx0.up y).2.2.2.2.1
  have u5 := fun y => (hx0.up y).2.2.2.2.2
  go_enter Try.func19, Try.ntmps19
  go_wp2_with fail
  refine wp_region_up (by kernel_rfl) (by kernel_rfl) ?_
  repeat (quiet_step (first | (go_at_call 55; with_reducible exact up_same (within_v H2.out _))))
  refine wpQuiet_nil ?_
  intro w1 hb1
  clear hx0 hAW hBW u0 u1 u2 u3 u4 u5
  go_wp2_with fail
  go_ret
  exact ⟨rfl, ((Below.refl _ w).alloc (Nat.le_refl _) _).trans (hb1.mono (by simp))⟩
set_option linter.unusedVariables false in
set_option maxRecDepth 100000 in
set_option maxHeartbeats 2000000 in
theorem sv_impl_nxt (d : ByteArray) (f : Bool) (l n : Int) (LA LB : List Rg) (A : Option Addr) (na ca : Nat) (B : Option Addr) (nb cb : Nat) (w : World) (hA : RngAt w A na LA) (hB : RngAt w B nb LB) (hn : na ≤ 2000000) (hn' : nb ≤ 2000000) (d1 : decide ((30 : Int) < (d.size : Int)) = false) (hd : d.size ≤ 1000000) (H2 : Hid (decide (0 ≤ l ∧ l ≤ 30) = true)) {pos : Int} (HP : Hid (Sd.pos ⟨d, f, l, n, LA, LB⟩ = pos)) (H3 : Hid (decide (0 ≤ n ∧ n ≤ pos) = false)) :
    Calls Try.prog 19 #[.agg #[.string d, .bool f, .int .i64 l, .int .i64 n, .slice A na ca, .slice B nb cb]] w fun e w' => e = .returned (.bool false) ∧ Below w.heap.size w w' := by
  have HLA := hid_of hA.1
  have HLB := hid_of hB.1
  have hx0 := Box.new (d := d) (f := f) (l := l) (n := n) (A := A) (na := na) (ca := ca) (B := B) (nb := nb) (cb := cb) w
  have hAW := hA.alloc (.cells #[.string d, .bool f, .int .i64 l, .int .i64 n, .slice A na ca, .slice B nb cb] 25)
  have hBW := hB.alloc (.cells #[.string d, .bool f, .int .i64 l, .int .i64 n, .slice A na ca, .slice B nb cb] 25)
  have u0 := fun y => (hx0.up y).1
  have u1 := fun y => (hx0.up y).2.1
  have u2 := fun y => (hx0.up y).2.2.1
  have u3 := fun y => (hx0.up y).2.2.2.1
  have u4 := fun y => (hx0.up y).2.2.2.2.1
  have u5 := fun y => (hx0.up y).2.2.2.2.2
  go_enter Try.func19, Try.ntmps19
  go_wp2_with fail
  refine wp_region_up (by kernel_rfl) (by kernel_rfl) ?_
  repeat (quiet_step (first | (go_at_call 55; with_reducible exact up_same (within_v H2.out _)) | (go_at_call 56; with_reducible exact up_box fun w' => pos_v_impl HP.out w' (by omega)) | (go_at_call 55; with_reducible exact up_same (within_v H3.out _))))
  refine wpQuiet_nil ?_
  intro w1 hb1
  clear hx0 hAW hBW u0 u1 u2 u3 u4 u5
  go_wp2_with fail
  go_ret
  exact ⟨rfl, ((Below.refl _ w).alloc (Nat.le_refl _) _).trans (hb1.mono (by simp))⟩
set_option linter.unusedVariables false in
set_option maxRecDepth 100000 in
set_option maxHeartbeats 2000000 in
theorem sv_impl_min (d : ByteArray) (f : Bool) (l n : Int) (LA LB : List Rg) (A : Option Addr) (na ca : Nat) (B : Option Addr) (nb cb : Nat) (w : World) (hA : RngAt w A na LA) (hB : RngAt w B nb LB) (hn : na ≤ 2000000) (hn' : nb ≤ 2000000) (d1 : decide ((30 : Int) < (d.size : Int)) = false) (hd : d.size ≤ 1000000) (H2 : Hid (decide (0 ≤ l ∧ l ≤ 30) = true)) {pos : Int} (HP : Hid (Sd.pos ⟨d, f, l, n, LA, LB⟩ = pos)) (H3 : Hid (decide (0 ≤ n ∧ n ≤ pos) = true)) {mv : Int} (hmv : (if (d.size : Int) < n then (d.size : Int) else n) = mv) (h4 : decide (l < mv) = true) :
    Calls Try.prog 19 #[.agg #[.string d, .bool f, .int .i64 l, .int .i64 n, .slice A na ca, .slice B nb cb]] w fun e w' => e = .returned (.bool false) ∧ Below w.heap.size w w' := by
  have HLA := hid_of hA.1
  have HLB := hid_of hB.1
  have hx0 := Box.new (d := d) (f := f) (l := l) (n := n) (A := A) (na := na) (ca := ca) (B := B) (nb := nb) (cb := cb) w
  have hAW := hA.alloc (.cells #[.string d, .bool f, .int .i64 l, .int .i64 n, .slice A na ca, .slice B nb cb] 25)
  have hBW := hB.alloc (.cells #[.string d, .bool f, .int .i64 l, .int .i64 n, .slice A na ca, .slice B nb cb] 25)
  have u0 := fun y => (hx0.up y).1
  have u1 := fun y => (hx0.up y).2.1
  have u2 := fun y => (hx0.up y).2.2.1
  have u3 := fun y => (hx0.up y).2.2.2.1
  have u4 := fun y => (hx0.up y).2.2.2.2.1
  have u5 := fun y => (hx0.up y).2.2.2.2.2
  go_enter Try.func19, Try.ntmps19
  go_wp2_with fail
  refine wp_region_up (by kernel_rfl) (by kernel_rfl) ?_
  repeat (quiet_step (first | (go_at_call 55; with_reducible exact up_same (within_v H2.out _)) | (go_at_call 56; with_reducible exact up_box fun w' => pos_v_impl HP.out w' (by omega)) | (go_at_call 55; with_reducible exact up_same (within_v H3.out _))))
  refine wpQuiet_nil ?_
  intro w1 hb1
  clear hx0 hAW hBW u0 u1 u2 u3 u4 u5
  go_wp2_with fail
  go_ret
  exact ⟨rfl, ((Below.refl _ w).alloc (Nat.le_refl _) _).trans (hb1.mono (by simp))⟩
set_option linter.unusedVariables false in
set_option maxRecDepth 100000 in
set_option maxHeartbeats 16000000 in
theorem sv_impl_main (d : ByteArray) (f : Bool) (l n : Int) (LA LB : List Rg) (A : Option Addr) (na ca : Nat) (B : Option Addr) (nb cb : Nat) (w : World) (hA : RngAt w A na LA) (hB : RngAt w B nb LB) (hn : na ≤ 2000000) (hn' : nb ≤ 2000000) (d1 : decide ((30 : Int) < (d.size : Int)) = false) (hd : d.size ≤ 1000000) (H2 : Hid (decide (0 ≤ l ∧ l ≤ 30) = true)) {pos : Int} (HP : Hid (Sd.pos ⟨d, f, l, n, LA, LB⟩ = pos)) (H3 : Hid (decide (0 ≤ n ∧ n ≤ pos) = true)) {mv : Int} (hmv : (if (d.size : Int) < n then (d.size : Int) else n) = mv) (h4 : decide (l < mv) = false) (HFIN : Hid (Fine LA n → Fine LB n → (∀ i : Int, 0 ≤ i → i < n → memB LA i = true → memB LB i = true → False) → okS ⟨d, f, l, n, LA, LB⟩ = true)) :
    Calls Try.prog 19 #[.agg #[.string d, .bool f, .int .i64 l, .int .i64 n, .slice A na ca, .slice B nb cb]] w fun e w' => e = .returned (.bool (okS ⟨d, f, l, n, LA, LB⟩)) ∧ Below w.heap.size w w' := by
  have HLA := hid_of hA.1
  have HLB := hid_of hB.1
  have hx0 := Box.new (d := d) (f := f) (l := l) (n := n) (A := A) (na := na) (ca := ca) (B := B) (nb := nb) (cb := cb) w
  have hAW := hA.alloc (.cells #[.string d, .bool f, .int .i64 l, .int .i64 n, .slice A na ca, .slice B nb cb] 25)
  have hBW := hB.alloc (.cells #[.string d, .bool f, .int .i64 l, .int .i64 n, .slice A na ca, .slice B nb cb] 25)
  have u0 := fun y => (hx0.up y).1
  have u1 := fun y => (hx0.up y).2.1
  have u2 := fun y => (hx0.up y).2.2.1
  have u3 := fun y => (hx0.up y).2.2.2.1
  have u4 := fun y => (hx0.up y).2.2.2.2.1
  have u5 := fun y => (hx0.up y).2.2.2.2.2
  have h3 := of_decide_eq_true H3.out
  have hpos1 : pos ≤ 1000001 := by have e : Sd.pos ⟨d, f, l, n, LA, LB⟩ ≤ (d.size : Int) + 1 := (pos_le ⟨d, f, l, n, LA, LB⟩).2; rw [HP.out] at e; omega
  go_enter Try.func19, Try.ntmps19
  go_wp2_with fail
  refine wp_region_up (by kernel_rfl) (by kernel_rfl) ?_
  repeat (quiet_step (first | (go_at_call 55; with_reducible exact up_same (within_v H2.out _)) | (go_at_call 56; with_reducible exact up_box fun w' => pos_v_impl HP.out w' (by omega)) | (go_at_call 55; with_reducible exact up_same (within_v H3.out _))))
  refine wpQuiet_nil ?_
  intro w1 hb1
  have hy := hx0.below hb1
  have hA1 := hAW.below hb1
  have hB1 := hBW.below hb1
  have hw1 : Below w.heap.size w w1 := ((Below.refl _ w).alloc (Nat.le_refl _) _).trans (hb1.mono (by simp))
  have hs1 := hw1.size
  have hlt1 := hy.lt
  obtain ⟨blk, hblk⟩ : ∃ q, w.heap.size = q := ⟨_, rfl⟩
  have HBLK := hid_of hblk
  rw [hblk] at hy hlt1 ⊢
  clear hblk u0 u1 u2 u3 u4 u5 hx0 hAW hBW hb1 hA hB h4 hmv
  obtain ⟨y0, y1, y2, y3, y4, y5⟩ := hy
  go_wp2_with fail
  go_loopw [4, 41] (fun _ i wr => ∃ k : Nat, i = .int .i64 (k : Nat) ∧ k ≤ 2 ∧ Hid (0 < k → Fine LA n) ∧ Hid (1 < k → Fine LB n) ∧ Below w1.heap.size w1 wr ∧ w1.heap.size < wr.heap.size ∧ wr.cell? ⟨w1.heap.size, 0, none⟩ = some (.slice A na ca) ∧ wr.cell? ⟨w1.heap.size, 1, none⟩ = some (.slice B nb cb)) (fun _ i _ => 2 - (intOf i).toNat)
  case atStart => exact ⟨0, rfl, by omega, fun e => absurd e (by omega), fun e => absurd e (by omega), ba (Below.refl _ _) _, by simp, by simp, by simp⟩
  case round =>
    obtain ⟨k, rfl, hk, HKA, HKB, hb, hlt, z0, z1⟩ := hrel
    have hwr := hw1.trans (hb.mono hs1)
    have y0 := (hb.cell (p := ⟨blk, 0, none⟩) hlt1).trans y0
    have y1 := (hb.cell (p := ⟨blk, 1, none⟩) hlt1).trans y1
    have y2 := (hb.cell (p := ⟨blk, 2, none⟩) hlt1).trans y2
    have y3 := (hb.cell (p := ⟨blk, 3, none⟩) hlt1).trans y3
    have y4 := (hb.cell (p := ⟨blk, 4, none⟩) hlt1).trans y4
    have y5 := (hb.cell (p := ⟨blk, 5, none⟩) hlt1).trans y5
    have v3 := fun y : Up wr => y.cell y3
    rcases (show k = 0 ∨ k = 1 ∨ k = 2 from by omega) with hk0 | hk1 | hk2
    · subst hk0
      have hXr := hA1.below hb
      obtain ⟨br, hbr⟩ : ∃ b, rvB LA = b := ⟨_, rfl⟩
      have HR := hid_of hbr
      clear hbr
      cases br with
      | false =>
        have HS : Hid (okS ⟨d, f, l, n, LA, LB⟩ = false) := okS_not fun h => by have e := rvB_iff.2 h.a; dsimp only at e; rw [HR.out] at e; cases e
        go_wp2_with fail
        refine wp_region_up (by kernel_rfl) (by kernel_rfl) ?_
        repeat (quiet_step (first | (go_at_call 53; with_reducible exact up_of fun w' hb' => rv_v_impl HR.out w' (hXr.below hb') (by omega))))
        refine wpQuiet_nil ?_
        intro w2 hb2
        go_wp2_with fail
        go_ret
        exact ⟨ret_bool HS.out.symm, HBLK.out ▸ hwr.trans (hb2.mono hwr.size)⟩
      | true =>
        rcases na with _ | m
        · go_wp2_with fail
          refine wp_region_up (by kernel_rfl) (by kernel_rfl) ?_
          repeat (quiet_step (first | (go_at_call 53; with_reducible exact up_of fun w' hb' => rv_v_impl HR.out w' (hXr.below hb') (by omega))))
          refine wpQuiet_nil ?_
          intro w2 hb2
          have hlt2 := hb2.size
          have z0 := (hb2.cell (p := ⟨w1.heap.size, 0, none⟩) hlt).trans z0
          have z1 := (hb2.cell (p := ⟨w1.heap.size, 1, none⟩) hlt).trans z1
          go_wp2_with fail
          go_roundw
          case rel => exact ⟨1, by go_num, by omega, fun _ => fine_nil HLA.out, fun e => absurd e (by omega), hb.trans (hb2.mono hb.size), by omega, z0, z1⟩
          case measure => simp [intOf]
        · obtain ⟨g, off, rfl, hgl, hc⟩ := hXr.2 (by omega)
          obtain ⟨_, c1⟩ := hc m (by omega)
          clear hc
          obtain ⟨hv, hhv⟩ : ∃ q, (rth LA m).hi = q := ⟨_, rfl⟩
          rw [hhv] at c1
          have HV := hid_of hhv
          clear hhv
          have c1 := fun y : Up wr => y.cell c1
          have hwm : IntKind.i64.wrap (m : Int) = (m : Int) := IntWalk.i64_in _ (by omega)
          have hwm1 : IntKind.i64.wrap ((m : Int) + 1 - 1) = (m : Int) := by rw [show (m : Int) + 1 - 1 = m from by omega]; exact hwm
          have hk0 : (0 : Int) ≤ (m : Int) := by omega
          have hk1 : (m : Int) < (m : Int) + 1 := by omega
          obtain ⟨bl, hbl⟩ : ∃ b, decide (n ≤ hv) = b := ⟨_, rfl⟩
          have HBL := hid_of hbl
          cases bl with
          | true =>
            have HS : Hid (okS ⟨d, f, l, n, LA, LB⟩ = false) := okS_not fun h => by have e := h.aLt _ (last_mem HLA.out HR.out); dsimp only at e; rw [HV.out] at e; have := of_decide_eq_true HBL.out; omega
            go_wp2_with fail
            refine wp_region_up (by kernel_rfl) (by kernel_rfl) ?_
            repeat (quiet_step (first | (go_at_call 53; with_reducible exact up_of fun w' hb' => rv_v_impl HR.out w' (hXr.below hb') (by omega))))
            refine wpQuiet_nil ?_
            intro w2 hb2
            go_wp2_with fail
            go_ret
            exact ⟨ret_bool HS.out.symm, HBLK.out ▸ hwr.trans (hb2.mono hwr.size)⟩
          | false =>
            go_wp2_with fail
            refine wp_region_up (by kernel_rfl) (by kernel_rfl) ?_
            repeat (quiet_step (first | (go_at_call 53; with_reducible exact up_of fun w' hb' => rv_v_impl HR.out w' (hXr.below hb') (by omega))))
            refine wpQuiet_nil ?_
            intro w2 hb2
            have hlt2 := hb2.size
            have z0 := (hb2.cell (p := ⟨w1.heap.size, 0, none⟩) hlt).trans z0
            have z1 := (hb2.cell (p := ⟨w1.heap.size, 1, none⟩) hlt).trans z1
            go_wp2_with fail
            go_roundw
            case rel => exact ⟨1, by go_num, by omega, fun _ => fine_of HLA.out HR.out (by rw [HV.out]; have := of_decide_eq_false HBL.out; omega), fun e => absurd e (by omega), hb.trans (hb2.mono hb.size), by omega, z0, z1⟩
            case measure => simp [intOf]
    · subst hk1
      have hXr := hB1.below hb
      obtain ⟨br, hbr⟩ : ∃ b, rvB LB = b := ⟨_, rfl⟩
      have HR := hid_of hbr
      clear hbr
      cases br with
      | false =>
        have HS : Hid (okS ⟨d, f, l, n, LA, LB⟩ = false) := okS_not fun h => by have e := rvB_iff.2 h.b; dsimp only at e; rw [HR.out] at e; cases e
        go_wp2_with fail
        refine wp_region_up (by kernel_rfl) (by kernel_rfl) ?_
        repeat (quiet_step (first | (go_at_call 53; with_reducible exact up_of fun w' hb' => rv_v_impl HR.out w' (hXr.below hb') (by omega))))
        refine wpQuiet_nil ?_
        intro w2 hb2
        go_wp2_with fail
        go_ret
        exact ⟨ret_bool HS.out.symm, HBLK.out ▸ hwr.trans (hb2.mono hwr.size)⟩
      | true =>
        rcases nb with _ | m
        · go_wp2_with fail
          refine wp_region_up (by kernel_rfl) (by kernel_rfl) ?_
          repeat (quiet_step (first | (go_at_call 53; with_reducible exact up_of fun w' hb' => rv_v_impl HR.out w' (hXr.below hb') (by omega))))
          refine wpQuiet_nil ?_
          intro w2 hb2
          have hlt2 := hb2.size
          have z0 := (hb2.cell (p := ⟨w1.heap.size, 0, none⟩) hlt).trans z0
          have z1 := (hb2.cell (p := ⟨w1.heap.size, 1, none⟩) hlt).trans z1
          go_wp2_with fail
          go_roundw
          case rel => exact ⟨2, by go_num, by omega, fun _ => HKA.out (by omega), fun _ => fine_nil HLB.out, hb.trans (hb2.mono hb.size), by omega, z0, z1⟩
          case measure => simp [intOf]
        · obtain ⟨g, off, rfl, hgl, hc⟩ := hXr.2 (by omega)
          obtain ⟨_, c1⟩ := hc m (by omega)
          clear hc
          obtain ⟨hv, hhv⟩ : ∃ q, (rth LB m).hi = q := ⟨_, rfl⟩
          rw [hhv] at c1
          have HV := hid_of hhv
          clear hhv
          have c1 := fun y : Up wr => y.cell c1
          have hwm : IntKind.i64.wrap (m : Int) = (m : Int) := IntWalk.i64_in _ (by omega)
          have hwm1 : IntKind.i64.wrap ((m : Int) + 1 - 1) = (m : Int) := by rw [show (m : Int) + 1 - 1 = m from by omega]; exact hwm
          have hk0 : (0 : Int) ≤ (m : Int) := by omega
          have hk1 : (m : Int) < (m : Int) + 1 := by omega
          obtain ⟨bl, hbl⟩ : ∃ b, decide (n ≤ hv) = b := ⟨_, rfl⟩
          have HBL := hid_of hbl
          cases bl with
          | true =>
            have HS : Hid (okS ⟨d, f, l, n, LA, LB⟩ = false) := okS_not fun h => by have e := h.bLt _ (last_mem HLB.out HR.out); dsimp only at e; rw [HV.out] at e; have := of_decide_eq_true HBL.out; omega
            go_wp2_with fail
            refine wp_region_up (by kernel_rfl) (by kernel_rfl) ?_
            repeat (quiet_step (first | (go_at_call 53; with_reducible exact up_of fun w' hb' => rv_v_impl HR.out w' (hXr.below hb') (by omega))))
            refine wpQuiet_nil ?_
            intro w2 hb2
            go_wp2_with fail
            go_ret
            exact ⟨ret_bool HS.out.symm, HBLK.out ▸ hwr.trans (hb2.mono hwr.size)⟩
          | false =>
            go_wp2_with fail
            refine wp_region_up (by kernel_rfl) (by kernel_rfl) ?_
            repeat (quiet_step (first | (go_at_call 53; with_reducible exact up_of fun w' hb' => rv_v_impl HR.out w' (hXr.below hb') (by omega))))
            refine wpQuiet_nil ?_
            intro w2 hb2
            have hlt2 := hb2.size
            have z0 := (hb2.cell (p := ⟨w1.heap.size, 0, none⟩) hlt).trans z0
            have z1 := (hb2.cell (p := ⟨w1.heap.size, 1, none⟩) hlt).trans z1
            go_wp2_with fail
            go_roundw
            case rel => exact ⟨2, by go_num, by omega, fun _ => HKA.out (by omega), fun _ => fine_of HLB.out HR.out (by rw [HV.out]; have := of_decide_eq_false HBL.out; omega), hb.trans (hb2.mono hb.size), by omega, z0, z1⟩
            case measure => simp [intOf]
    · subst hk2
      rw [show ((2 : Nat) : Int) = 2 from rfl]
      have HFA : Hid (Fine LA n) := HKA.out (by omega)
      have HFB : Hid (Fine LB n) := HKB.out (by omega)
      clear v3
      go_wp2_with fail
      go_loopw [5, 68] (fun _ i wt => ∃ j : Nat, i = .int .i64 (j : Nat) ∧ (j : Int) ≤ n ∧ Hid (∀ q : Int, 0 ≤ q → q < j → memB LA q = true → memB LB q = true → False) ∧ Below wr.heap.size wr wt) (fun _ i _ => n.toNat - (intOf i).toNat)
      case atStart => exact ⟨0, rfl, by omega, fun q h0 h1 => absurd h1 (by omega), Below.refl _ _⟩
      case round =>
        obtain ⟨j, rfl, hj, HJ, hbt⟩ := hrel
        by_cases hjn : (j : Int) < n
        · obtain ⟨ba1, hba1⟩ : ∃ b, memB LA (j : Int) = b := ⟨_, rfl⟩
          obtain ⟨bb1, hbb1⟩ : ∃ b, memB LB (j : Int) = b := ⟨_, rfl⟩
          have HBA := hid_of hba1
          have HBB := hid_of hbb1
          clear hba1 hbb1
          have hA2 := (hA1.below hb).below hbt
          have hB2 := (hB1.below hb).below hbt
          have y0 := (hbt.cell (p := ⟨blk, 0, none⟩) (Nat.lt_of_lt_of_le hlt1 hb.size)).trans y0
          have y1 := (hbt.cell (p := ⟨blk, 1, none⟩) (Nat.lt_of_lt_of_le hlt1 hb.size)).trans y1
          have y2 := (hbt.cell (p := ⟨blk, 2, none⟩) (Nat.lt_of_lt_of_le hlt1 hb.size)).trans y2
          have y3 := (hbt.cell (p := ⟨blk, 3, none⟩) (Nat.lt_of_lt_of_le hlt1 hb.size)).trans y3
          have y4 := (hbt.cell (p := ⟨blk, 4, none⟩) (Nat.lt_of_lt_of_le hlt1 hb.size)).trans y4
          have y5 := (hbt.cell (p := ⟨blk, 5, none⟩) (Nat.lt_of_lt_of_le hlt1 hb.size)).trans y5
          have hltr : blk < wr.heap.size := World.block_lt_of_cell? _ _ y3
          have HTR := hid_of (hwr.trans (hbt.mono hwr.size))
          clear y0 y1 y2
          cases ba1 with
          | true =>
            cases bb1 with
            | true =>
              have HS : Hid (okS ⟨d, f, l, n, LA, LB⟩ = false) := okS_not fun h => h.apart (j : Int) HBA.out HBB.out
              go_wp2_with (first | (go_at_call_of 54 (Value.slice A na ca); (with_reducible refine (has_v HBA.out _ hA2 hn).mono ?_); rintro e w2 ⟨rfl, hb2⟩; have z3 := (hb2.cell (p := ⟨blk, 3, none⟩) hltr).trans y3; have z5 := (hb2.cell (p := ⟨blk, 5, none⟩) hltr).trans y5; have hB3 := hB2.below hb2; have HT2 := hid_of (hbt.trans (hb2.mono hbt.size)); have HW2 := hid_of (HTR.out.trans (hb2.mono HTR.out.size))) | (go_at_call_of 54 (Value.slice B nb cb); (with_reducible refine (has_v HBB.out _ hB3 hn').mono ?_); rintro e w3 ⟨rfl, hb3⟩; have z3 := (hb3.cell (p := ⟨blk, 3, none⟩) (World.block_lt_of_cell? _ _ z3)).trans z3; have HT2 := hid_of (HT2.out.trans (hb3.mono HT2.out.size)); have HW2 := hid_of (HW2.out.trans (hb3.mono HW2.out.size))))
              go_ret
              exact ⟨ret_bool HS.out.symm, HBLK.out ▸ HW2.out⟩
            | false =>
              go_wp2_with (first | (go_at_call_of 54 (Value.slice A na ca); (with_reducible refine (has_v HBA.out _ hA2 hn).mono ?_); rintro e w2 ⟨rfl, hb2⟩; have z3 := (hb2.cell (p := ⟨blk, 3, none⟩) hltr).trans y3; have z5 := (hb2.cell (p := ⟨blk, 5, none⟩) hltr).trans y5; have hB3 := hB2.below hb2; have HT2 := hid_of (hbt.trans (hb2.mono hbt.size)); have HW2 := hid_of (HTR.out.trans (hb2.mono HTR.out.size))) | (go_at_call_of 54 (Value.slice B nb cb); (with_reducible refine (has_v HBB.out _ hB3 hn').mono ?_); rintro e w3 ⟨rfl, hb3⟩; have z3 := (hb3.cell (p := ⟨blk, 3, none⟩) (World.block_lt_of_cell? _ _ z3)).trans z3; have HT2 := hid_of (HT2.out.trans (hb3.mono HT2.out.size)); have HW2 := hid_of (HW2.out.trans (hb3.mono HW2.out.size))))
              go_roundw
              case rel => exact ⟨j + 1, by go_num, by omega, upto_next HJ.out (fun ha hb => by rw [HBB.out] at hb; cases hb), HT2.out⟩
              case measure => simp [intOf]; omega
          | false =>
            go_wp2_with (first | (go_at_call_of 54 (Value.slice A na ca); (with_reducible refine (has_v HBA.out _ hA2 hn).mono ?_); rintro e w2 ⟨rfl, hb2⟩; have z3 := (hb2.cell (p := ⟨blk, 3, none⟩) hltr).trans y3; have z5 := (hb2.cell (p := ⟨blk, 5, none⟩) hltr).trans y5; have hB3 := hB2.below hb2; have HT2 := hid_of (hbt.trans (hb2.mono hbt.size)); have HW2 := hid_of (HTR.out.trans (hb2.mono HTR.out.size))) | (go_at_call_of 54 (Value.slice B nb cb); (with_reducible refine (has_v HBB.out _ hB3 hn').mono ?_); rintro e w3 ⟨rfl, hb3⟩; have z3 := (hb3.cell (p := ⟨blk, 3, none⟩) (World.block_lt_of_cell? _ _ z3)).trans z3; have HT2 := hid_of (HT2.out.trans (hb3.mono HT2.out.size)); have HW2 := hid_of (HW2.out.trans (hb3.mono HW2.out.size))))
            go_roundw
            case rel => exact ⟨j + 1, by go_num, by omega, upto_next HJ.out (fun ha hb => by rw [HBA.out] at ha; cases ha), HT2.out⟩
            case measure => simp [intOf]; omega
        · have HS := hid_of (HFIN.out HFA.out HFB.out fun q h0 h1 => HJ.out q h0 (by omega))
          have y3 := (hbt.cell (p := ⟨blk, 3, none⟩) (Nat.lt_of_lt_of_le hlt1 hb.size)).trans y3
          go_wp2_with fail
          go_ret
          exact ⟨ret_bool HS.out.symm, HBLK.out ▸ hwr.trans (hbt.mono hwr.size)⟩
set_option linter.unusedVariables false in
set_option maxRecDepth 100000 in
set_option maxHeartbeats 2000000 in
theorem sv_impl (d : ByteArray) (f : Bool) (l n : Int) (LA LB : List Rg) (A : Option Addr) (na ca : Nat) (B : Option Addr) (nb cb : Nat) (w : World) (hA : RngAt w A na LA) (hB : RngAt w B nb LB) (hn : na ≤ 2000000) (hn' : nb ≤ 2000000)  :
    Calls Try.prog 19 #[.agg #[.string d, .bool f, .int .i64 l, .int .i64 n, .slice A na ca, .slice B nb cb]] w fun e w' => e = .returned (.bool (okS ⟨d, f, l, n, LA, LB⟩)) ∧ Below w.heap.size w w' := by
  by_cases h1 : 30 < d.size
  · rw [okS_not fun h => by have := h.len; dsimp only at this; omega]; exact sv_impl_len d f l n LA LB A na ca B nb cb w hA hB hn hn' (decide_eq_true (by omega))
  have d1 : decide ((30 : Int) < (d.size : Int)) = false := decide_eq_false (by omega)
  have hd : d.size ≤ 1000000 := by omega
  cases h2 : decide (0 ≤ l ∧ l ≤ 30) with
  | false => rw [okS_not fun h => by have e1 := h.l0; have e2 := h.l1; dsimp only at e1 e2; have := of_decide_eq_false h2; omega]; exact sv_impl_lim d f l n LA LB A na ca B nb cb w hA hB hn hn' d1 hd h2
  | true =>
    cases h3 : decide (0 ≤ n ∧ n ≤ Sd.pos ⟨d, f, l, n, LA, LB⟩) with
    | false => rw [okS_not fun h => by have e1 : 0 ≤ n := h.n0; have e2 : n ≤ Sd.pos ⟨d, f, l, n, LA, LB⟩ := h.n1; have := of_decide_eq_false h3; omega]; exact sv_impl_nxt d f l n LA LB A na ca B nb cb w hA hB hn hn' d1 hd h2 rfl h3
    | true =>
      have HMV : min n (d.size : Int) = (if (d.size : Int) < n then (d.size : Int) else n) := by split <;> omega
      cases h4 : decide (l < (if (d.size : Int) < n then (d.size : Int) else n)) with
      | true => rw [okS_not fun h => by have e1 := h.lim; dsimp only at e1; rw [HMV] at e1; have := of_decide_eq_true h4; omega]; exact sv_impl_min d f l n LA LB A na ca B nb cb w hA hB hn hn' d1 hd h2 rfl h3 rfl h4
      | false =>
        have HF : Fine LA n → Fine LB n → (∀ i : Int, 0 ≤ i → i < n → memB LA i = true → memB LB i = true → False) → okS ⟨d, f, l, n, LA, LB⟩ = true := fun p1 p2 p3 => okS_yes (by omega) (of_decide_eq_true h2) (of_decide_eq_true h3) (by rw [HMV]; have := of_decide_eq_false h4; omega) p1.1 p2.1 p1.2 p2.2 p3
        exact sv_impl_main d f l n LA LB A na ca B nb cb w hA hB hn hn' d1 hd h2 rfl h3 rfl h4 HF

end Go.Proofs.Ytmkmaeblnnfheaa
