/- The program's SendNext: what fails. -/
import Derived.Test.YtmkmaeblnnfheaaSndP
namespace Go.Proofs.Ytmkmaeblnnfheaa
open Go.RowKit
attribute [local irreducible] Go.wpQuiet

set_option linter.unusedVariables false in
set_option maxRecDepth 100000 in
set_option maxHeartbeats 40000000 in
theorem snext_i_bad (d : ByteArray) (f : Bool) (l n : Int) (LA LB : List Rg) (A : Option Addr) (ca : Nat) (B : Option Addr) (cb : Nat) (k : Int) (w : World) (hA : RngAt w A LA.length LA) (hB : RngAt w B LB.length LB) (eA : A = none → ca = 0) (eB : B = none → cb = 0) (hn : LA.length ≤ 2000000) (hn' : LB.length ≤ 2000000) (HV : Hid (okS ⟨d, f, l, n, LA, LB⟩ = false)) :
    Calls Try.prog 23 #[.agg #[.string d, .bool f, .int .i64 l, .int .i64 n, .slice A LA.length ca, .slice B LB.length cb], .int .i64 k] w (GotNext w (sd0, pt0, false)) := by
  have z := ((Own6.new (d := d) (f := f) (l := l) (n := n) (A := A) (na := LA.length) (ca := ca) (B := B) (nb := LB.length) (cb := cb) w).alloc (.cells #[.string (⟨#[]⟩ : ByteArray), .bool false, .int .i64 0, .int .i64 0, .slice none 0 0, .slice none 0 0] 25)).alloc (.cells #[.int .i64 0, .string (⟨#[]⟩ : ByteArray), .bool false] 27)
  have r := (Own6.new (d := (⟨#[]⟩ : ByteArray)) (f := false) (l := 0) (n := 0) (A := none) (na := 0) (ca := 0) (B := none) (nb := 0) (cb := 0) (w.alloc (.cells #[.string d, .bool f, .int .i64 l, .int .i64 n, .slice A LA.length ca, .slice B LB.length cb] 25))).alloc (.cells #[.int .i64 0, .string (⟨#[]⟩ : ByteArray), .bool false] 27)
  have q := Own3.new ((w.alloc (.cells #[.string d, .bool f, .int .i64 l, .int .i64 n, .slice A LA.length ca, .slice B LB.length cb] 25)).alloc (.cells #[.string (⟨#[]⟩ : ByteArray), .bool false, .int .i64 0, .int .i64 0, .slice none 0 0, .slice none 0 0] 25)) 0 (⟨#[]⟩ : ByteArray) false
  rw [show (w.alloc (.cells #[.string d, .bool f, .int .i64 l, .int .i64 n, .slice A LA.length ca, .slice B LB.length cb] 25)).heap.size = w.heap.size + 1 from by simp] at r
  rw [show ((w.alloc (.cells #[.string d, .bool f, .int .i64 l, .int .i64 n, .slice A LA.length ca, .slice B LB.length cb] 25)).alloc (.cells #[.string (⟨#[]⟩ : ByteArray), .bool false, .int .i64 0, .int .i64 0, .slice none 0 0, .slice none 0 0] 25)).heap.size = w.heap.size + 1 + 1 from by simp] at q
  have hW0 : Below w.heap.size w _ := (((Below.refl _ w).alloc (Nat.le_refl _) (.cells #[.string d, .bool f, .int .i64 l, .int .i64 n, .slice A LA.length ca, .slice B LB.length cb] 25)).alloc (by simp) (.cells #[.string (⟨#[]⟩ : ByteArray), .bool false, .int .i64 0, .int .i64 0, .slice none 0 0, .slice none 0 0] 25)).alloc (by simp; omega) (.cells #[.int .i64 0, .string (⟨#[]⟩ : ByteArray), .bool false] 27)
  have hsz : (((w.alloc (.cells #[.string d, .bool f, .int .i64 l, .int .i64 n, .slice A LA.length ca, .slice B LB.length cb] 25)).alloc (.cells #[.string (⟨#[]⟩ : ByteArray), .bool false, .int .i64 0, .int .i64 0, .slice none 0 0, .slice none 0 0] 25)).alloc (.cells #[.int .i64 0, .string (⟨#[]⟩ : ByteArray), .bool false] 27)).heap.size = w.heap.size + 1 + 1 + 1 := by simp
  go_enter Try.func23, Try.ntmps23
  go_wp2_with (first
    | (go_at_call 19; (with_reducible refine (sv_v_i HV.out _ (hA.below hW0) (hB.below hW0) hn hn').mono ?_); rintro e w1 ⟨rfl, hb1⟩; have z1 := z.under hb1 (by omega); have r1 := r.under hb1 (by omega); have q1 := q.under hb1 (by omega); have hw1 := hW0.trans (hb1.mono hW0.size); have hs1 : w.heap.size + 1 + 1 + 1 ≤ w1.heap.size := (by have := hb1.size; omega); have HZ := hid_of z1; have HR := hid_of r1; have HQ := hid_of q1; obtain ⟨⟨z0, z1, z2, z3, z4, z5⟩, zf⟩ := z1; obtain ⟨⟨r0, r1, r2, r3, r4, r5⟩, rf⟩ := r1; obtain ⟨⟨q0, q1, q2⟩, qf⟩ := q1; clear z r q hb1)
    | (go_at_call 55; (with_reducible refine (within_v HC.out _).mono ?_); rintro e w9 ⟨rfl, rfl⟩))
  try simp only [Exit.inBlock, Exit.then]
  refine bodyPost_ret (results_spb rfl rfl rfl rfl ((((HR.out.setAll ⟨#[]⟩ false 0 0 none 0 0 none 0 0).other (by dsimp only; omega) _).other (by dsimp only; omega) _).other (by dsimp only; omega) _) (((((((HQ.out.other (by dsimp only; omega) _).other (by dsimp only; omega) _).other (by dsimp only; omega) _).other (by dsimp only; omega) _).other (by dsimp only; omega) _).other (by dsimp only; omega) _).setAll 0 ⟨#[]⟩ false)) rfl ?_
  refine ⟨⟨_, rfl, got_zero rfl⟩, ?_⟩
  repeat refine Below.setCell ?_ (by dsimp only; omega) _
  exact hw1

set_option linter.unusedVariables false in
set_option maxRecDepth 100000 in
set_option maxHeartbeats 40000000 in
theorem snext_i_size (d : ByteArray) (f : Bool) (l n : Int) (LA LB : List Rg) (A : Option Addr) (ca : Nat) (B : Option Addr) (cb : Nat) (k : Int) (w : World) (hA : RngAt w A LA.length LA) (hB : RngAt w B LB.length LB) (eA : A = none → ca = 0) (eB : B = none → cb = 0) (hn : LA.length ≤ 2000000) (hn' : LB.length ≤ 2000000) (HV : Hid (okS ⟨d, f, l, n, LA, LB⟩ = true)) (HC : Hid (decide (1 ≤ k ∧ k ≤ 12) = false)) :
    Calls Try.prog 23 #[.agg #[.string d, .bool f, .int .i64 l, .int .i64 n, .slice A LA.length ca, .slice B LB.length cb], .int .i64 k] w (GotNext w (sd0, pt0, false)) := by
  have z := ((Own6.new (d := d) (f := f) (l := l) (n := n) (A := A) (na := LA.length) (ca := ca) (B := B) (nb := LB.length) (cb := cb) w).alloc (.cells #[.string (⟨#[]⟩ : ByteArray), .bool false, .int .i64 0, .int .i64 0, .slice none 0 0, .slice none 0 0] 25)).alloc (.cells #[.int .i64 0, .string (⟨#[]⟩ : ByteArray), .bool false] 27)
  have r := (Own6.new (d := (⟨#[]⟩ : ByteArray)) (f := false) (l := 0) (n := 0) (A := none) (na := 0) (ca := 0) (B := none) (nb := 0) (cb := 0) (w.alloc (.cells #[.string d, .bool f, .int .i64 l, .int .i64 n, .slice A LA.length ca, .slice B LB.length cb] 25))).alloc (.cells #[.int .i64 0, .string (⟨#[]⟩ : ByteArray), .bool false] 27)
  have q := Own3.new ((w.alloc (.cells #[.string d, .bool f, .int .i64 l, .int .i64 n, .slice A LA.length ca, .slice B LB.length cb] 25)).alloc (.cells #[.string (⟨#[]⟩ : ByteArray), .bool false, .int .i64 0, .int .i64 0, .slice none 0 0, .slice none 0 0] 25)) 0 (⟨#[]⟩ : ByteArray) false
  rw [show (w.alloc (.cells #[.string d, .bool f, .int .i64 l, .int .i64 n, .slice A LA.length ca, .slice B LB.length cb] 25)).heap.size = w.heap.size + 1 from by simp] at r
  rw [show ((w.alloc (.cells #[.string d, .bool f, .int .i64 l, .int .i64 n, .slice A LA.length ca, .slice B LB.length cb] 25)).alloc (.cells #[.string (⟨#[]⟩ : ByteArray), .bool false, .int .i64 0, .int .i64 0, .slice none 0 0, .slice none 0 0] 25)).heap.size = w.heap.size + 1 + 1 from by simp] at q
  have hW0 : Below w.heap.size w _ := (((Below.refl _ w).alloc (Nat.le_refl _) (.cells #[.string d, .bool f, .int .i64 l, .int .i64 n, .slice A LA.length ca, .slice B LB.length cb] 25)).alloc (by simp) (.cells #[.string (⟨#[]⟩ : ByteArray), .bool false, .int .i64 0, .int .i64 0, .slice none 0 0, .slice none 0 0] 25)).alloc (by simp; omega) (.cells #[.int .i64 0, .string (⟨#[]⟩ : ByteArray), .bool false] 27)
  have hsz : (((w.alloc (.cells #[.string d, .bool f, .int .i64 l, .int .i64 n, .slice A LA.length ca, .slice B LB.length cb] 25)).alloc (.cells #[.string (⟨#[]⟩ : ByteArray), .bool false, .int .i64 0, .int .i64 0, .slice none 0 0, .slice none 0 0] 25)).alloc (.cells #[.int .i64 0, .string (⟨#[]⟩ : ByteArray), .bool false] 27)).heap.size = w.heap.size + 1 + 1 + 1 := by simp
  go_enter Try.func23, Try.ntmps23
  go_wp2_with (first
    | (go_at_call 19; (with_reducible refine (sv_v_i HV.out _ (hA.below hW0) (hB.below hW0) hn hn').mono ?_); rintro e w1 ⟨rfl, hb1⟩; have z1 := z.under hb1 (by omega); have r1 := r.under hb1 (by omega); have q1 := q.under hb1 (by omega); have hw1 := hW0.trans (hb1.mono hW0.size); have hs1 : w.heap.size + 1 + 1 + 1 ≤ w1.heap.size := (by have := hb1.size; omega); have HZ := hid_of z1; have HR := hid_of r1; have HQ := hid_of q1; obtain ⟨⟨z0, z1, z2, z3, z4, z5⟩, zf⟩ := z1; obtain ⟨⟨r0, r1, r2, r3, r4, r5⟩, rf⟩ := r1; obtain ⟨⟨q0, q1, q2⟩, qf⟩ := q1; clear z r q hb1)
    | (go_at_call 55; (with_reducible refine (within_v HC.out _).mono ?_); rintro e w9 ⟨rfl, rfl⟩))
  try simp only [Exit.inBlock, Exit.then]
  refine bodyPost_ret (results_spb rfl rfl rfl rfl ((((HR.out.setAll ⟨#[]⟩ false 0 0 none 0 0 none 0 0).other (by dsimp only; omega) _).other (by dsimp only; omega) _).other (by dsimp only; omega) _) (((((((HQ.out.other (by dsimp only; omega) _).other (by dsimp only; omega) _).other (by dsimp only; omega) _).other (by dsimp only; omega) _).other (by dsimp only; omega) _).other (by dsimp only; omega) _).setAll 0 ⟨#[]⟩ false)) rfl ?_
  refine ⟨⟨_, rfl, got_zero rfl⟩, ?_⟩
  repeat refine Below.setCell ?_ (by dsimp only; omega) _
  exact hw1

end Go.Proofs.Ytmkmaeblnnfheaa
