/- The program's SendNext: lost positions, the fourth way. -/
import Derived.Test.YtmkmaeblnnfheaaSndR
namespace Go.Proofs.Ytmkmaeblnnfheaa
open Go.RowKit
attribute [local irreducible] Go.wpQuiet

set_option linter.unusedVariables false in
set_option maxRecDepth 100000 in
set_option maxHeartbeats 40000000 in
theorem snext_i_lost4 (d : ByteArray) (f : Bool) (l n : Int) (LA LB : List Rg) (A : Option Addr) (ca : Nat) (B : Option Addr) (cb : Nat) (k : Int) (w : World) (hA : RngAt w A LA.length LA) (hB : RngAt w B LB.length LB) (eA : A = none → ca = 0) (eB : B = none → cb = 0) (hn : LA.length ≤ 2000000) (hn' : LB.length ≤ 2000000) (HV : Hid (okS ⟨d, f, l, n, LA, LB⟩ = true)) (HC : Hid (decide (1 ≤ k ∧ k ≤ 12) = true)) (lo hi : Int) (T : List Rg) (hL : LB = ⟨lo, hi⟩ :: T) (st m e : Int) (hst : (if (d.size : Int) < hi + 1 then (d.size : Int) else hi + 1) = st) (hm : (if lo + k < st then lo + k else st) = m) (he : (if lo < m then m else lo) = e) (h1 : (hi == (d.size : Int)) = true) (h2 : (e == (d.size : Int)) = true) (h4 : (e == lo) = true) (ls : Int) (hls : Pt.last ⟨lo, d.extract lo.toNat e.toNat, true⟩ = ls) :
    Calls Try.prog 23 #[.agg #[.string d, .bool f, .int .i64 l, .int .i64 n, .slice A LA.length ca, .slice B LB.length cb], .int .i64 k] w (GotNext w (⟨d, f, l, n, LA, remove LB lo ls⟩, ⟨lo, d.extract lo.toNat e.toNat, true⟩, true)) := by
  have hk := of_decide_eq_true HC.out
  have hsv := hid_of (okS_iff.1 HV.out)
  have hsz30 : d.size ≤ 30 := hsv.out.len
  obtain ⟨pos, hpos⟩ : ∃ p, Sd.pos ⟨d, f, l, n, LA, LB⟩ = p := ⟨_, rfl⟩
  have HP := hid_of hpos
  have hposb : 0 ≤ pos ∧ pos ≤ 31 := by have e1 : (d.size : Int) ≤ Sd.pos ⟨d, f, l, n, LA, LB⟩ ∧ Sd.pos ⟨d, f, l, n, LA, LB⟩ ≤ (d.size : Int) + 1 := pos_le _; rw [hpos] at e1; omega
  clear hpos
  have hlo := hsv.out.lost (r := ⟨lo, hi⟩) (by show _ ∈ LB; rw [hL]; exact List.mem_cons_self)
  dsimp only at hlo
  obtain ⟨hlo0, hlo1, hlo2, hlo3⟩ := hlo
  have he1 : lo ≤ e ∧ e ≤ (d.size : Int) := by
    have e1 : st = min (d.size : Int) (hi + 1) := by rw [← hst]; split <;> omega
    have e2 : m = min st (lo + k) := by rw [← hm]; split <;> omega
    have e3 : e = max lo m := by rw [← he]; split <;> omega
    omega
  obtain ⟨he1, he2⟩ := he1
  have he0 : (0 : Int) ≤ e := by omega
  obtain ⟨x, hx⟩ : ∃ x, d.extract lo.toNat e.toNat = x := ⟨_, rfl⟩
  have hxs : x.size ≤ 30 := by rw [← hx, ByteArray.size_extract]; omega
  have hlsb : -1 ≤ ls ∧ ls ≤ 100 := by
    rw [hx] at hls
    rw [← hls]
    unfold Pt.last
    dsimp only
    split <;> omega
  have HX := hid_of hx
  rw [hx] at hls ⊢
  have HLS := hid_of hls
  clear hls
  have hwp : IntKind.i64.wrap (pos - 1) = pos - 1 := IntWalk.i64_in _ (by omega)
  have z := ((Own6.new (d := d) (f := f) (l := l) (n := n) (A := A) (na := LA.length) (ca := ca) (B := B) (nb := LB.length) (cb := cb) w).alloc (.cells #[.string (⟨#[]⟩ : ByteArray), .bool false, .int .i64 0, .int .i64 0, .slice none 0 0, .slice none 0 0] 25)).alloc (.cells #[.int .i64 0, .string (⟨#[]⟩ : ByteArray), .bool false] 27)
  have r := (Own6.new (d := (⟨#[]⟩ : ByteArray)) (f := false) (l := 0) (n := 0) (A := none) (na := 0) (ca := 0) (B := none) (nb := 0) (cb := 0) (w.alloc (.cells #[.string d, .bool f, .int .i64 l, .int .i64 n, .slice A LA.length ca, .slice B LB.length cb] 25))).alloc (.cells #[.int .i64 0, .string (⟨#[]⟩ : ByteArray), .bool false] 27)
  have q := Own3.new ((w.alloc (.cells #[.string d, .bool f, .int .i64 l, .int .i64 n, .slice A LA.length ca, .slice B LB.length cb] 25)).alloc (.cells #[.string (⟨#[]⟩ : ByteArray), .bool false, .int .i64 0, .int .i64 0, .slice none 0 0, .slice none 0 0] 25)) 0 (⟨#[]⟩ : ByteArray) false
  rw [show (w.alloc (.cells #[.string d, .bool f, .int .i64 l, .int .i64 n, .slice A LA.length ca, .slice B LB.length cb] 25)).heap.size = w.heap.size + 1 from by simp] at r
  rw [show ((w.alloc (.cells #[.string d, .bool f, .int .i64 l, .int .i64 n, .slice A LA.length ca, .slice B LB.length cb] 25)).alloc (.cells #[.string (⟨#[]⟩ : ByteArray), .bool false, .int .i64 0, .int .i64 0, .slice none 0 0, .slice none 0 0] 25)).heap.size = w.heap.size + 1 + 1 from by simp] at q
  have hW0 : Below w.heap.size w _ := (((Below.refl _ w).alloc (Nat.le_refl _) (.cells #[.string d, .bool f, .int .i64 l, .int .i64 n, .slice A LA.length ca, .slice B LB.length cb] 25)).alloc (by simp) (.cells #[.string (⟨#[]⟩ : ByteArray), .bool false, .int .i64 0, .int .i64 0, .slice none 0 0, .slice none 0 0] 25)).alloc (by simp; omega) (.cells #[.int .i64 0, .string (⟨#[]⟩ : ByteArray), .bool false] 27)
  have hsz : (((w.alloc (.cells #[.string d, .bool f, .int .i64 l, .int .i64 n, .slice A LA.length ca, .slice B LB.length cb] 25)).alloc (.cells #[.string (⟨#[]⟩ : ByteArray), .bool false, .int .i64 0, .int .i64 0, .slice none 0 0, .slice none 0 0] 25)).alloc (.cells #[.int .i64 0, .string (⟨#[]⟩ : ByteArray), .bool false] 27)).heap.size = w.heap.size + 1 + 1 + 1 := by simp
  obtain ⟨g, off, eg, hg, hc⟩ := hB.2 (by rw [hL]; simp)
  obtain ⟨g0, g1⟩ := hc 0 (by rw [hL]; simp)
  rw [hL] at g0 g1
  rw [rth_zero] at g0 g1
  dsimp only at g0 g1
  simp only [Nat.zero_mul, Nat.add_zero] at g0 g1
  have hpos : 0 < LB.length := by rw [hL]; simp
  have HLB := hid_of hL
  clear hc hL
  subst eg
  go_enter Try.func23, Try.ntmps23
  go_wp2_with (first
    | (go_at_call 19; (with_reducible refine (sv_v_i HV.out _ (hA.below hW0) (hB.below hW0) hn hn').mono ?_); rintro e w1 ⟨rfl, hb1⟩; have z1 := z.under hb1 (by omega); have r1 := r.under hb1 (by omega); have q1 := q.under hb1 (by omega); have hw1 := hW0.trans (hb1.mono hW0.size); have hs1 : w.heap.size + 1 + 1 + 1 ≤ w1.heap.size := (by have := hb1.size; omega); have HZ := hid_of z1; have HR := hid_of r1; have HQ := hid_of q1; obtain ⟨⟨z0, z1, z2, z3, z4, z5⟩, zf⟩ := z1; obtain ⟨⟨r0, r1, r2, r3, r4, r5⟩, rf⟩ := r1; obtain ⟨⟨q0, q1, q2⟩, qf⟩ := q1; clear z r q hb1)
    | (go_at_call 55; (with_reducible refine (within_v HC.out _).mono ?_); rintro e w9 ⟨rfl, rfl⟩)
    | (go_at_call 47; (with_reducible refine (copy_i d f l n LA LB A ca (some ⟨g, off, none⟩) cb _ (hA.below hw1) (hB.below hw1) eA eB (by omega) (by omega)).mono ?_); rintro e w2 ⟨⟨_, rfl, A1, c1, B1, c2, rfl, hI1, hJ1, hap⟩, hb2⟩; have HZ2 := hid_of (HZ.out.under hb2 (by omega)); have HR2 := hid_of (HR.out.under hb2 (by omega)); have HQ2 := hid_of (HQ.out.under hb2 (by omega)); have hw2 := hw1.trans (hb2.mono hw1.size); have hs2 := hb2.size; clear z0 z1 z2 z3 z4 z5 zf r0 r1 r2 r3 r4 r5 rf q0 q1 q2 qf hb2))
  generalize hW8 : World.alloc w2 _ = W8
  have hz8 : Own6 W8 w.heap.size d f l n A LA.length ca (some ⟨g, off, none⟩) LB.length cb := by rw [← hW8]; exact HZ2.out.alloc _
  have hr8 : Own6 W8 (w.heap.size + 1) (⟨#[]⟩ : ByteArray) false 0 0 none 0 0 none 0 0 := by rw [← hW8]; exact HR2.out.alloc _
  have hq8 : Own3 W8 (w.heap.size + 1 + 1) 0 (⟨#[]⟩ : ByteArray) false := by rw [← hW8]; exact HQ2.out.alloc _
  have ho8 : Own6 W8 w2.heap.size d f l n A1 LA.length c1 B1 LB.length c2 := by rw [← hW8]; exact Own6.new w2
  have hw8 : Below w.heap.size w W8 := by rw [← hW8]; exact ba hw2 _
  have hs8 : W8.heap.size = w2.heap.size + 1 := by rw [← hW8]; simp
  have hI8 : RngIn W8 w1.heap.size w2.heap.size A1 LA.length c1 LA := by rw [← hW8]; exact hI1.alloc _
  clear hW8 hI1 hJ1 hap
  have u0 := fun y : Up W8 => y.cell hz8.1.1
  have u1 := fun y : Up W8 => y.cell hz8.1.2.1
  have u2 := fun y : Up W8 => y.cell hz8.1.2.2.1
  have u3 := fun y : Up W8 => y.cell hz8.1.2.2.2.1
  have u4 := fun y : Up W8 => y.cell hz8.1.2.2.2.2.1
  have u5 := fun y : Up W8 => y.cell hz8.1.2.2.2.2.2
  refine wp_region_up (by kernel_rfl) (by kernel_rfl) ?_
  repeat (quiet_step ((go_at_call 56; with_reducible exact up_box fun w' => pos_v_impl HP.out w' (by omega))))
  refine wpQuiet_nil ?_
  intro w3 hb3
  clear u0 u1 u2 u3 u4 u5
  have HZ3 := hid_of (hz8.under hb3 (by omega))
  have HR3 := hid_of (hr8.under hb3 (by omega))
  have HQ3 := hid_of (hq8.under hb3 (by omega))
  have HO3 := hid_of (ho8.under hb3 (by omega))
  have hI3 := hI8.below hb3
  have hw3 := hw8.trans (hb3.mono hw8.size)
  have hs3 := hb3.size
  clear hz8 hr8 hq8 ho8 hI8 hb3 hw8
  obtain ⟨⟨z0, z1, z2, z3, z4, z5⟩, zf⟩ := HZ3.out
  have g0 := (hw3.cell (p := ⟨g, _, none⟩) hg).trans g0
  have g1 := (hw3.cell (p := ⟨g, _, none⟩) hg).trans g1
  go_wp2_with fail
  have v5 := fun y : Up w3 => y.cell z5
  have vg0 := fun y : Up w3 => y.cell g0
  have vg1 := fun y : Up w3 => y.cell g1
  refine wp_region_up (by kernel_rfl) (by kernel_rfl) ?_
  repeat (quiet_step (fail))
  refine wpQuiet_nil ?_
  intro w4 hb4
  have HZ4 := hid_of (HZ3.out.under hb4 (by omega))
  have HR4 := hid_of (HR3.out.under hb4 (by omega))
  have HQ4 := hid_of (HQ3.out.under hb4 (by omega))
  have HO4 := hid_of (HO3.out.under hb4 (by omega))
  have hI4 := hI3.below hb4
  have hw4 := hw3.trans (hb4.mono hw3.size)
  have hs4 := hb4.size
  clear v5 vg0 vg1 hb4 z0 z1 z2 z3 z4 z5 zf g0 g1
  obtain ⟨⟨z0, z1, z2, z3, z4, z5⟩, zf⟩ := HZ4.out
  have lt4 : w.heap.size < w4.heap.size := by omega
  have hlen : LB.length ≤ 16 := hsv.out.b.1
  go_wp2_with fail
  clear lt4 z0 z1 z2 z3 z4 z5 zf
  generalize hW9 : World.alloc w4 _ = W9
  have hz9 : Own6 W9 w.heap.size d f l n A LA.length ca (some ⟨g, off, none⟩) LB.length cb := by rw [← hW9]; exact HZ4.out.alloc _
  have hr9 : Own6 W9 (w.heap.size + 1) (⟨#[]⟩ : ByteArray) false 0 0 none 0 0 none 0 0 := by rw [← hW9]; exact HR4.out.alloc _
  have hq9 : Own3 W9 (w.heap.size + 1 + 1) 0 (⟨#[]⟩ : ByteArray) false := by rw [← hW9]; exact HQ4.out.alloc _
  have ho9 : Own6 W9 w2.heap.size d f l n A1 LA.length c1 B1 LB.length c2 := by rw [← hW9]; exact HO4.out.alloc _
  have hp9 : Own3 W9 w4.heap.size lo x true := by rw [← hW9]; exact Own3.new w4 lo x true
  have hw9 : Below w.heap.size w W9 := by rw [← hW9]; exact ba hw4 _
  have hs9 : W9.heap.size = w4.heap.size + 1 := by rw [← hW9]; simp
  have hI9 : RngIn W9 w1.heap.size w2.heap.size A1 LA.length c1 LA := by rw [← hW9]; exact hI4.alloc _
  clear hW9
  have HZ9 := hid_of hz9
  have HR9 := hid_of hr9
  have HQ9 := hid_of hq9
  have HO9 := hid_of ho9
  have HP9 := hid_of hp9
  have u5 := fun y : Up W9 => y.cell hz9.1.2.2.2.2.2
  have p0 := fun y : Up W9 => y.cell hp9.1.1
  have p1 := fun y : Up W9 => y.cell hp9.1.2.1
  have p2 := fun y : Up W9 => y.cell hp9.1.2.2
  clear hr9 hq9 hz9 ho9 hp9
  refine wp_region_up_tail 5 (by kernel_rfl) (by kernel_rfl) ?_
  simp only [List.take_succ_cons, List.take_zero, List.drop_succ_cons, List.drop_zero]
  repeat (quiet_step ((go_at_call 49; with_reducible exact up_box fun w' => last_v_i HLS.out w' ⟨by omega, by omega⟩ (by omega))))
  refine wpQuiet_nil ?_
  intro w5 hb5
  clear u5 p0 p1 p2
  have hs5 := hb5.size
  have HR5 := hid_of (HR9.out.under hb5 (by omega))
  have HQ5 := hid_of (HQ9.out.under hb5 (by omega))
  have HO5 := hid_of (HO9.out.under hb5 (by omega))
  have HP5 := hid_of (HP9.out.under hb5 (by omega))
  have hw5 := hw9.trans (hb5.mono hw9.size)
  have hI5 := hI9.below hb5
  clear HZ9 HR9 HQ9 HO9 HP9 hI9 hw9 hb5 HZ3 HR3 HQ3 HO3 HZ4 HR4 HQ4 HO4 hI3 hI4 hw3 hw4
  go_wp2_with (go_at_call 50; (with_reducible refine (removed_any (some ⟨g, off, none⟩) LB.length cb LB _ lo ls (hB.below hw5) (by omega) ⟨by omega, by omega⟩ ⟨by omega, by omega⟩).mono ?_); rintro e' w6 ⟨B2, c3, rfl, hI6, hb6⟩; have hs6 := hb6.size; have HR6 := hid_of (HR5.out.under hb6 (by omega)); have HQ6 := hid_of (HQ5.out.under hb6 (by omega)); have HO6 := hid_of (HO5.out.under hb6 (by omega)); have HP6 := hid_of (HP5.out.under hb6 (by omega)); have hw6 := hw5.trans (hb6.mono hw5.size); have hI56 := hI5.below hb6; have o5 := HO6.out.1.2.2.2.2.2; have of := HO6.out.2)
  all_goals
    generalize hW10 : World.setCell w6 _ _ = W10
    have hr10 : Own6 W10 (w.heap.size + 1) (⟨#[]⟩ : ByteArray) false 0 0 none 0 0 none 0 0 := by rw [← hW10]; exact HR6.out.other (by dsimp only; omega) _
    have hq10 : Own3 W10 (w.heap.size + 1 + 1) 0 (⟨#[]⟩ : ByteArray) false := by rw [← hW10]; exact HQ6.out.other (by dsimp only; omega) _
    have ho10 : Own6 W10 w2.heap.size d f l n A1 LA.length c1 B2 (remove LB lo ls).length c3 := by rw [← hW10]; exact HO6.out.set5 _ _ _
    have hp10 : Own3 W10 w4.heap.size lo x true := by rw [← hW10]; exact HP6.out.other (by dsimp only; omega) _
    have hw10 : Below w.heap.size w W10 := by rw [← hW10]; exact hw6.setCell (by dsimp only; omega) _
    have hs10 : W10.heap.size = w6.heap.size := by rw [← hW10]; simp [World.setCell]
    have hI10 : RngIn W10 w1.heap.size w2.heap.size A1 LA.length c1 LA := by rw [← hW10]; exact hI56.touch (((Touch.refl w6 w2.heap.size (w2.heap.size + 1)).setCell (Nat.le_refl _) (Nat.lt_succ_self _) _)) (.inl (Nat.le_refl _))
    have hJ10 : RngIn W10 w5.heap.size w6.heap.size B2 (remove LB lo ls).length c3 (remove LB lo ls) := by rw [← hW10]; exact hI6.setLow (by dsimp only; omega) _
    clear hW10 o5 of HR5 HQ5 HO5 HP5 HR6 HQ6 HO6 HP6 hI5 hI56 hI6 hw5 hw6
    have HR10 := hid_of hr10
    have HQ10 := hid_of hq10
    obtain ⟨⟨r0, r1, r2, r3, r4, r5⟩, rf⟩ := hr10
    obtain ⟨⟨q0, q1, q2⟩, qf⟩ := hq10
    obtain ⟨⟨o0, o1, o2, o3, o4, o5⟩, of⟩ := ho10
    obtain ⟨⟨p0, p1, p2⟩, pf⟩ := hp10
    have hN : Ret2 w w2.heap.size w4.heap.size W10.heap.size w1.heap.size w2.heap.size w5.heap.size w6.heap.size d f l n LA (remove LB lo ls) A1 c1 B2 c3 lo x true W10 := ⟨⟨⟨o0, o1, o2, o3, o4, o5⟩, of⟩, ⟨⟨p0, p1, p2⟩, pf⟩, ⟨_, _, _, _, _, _, _, _, _, _, HR10.out⟩, ⟨_, _, _, HQ10.out⟩, hI10, hJ10, hw10, Nat.le_refl _⟩
    have HN := hid_of hN
    clear o0 o1 o2 o3 o4 o5 of p0 p1 p2 pf r0 r1 r2 r3 r4 r5 rf q0 q1 q2 qf HR10 HQ10 hN
    have hap10 := apart_of hI10 hJ10 (.inl (by omega))
    clear hI10 hJ10 hw10
  all_goals go_wp2_with fail
  all_goals
    have inst : Nonempty (In (Ret2 w w2.heap.size w4.heap.size W10.heap.size w1.heap.size w2.heap.size w5.heap.size w6.heap.size d f l n LA (remove LB lo ls) A1 c1 B2 c3 lo x true)) := ⟨⟨W10, HN.out⟩⟩
    have u0 := fun y : In (Ret2 w w2.heap.size w4.heap.size W10.heap.size w1.heap.size w2.heap.size w5.heap.size w6.heap.size d f l n LA (remove LB lo ls) A1 c1 B2 c3 lo x true) => y.h.x.1.1
    have u1 := fun y : In (Ret2 w w2.heap.size w4.heap.size W10.heap.size w1.heap.size w2.heap.size w5.heap.size w6.heap.size d f l n LA (remove LB lo ls) A1 c1 B2 c3 lo x true) => y.h.x.1.2.1
    have u2 := fun y : In (Ret2 w w2.heap.size w4.heap.size W10.heap.size w1.heap.size w2.heap.size w5.heap.size w6.heap.size d f l n LA (remove LB lo ls) A1 c1 B2 c3 lo x true) => y.h.x.1.2.2.1
    have u3 := fun y : In (Ret2 w w2.heap.size w4.heap.size W10.heap.size w1.heap.size w2.heap.size w5.heap.size w6.heap.size d f l n LA (remove LB lo ls) A1 c1 B2 c3 lo x true) => y.h.x.1.2.2.2.1
    have u4 := fun y : In (Ret2 w w2.heap.size w4.heap.size W10.heap.size w1.heap.size w2.heap.size w5.heap.size w6.heap.size d f l n LA (remove LB lo ls) A1 c1 B2 c3 lo x true) => y.h.x.1.2.2.2.2.1
    have u5 := fun y : In (Ret2 w w2.heap.size w4.heap.size W10.heap.size w1.heap.size w2.heap.size w5.heap.size w6.heap.size d f l n LA (remove LB lo ls) A1 c1 B2 c3 lo x true) => y.h.x.1.2.2.2.2.2
    have v0 := fun y : In (Ret2 w w2.heap.size w4.heap.size W10.heap.size w1.heap.size w2.heap.size w5.heap.size w6.heap.size d f l n LA (remove LB lo ls) A1 c1 B2 c3 lo x true) => y.h.p.1.1
    have v1 := fun y : In (Ret2 w w2.heap.size w4.heap.size W10.heap.size w1.heap.size w2.heap.size w5.heap.size w6.heap.size d f l n LA (remove LB lo ls) A1 c1 B2 c3 lo x true) => y.h.p.1.2.1
    have v2 := fun y : In (Ret2 w w2.heap.size w4.heap.size W10.heap.size w1.heap.size w2.heap.size w5.heap.size w6.heap.size d f l n LA (remove LB lo ls) A1 c1 B2 c3 lo x true) => y.h.p.1.2.2
    refine wp_region_cls (Ret2 w w2.heap.size w4.heap.size W10.heap.size w1.heap.size w2.heap.size w5.heap.size w6.heap.size d f l n LA (remove LB lo ls) A1 c1 B2 c3 lo x true) [([0, 1], 2), ([], 3)] [4] (by kernel_rfl) (by kernel_rfl) (fun m => HN.out.drew m) ?_
    simp only [Seq, opsAt, List.filterMap_cons, List.filterMap_nil, List.getElem?_cons_zero, List.getElem?_cons_succ]
    repeat (quiet_step (fail))
    refine wpQuiet_nil ?_
    refine ⟨_, rfl, rfl, turns_step fun Z hZ w11 h11 => ?_⟩
    clear u0 u1 u2 u3 u4 u5 v0 v1 v2 inst
    obtain ⟨_, _, _, _, _, _, _, _, _, _, hR11⟩ := h11.r
    have HR11 := hid_of hR11
    obtain ⟨⟨r0, r1, r2, r3, r4, r5⟩, rf⟩ := hR11
    go_simp
    generalize hW12 : World.setCell (World.setCell (World.setCell (World.setCell (World.setCell (World.setCell w11 _ _) _ _) _ _) _ _) _ _) _ _ = W12
    have h12 : Ret2 w w2.heap.size w4.heap.size W10.heap.size w1.heap.size w2.heap.size w5.heap.size w6.heap.size d f l n LA (remove LB lo ls) A1 c1 B2 c3 lo x true W12 := by rw [← hW12]; exact h11.store (by omega) (by omega) _ _ _ _ _ _ _ _ _ _
    have hR12 : Own6 W12 (w.heap.size + 1) d f l n A1 LA.length c1 B2 (remove LB lo ls).length c3 := by rw [← hW12]; exact HR11.out.setAll _ _ _ _ _ _ _ _ _ _
    clear hW12 r0 r1 r2 r3 r4 r5 rf HR11 h11
    have HR12 := hid_of hR12
    have H12 := hid_of h12
    clear hR12 h12
    refine hZ (fun y => (Ret2 w w2.heap.size w4.heap.size W10.heap.size w1.heap.size w2.heap.size w5.heap.size w6.heap.size d f l n LA (remove LB lo ls) A1 c1 B2 c3 lo x true) y ∧ Own6 y (w.heap.size + 1) d f l n A1 LA.length c1 B2 (remove LB lo ls).length c3) _ _ ⟨H12.out, HR12.out⟩ (fun y e => e.1) ?_
    clear hZ Z
    refine wpQuiet_nil ?_
    refine ⟨_, rfl, rfl, turns_step fun Z hZ w13 h13 => ?_⟩
    have HR13 := hid_of h13.2
    have H13 := hid_of h13.1
    clear h13 H12 HR12
    obtain ⟨_, _, _, hQ13⟩ := H13.out.q
    have HQ13 := hid_of hQ13
    obtain ⟨⟨q0, q1, q2⟩, qf⟩ := hQ13
    go_simp
    generalize hW14 : World.setCell (World.setCell (World.setCell w13 _ _) _ _) _ _ = W14
    have h14 : Ret2 w w2.heap.size w4.heap.size W10.heap.size w1.heap.size w2.heap.size w5.heap.size w6.heap.size d f l n LA (remove LB lo ls) A1 c1 B2 c3 lo x true W14 := by rw [← hW14]; exact H13.out.store3 (by omega) (by omega) _ _ _
    have hR14 : Own6 W14 (w.heap.size + 1) d f l n A1 LA.length c1 B2 (remove LB lo ls).length c3 := by rw [← hW14]; exact (((HR13.out.other (by dsimp only; omega) _).other (by dsimp only; omega) _).other (by dsimp only; omega) _)
    have hQ14 : Own3 W14 (w.heap.size + 1 + 1) lo x true := by rw [← hW14]; exact HQ13.out.setAll lo x true
    have HR14 := hid_of hR14
    have HQ14 := hid_of hQ14
    have H14 := hid_of h14
    clear hR14 hQ14 h14
    refine hZ (fun y => y = W14) _ _ rfl (fun y e => by rw [e]; exact ⟨H14.out, HR14.out⟩) ?_
    clear hZ Z hW14 q0 q1 q2 qf HQ13
    have inst : Nonempty (In (fun y => y = W14)) := ⟨⟨W14, rfl⟩⟩
    repeat (quiet_step (fail))
    refine wpQuiet_nil ?_
    refine seq_last (C := fun y => y = W14) fun w15 e15 => ?_
    subst e15
    clear inst
    go_wp2_with fail
    try simp only [Exit.inBlock, Exit.then]
    refine bodyPost_ret (results_spb rfl rfl rfl rfl HR14.out HQ14.out) rfl ?_
    have hsz14 := H14.out.sz
    exact ⟨⟨_, rfl, A1, c1, B2, c3, rfl, H14.out.a.mono (by omega) (by omega), H14.out.b.mono (by omega) (by omega), hap10⟩, H14.out.bel⟩

end Go.Proofs.Ytmkmaeblnnfheaa
