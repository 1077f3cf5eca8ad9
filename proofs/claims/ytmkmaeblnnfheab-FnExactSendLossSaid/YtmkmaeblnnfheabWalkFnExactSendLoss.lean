/- The walk of the law FnExactSendLoss: the program's and the reference's function return the same, so the law answers true. -/
import Derived.Test.YtmkmaeblnnfheabSndAx
import Derived.Test.YtmkmaeblnnfheabFltX
import Derived.Test.YtmkmaeblnnfheabPartX
import Derived.Test.YtmkmaeblnnfheabSeq
import Derived.Deep.Cut
namespace Go.Proofs.Ytmkmaeblnnfheab
open Go.RowKit
attribute [local irreducible] Go.wpQuiet

theorem InSd.of_got {w w' : World} {A : Option Addr} {ca : Nat} {B : Option Addr} {cb : Nat} {LA LB : List Rg} (h1 : RngIn w' w.heap.size w'.heap.size A LA.length ca LA) (h2 : RngIn w' w.heap.size w'.heap.size B LB.length cb LB) (h3 : Apart A LA.length B LB.length) : InSd w' w.heap.size w'.heap.size A ca B cb LA LB := ⟨h1, h2, h3⟩
theorem Own3.lt' {w : World} {b : Nat} {o : Int} {d : ByteArray} {f : Bool} (h : Own3 w b o d f) : b < w.heap.size := h.lt

set_option linter.unusedVariables false in
set_option maxRecDepth 100000 in
set_option maxHeartbeats 8000000 in
theorem walkFnExactSendLoss (w : World) (d : ByteArray) (f : Bool) (l n : Int) (LA LB : List Rg) (A : Option Addr) (ca : Nat) (B : Option Addr) (cb : Nat) (md : d.size ≤ maxLen) (ma : LA.length ≤ maxLen) (mb : LB.length ≤ maxLen) (hA : RngAt w A LA.length LA) (hB : RngAt w B LB.length LB) (eA : A = none → ca = 0) (eB : B = none → cb = 0) (o : Int) (dp : ByteArray) (fp : Bool) (mp : dp.size ≤ maxLen) :
    Calls Try.prog 4 #[.agg #[.string d, .bool f, .int .i64 l, .int .i64 n, .slice A LA.length ca, .slice B LB.length cb], .agg #[.int .i64 o, .string dp, .bool fp]] w fun e w' => e = .returned (.bool true) ∧ Below w.heap.size w w' := by
  by_cases hbig : 1048576 < d.size + LA.length + LB.length
  · have z := Own6.newT (d := d) (f := f) (l := l) (n := n) (A := A) (na := LA.length) (ca := ca) (B := B) (nb := LB.length) (cb := cb) w 37
    have z := z.alloc (.cells #[.int .i64 o, .string dp, .bool fp] 38)
    obtain ⟨⟨z0, z1, z2, z3, z4, z5⟩, zf⟩ := z
    go_enter Try.func4, Try.ntmps4
    go_wp2_with ((go_at_call 18; (with_reducible refine (szSend_big d f l n LA LB A ca B cb _ md ma mb hbig).mono ?_); rintro e w1 ⟨rfl, hb1⟩))
    go_ret
    exact ⟨rfl, Below.trans (ba (ba (Below.refl _ w) _) _) (hb1.mono (by simp; omega))⟩
  have hsm : d.size + LA.length + LB.length ≤ 1048576 := by omega
  have hLA : LA.length ≤ 1048576 := by omega
  have hLB : LB.length ≤ 1048576 := by omega
  clear md ma mb hbig
  have BEL : Below w.heap.size w w := Below.refl _ _
  obtain ⟨⟨⟨d1, f1, l1, n1, LA1, LB1⟩, b1⟩, hr⟩ : ∃ x, sendLoss ⟨d, f, l, n, LA, LB⟩ ⟨o, dp, fp⟩ = x := ⟨_, rfl⟩
  have hlen : LA1.length ≤ 2000000 ∧ LB1.length ≤ 2000000 := by have := sendLoss_len ⟨d, f, l, n, LA, LB⟩ ⟨o, dp, fp⟩; rw [hr] at this; exact ⟨by have := this.1; dsimp only at this; omega, by have := this.2; dsimp only at this; omega⟩
  obtain ⟨hl1, hl2⟩ := hlen
  have HR := hid_of hr
  clear hr
  go_enter Try.func4, Try.ntmps4
  go_upto_region 1 with (fail)
  generalize hW : World.alloc (World.alloc w _) _ = w0
  have HZ : Hid (Own6 w0 w.heap.size d f l n A LA.length ca B LB.length cb) := by rw [← hW]; exact hid_of ((Own6.newT w _).alloc _)
  have HY : Hid (Own3 w0 (w.heap.size + 1) o dp fp) := by rw [← hW]; exact hid_of (by have := Own3.newT (o := o) (d := dp) (f := fp) (w.alloc (.cells #[.string d, .bool f, .int .i64 l, .int .i64 n, .slice A LA.length ca, .slice B LB.length cb] 37)) 38; simpa using this)
  have BEL : Below w.heap.size w w0 := by rw [← hW]; exact ba (ba BEL _) _
  have hs0 : w.heap.size + 1 < w0.heap.size := by rw [← hW]; simp
  clear hW
  obtain ⟨⟨cHZ0, cHZ1, cHZ2, cHZ3, cHZ4, cHZ5⟩, cHZf⟩ := HZ.out
  go_wp2_with fail
  clear cHZ0 cHZ1 cHZ2 cHZ3 cHZ4 cHZ5 cHZf
  with_reducible refine (szSend_ok d f l n LA LB A ca B cb _ hsm).mono ?_
  rintro e w1 ⟨rfl, hb1⟩
  have HY := hid_of (HY.out.under hb1 HY.out.lt')
  have HZ := hid_of (HZ.out.under hb1 HZ.out.lt')
  have BEL := BEL.trans (hb1.mono BEL.size)
  have hs1 := hb1.size
  clear hb1
  have hleft : 0 ≤ 1048576 - (d.size : Int) - LA.length - LB.length ∧ 1048576 - (d.size : Int) - LA.length - LB.length ≤ 1048576 := by omega
  obtain ⟨⟨cHY0, cHY1, cHY2⟩, cHYf⟩ := HY.out
  go_wp2_with fail
  clear cHY0 cHY1 cHY2 cHYf
  with_reducible refine (szPart_any o dp fp _ _ mp hleft).mono ?_
  rintro e w2 ⟨rfl, hb2⟩
  have HY := hid_of (HY.out.under hb2 HY.out.lt')
  have HZ := hid_of (HZ.out.under hb2 HZ.out.lt')
  have BEL := BEL.trans (hb2.mono BEL.size)
  have hs2 := hb2.size
  clear hb2
  by_cases hp : 1048576 - (d.size : Int) - LA.length - LB.length < dp.size
  · rw [if_pos hp]
    go_wp2_with fail
    go_ret
    exact ⟨rfl, BEL⟩
  rw [if_neg hp]
  have hdp : dp.size ≤ 2000000 := by omega
  unfold maxLen at mp
  go_upto_region 8 with (fail)
  have inst : Nonempty (In (St w2 (w2.heap.size) (fun _ => True))) := ⟨⟨w2, Below.refl _ _, Nat.le_refl _, trivial⟩⟩
  have u0 := fun z : In (St w2 (w2.heap.size) (fun _ => True)) => (HZ.out.under z.h.b HZ.out.lt').1.1
  have u1 := fun z : In (St w2 (w2.heap.size) (fun _ => True)) => (HZ.out.under z.h.b HZ.out.lt').1.2.1
  have u2 := fun z : In (St w2 (w2.heap.size) (fun _ => True)) => (HZ.out.under z.h.b HZ.out.lt').1.2.2.1
  have u3 := fun z : In (St w2 (w2.heap.size) (fun _ => True)) => (HZ.out.under z.h.b HZ.out.lt').1.2.2.2.1
  have u4 := fun z : In (St w2 (w2.heap.size) (fun _ => True)) => (HZ.out.under z.h.b HZ.out.lt').1.2.2.2.2.1
  have u5 := fun z : In (St w2 (w2.heap.size) (fun _ => True)) => (HZ.out.under z.h.b HZ.out.lt').1.2.2.2.2.2
  have u6 := fun z : In (St w2 (w2.heap.size) (fun _ => True)) => (HY.out.under z.h.b HY.out.lt').1.1
  have u7 := fun z : In (St w2 (w2.heap.size) (fun _ => True)) => (HY.out.under z.h.b HY.out.lt').1.2.1
  have u8 := fun z : In (St w2 (w2.heap.size) (fun _ => True)) => (HY.out.under z.h.b HY.out.lt').1.2.2
  refine wp_region_flt (St w2 (w2.heap.size) (fun _ => True)) [(⟨8, 6, .cells #[.string (⟨#[]⟩ : ByteArray), .bool false, .int .i64 0, .int .i64 0, .slice none 0 0, .slice none 0 0] 25, fun x b => ∃ d f l n A na ca B nb cb, Own6 x b d f l n A na ca B nb cb⟩ : Flt)] [([0, 2], 1), ([], 3), ([], 4)] [5, 6, 7] [([], 9)] [10] (by kernel_rfl) (by kernel_rfl) (floats_one ⟨_, rfl, rfl, rfl, fun e he => by simp at he, fun a w => by go_simp⟩ (fun w => ⟨_, _, _, _, _, _, _, _, _, _, Own6.newT w _⟩) (fun w w' b _ e ⟨x1, x2, x3, x4, x5, x6, x7, x8, x9, x10, h⟩ => ⟨x1, x2, x3, x4, x5, x6, x7, x8, x9, x10, h.of_block e⟩)) (St.grows (Nat.le_refl _) (fun _ hg => (by cases hg)) (fun _ _ _ => trivial)) (St.base _) ?_
  simp only [SeqF, opsAt, List.filterMap_cons, List.filterMap_nil, List.getElem?_cons_zero, List.getElem?_cons_succ]
  repeat (quiet_step (fail))
  refine wpQuiet_nil ?_
  refine ⟨_, rfl, rfl, turnsB_step fun Z w3 h1 hZ => ?_⟩
  clear inst u0 u1 u2 u3 u4 u5 u6 u7 u8
  have hB1 := h1.b
  have hs3 := h1.s
  have BEL1 := BEL.trans (hB1.mono BEL.size)
  go_simp
  with_reducible refine (toSend_any d f l n LA LB A ca B cb _ (hA.below BEL1) (hB.below BEL1) hLA hLB).mono ?_
  rintro e w4 ⟨⟨_, rfl, Ay, cay, By, cby, rfl, hI, hJ, hap⟩, hb4⟩
  have hs4 := hb4.size
  have Iy := hid_of (InSd.of_got hI hJ hap)
  clear hI hJ hap
  have HC : St w2 (w4.heap.size) (fun y => InSd y w3.heap.size w4.heap.size Ay cay By cby LA LB) w4 := ⟨hB1.trans (hb4.mono hB1.size), Nat.le_refl _, Iy.out⟩
  refine hZ (St w2 (w4.heap.size) (fun y => InSd y w3.heap.size w4.heap.size Ay cay By cby LA LB)) _ _ hb4 HC (St.sub (by omega) (fun _ _ => trivial)) ⟨St.grows (by omega) (fun g hg => by simp only [List.mem_cons, List.not_mem_nil, or_false] at hg; rcases hg with rfl <;> (dsimp only; omega)) (fun _ o hy => hy.alloc o), ?_⟩
  clear hZ Z h1 hB1 BEL1 hb4
  refine wpQuiet_nil ?_
  refine ⟨_, rfl, rfl, turnsB_step fun Z w5 h1 hZ => ?_⟩
  have hB1 := h1.b
  have hs5 := h1.s
  have Iy := hid_of h1.f
  have BEL1 := BEL.trans (hB1.mono BEL.size)
  go_simp
  with_reducible refine (toPart_any o dp fp _).mono ?_
  rintro e w6 ⟨rfl, hb6⟩
  have hs6 := hb6.size
  have Iy := hid_of (Iy.out.below hb6)
  have HC : St w2 (w6.heap.size) (fun y => InSd y w3.heap.size w4.heap.size Ay cay By cby LA LB) w6 := ⟨hB1.trans (hb6.mono hB1.size), Nat.le_refl _, Iy.out⟩
  refine hZ (St w2 (w6.heap.size) (fun y => InSd y w3.heap.size w4.heap.size Ay cay By cby LA LB)) _ _ hb6 HC (St.sub (by omega) (fun _ hy => hy)) ⟨St.grows (by omega) (fun g hg => by simp only [List.mem_cons, List.not_mem_nil, or_false] at hg; rcases hg with rfl | rfl <;> (dsimp only; omega)) (fun _ o hy => hy.alloc o), ?_⟩
  clear hZ Z h1 hB1 BEL1 hb6
  refine wpQuiet_nil ?_
  refine ⟨_, rfl, rfl, turnsB_step fun Z w7 h1 hZ => ?_⟩
  have hB1 := h1.b
  have hs7 := h1.s
  have Iy := hid_of h1.f
  have BEL1 := BEL.trans (hB1.mono BEL.size)
  go_simp
  with_reducible refine (sloss_s d f l n LA LB Ay cay By cby o dp fp _ Iy.out.a.reads Iy.out.b.reads (fun e => Iy.out.a.none_cap e) (fun e => Iy.out.b.none_cap e) (by omega) (by omega) hdp).mono ?_
  rw [HR.out]
  rintro e w8 ⟨⟨_, rfl, Aw, caw, Bw, cbw, rfl, hI, hJ, hap⟩, hb8⟩
  dsimp only at hI hJ hap
  have hs8 := hb8.size
  have Iy := hid_of (Iy.out.below hb8)
  have Iw := hid_of (InSd.of_got hI hJ hap)
  clear hI hJ hap
  have HC : St w2 (w8.heap.size) (fun y => InSd y w3.heap.size w4.heap.size Ay cay By cby LA LB ∧ InSd y w7.heap.size w8.heap.size Aw caw Bw cbw LA1 LB1) w8 := ⟨hB1.trans (hb8.mono hB1.size), Nat.le_refl _, ⟨Iy.out, Iw.out⟩⟩
  refine hZ (St w2 (w8.heap.size) (fun y => InSd y w3.heap.size w4.heap.size Ay cay By cby LA LB ∧ InSd y w7.heap.size w8.heap.size Aw caw Bw cbw LA1 LB1)) _ _ hb8 HC (St.sub (by omega) (fun _ hy => hy.1)) ⟨St.grows (by omega) (fun g hg => by simp only [List.mem_cons, List.not_mem_nil, or_false] at hg; rcases hg with rfl | rfl | rfl <;> (dsimp only; omega)) (fun _ o hy => ⟨hy.1.alloc o, hy.2.alloc o⟩), ?_⟩
  clear hZ Z h1 hB1 BEL1 hb8
  have inst : Nonempty (In (St w2 (w8.heap.size) (fun y => InSd y w3.heap.size w4.heap.size Ay cay By cby LA LB ∧ InSd y w7.heap.size w8.heap.size Aw caw Bw cbw LA1 LB1))) := ⟨⟨w8, HC⟩⟩
  repeat (quiet_step (fail))
  refine wpQuiet_nil ?_
  clear inst
  refine flt_one (R := fun c a => Seq _ _ _ _ _ c a) fun bw hbl hbg hne => ?_
  simp only [Seq, opsAt, List.filterMap_cons, List.filterMap_nil, List.getElem?_cons_zero, List.getElem?_cons_succ]
  refine wpQuiet_nil ?_
  refine ⟨_, rfl, rfl, turns_step fun Z hZ w9 h3 => ?_⟩
  clear hne HC
  obtain ⟨h3, hlt3, _, _, _, _, _, _, _, _, _, _, hO3⟩ := h3
  have HO3 := hid_of hO3
  have hB3 := h3.b
  have hs9 := h3.s
  have Iy := hid_of h3.f.1
  have Iw := hid_of h3.f.2
  obtain ⟨⟨r0, r1, r2, r3, r4, r5⟩, rf⟩ := hO3
  go_simp
  generalize hW : World.setCell (World.setCell (World.setCell (World.setCell (World.setCell (World.setCell w9 _ _) _ _) _ _) _ _) _ _) _ _ = w10
  have ht : Touch w9 w10 bw (bw + 1) := by rw [← hW]; exact touch6 _ _ _ _ _ _ _ _
  have hX : Own6 w10 bw d1 f1 l1 n1 Aw LA1.length caw Bw LB1.length cbw := by rw [← hW]; exact HO3.out.setAll _ _ _ _ _ _ _ _ _ _
  clear hW r0 r1 r2 r3 r4 r5 rf HO3
  have HX := hid_of hX
  clear hX
  have hg0 := hbg (w7.heap.size, w8.heap.size) (by simp)
  dsimp only at hg0
  have hg1 := hbg (w3.heap.size, w4.heap.size) (by simp)
  dsimp only at hg1
  have hB4 : Below w2.heap.size w2 w10 := below_touch hB3 ht hbl hB3.size
  have Iy := hid_of (Iy.out.touch ht (by omega))
  have Iw := hid_of (Iw.out.touch ht (by omega))
  have hs10 := ht.size
  refine hZ (fun y => y = w10) _ _ rfl (fun y e => by rw [e]; exact ⟨⟨hB4, Nat.le_trans h3.s ht.size, ⟨Iy.out, Iw.out⟩⟩, Nat.lt_of_lt_of_le hlt3 ht.size, _, _, _, _, _, _, _, _, _, _, HX.out⟩) ?_
  have hlt4 := Nat.lt_of_lt_of_le hlt3 ht.size
  clear hZ Z h3 hB3 ht hbg
  have inst : Nonempty (In (fun y => y = w10)) := ⟨⟨w10, rfl⟩⟩
  repeat (quiet_step (fail))
  refine wpQuiet_nil ?_
  refine seq_last (C := fun y => y = w10) fun w11 e5 => ?_
  subst e5
  clear inst
  have HY := hid_of (HY.out.under hB4 HY.out.lt')
  have HZ := hid_of (HZ.out.under hB4 HZ.out.lt')
  have BEL := BEL.trans (hB4.mono BEL.size)
  have X6 := HX
  clear HX hB4 Iy
  obtain ⟨⟨cHZ0, cHZ1, cHZ2, cHZ3, cHZ4, cHZ5⟩, cHZf⟩ := HZ.out
  go_wp2_with fail
  clear cHZ0 cHZ1 cHZ2 cHZ3 cHZ4 cHZ5 cHZf
  with_reducible refine (toSend_any d f l n LA LB A ca B cb _ (hA.below BEL) (hB.below BEL) hLA hLB).mono ?_
  rintro e w12 ⟨⟨_, rfl, Ax, cax, Bx, cbx, rfl, hI, hJ, hap⟩, hb12⟩
  have HY := hid_of (HY.out.under hb12 HY.out.lt')
  have HZ := hid_of (HZ.out.under hb12 HZ.out.lt')
  have X6 := hid_of (X6.out.under hb12 X6.out.lt')
  have Iw := hid_of (Iw.out.below hb12)
  have BEL := BEL.trans (hb12.mono BEL.size)
  have Ix := hid_of (InSd.of_got hI hJ hap)
  clear hI hJ hap
  have hs12 := hb12.size
  clear hb12
  go_upto_region 10 with (fail)
  generalize hW : World.alloc w12 _ = w13
  have hb : Below w12.heap.size w12 w13 := by rw [← hW]; exact ba (Below.refl _ _) _
  have HY := hid_of (HY.out.under hb HY.out.lt')
  have HZ := hid_of (HZ.out.under hb HZ.out.lt')
  have X6 := hid_of (X6.out.under hb X6.out.lt')
  have Iw := hid_of (Iw.out.below hb)
  have Ix := hid_of (Ix.out.below hb)
  have BEL := BEL.trans (hb.mono BEL.size)
  have X9 : Hid (Own6 w13 w12.heap.size d f l n Ax LA.length cax Bx LB.length cbx) := by rw [← hW]; exact hid_of (Own6.newT _ _)
  have hs13 : w12.heap.size < w13.heap.size := by rw [← hW]; simp
  clear hW hb
  go_upto_region 10 with (fail)
  have inst : Nonempty (In (St w13 (w13.heap.size) (fun _ => True))) := ⟨⟨w13, Below.refl _ _, Nat.le_refl _, trivial⟩⟩
  have u0 := fun z : In (St w13 (w13.heap.size) (fun _ => True)) => (X9.out.under z.h.b X9.out.lt').1.1
  have u1 := fun z : In (St w13 (w13.heap.size) (fun _ => True)) => (X9.out.under z.h.b X9.out.lt').1.2.1
  have u2 := fun z : In (St w13 (w13.heap.size) (fun _ => True)) => (X9.out.under z.h.b X9.out.lt').1.2.2.1
  have u3 := fun z : In (St w13 (w13.heap.size) (fun _ => True)) => (X9.out.under z.h.b X9.out.lt').1.2.2.2.1
  have u4 := fun z : In (St w13 (w13.heap.size) (fun _ => True)) => (X9.out.under z.h.b X9.out.lt').1.2.2.2.2.1
  have u5 := fun z : In (St w13 (w13.heap.size) (fun _ => True)) => (X9.out.under z.h.b X9.out.lt').1.2.2.2.2.2
  have u6 := fun z : In (St w13 (w13.heap.size) (fun _ => True)) => (HY.out.under z.h.b HY.out.lt').1.1
  have u7 := fun z : In (St w13 (w13.heap.size) (fun _ => True)) => (HY.out.under z.h.b HY.out.lt').1.2.1
  have u8 := fun z : In (St w13 (w13.heap.size) (fun _ => True)) => (HY.out.under z.h.b HY.out.lt').1.2.2
  refine wp_region_flt (St w13 (w13.heap.size) (fun _ => True)) [(⟨7, 9, .cells #[.string (⟨#[]⟩ : ByteArray), .bool false, .int .i64 0, .int .i64 0, .slice none 0 0, .slice none 0 0] 25, fun x b => ∃ d f l n A na ca B nb cb, Own6 x b d f l n A na ca B nb cb⟩ : Flt)] [([0, 1], 2), ([], 3)] [4, 5, 6] [([], 8)] [9] (by kernel_rfl) (by kernel_rfl) (floats_one ⟨_, rfl, rfl, rfl, fun e he => by simp at he, fun a w => by go_simp⟩ (fun w => ⟨_, _, _, _, _, _, _, _, _, _, Own6.newT w _⟩) (fun w w' b _ e ⟨x1, x2, x3, x4, x5, x6, x7, x8, x9, x10, h⟩ => ⟨x1, x2, x3, x4, x5, x6, x7, x8, x9, x10, h.of_block e⟩)) (St.grows (Nat.le_refl _) (fun _ hg => (by cases hg)) (fun _ _ _ => trivial)) (St.base _) ?_
  simp only [SeqF, opsAt, List.filterMap_cons, List.filterMap_nil, List.getElem?_cons_zero, List.getElem?_cons_succ]
  repeat (quiet_step (fail))
  refine wpQuiet_nil ?_
  refine ⟨_, rfl, rfl, turnsB_step fun Z w14 h1 hZ => ?_⟩
  clear inst u0 u1 u2 u3 u4 u5 u6 u7 u8
  have hB1 := h1.b
  have hs14 := h1.s
  have BEL1 := BEL.trans (hB1.mono BEL.size)
  go_simp
  with_reducible refine (toPart_any o dp fp _).mono ?_
  rintro e w15 ⟨rfl, hb15⟩
  have hs15 := hb15.size
  have HC : St w13 (w15.heap.size) (fun _ => True) w15 := ⟨hB1.trans (hb15.mono hB1.size), Nat.le_refl _, trivial⟩
  refine hZ (St w13 (w15.heap.size) (fun _ => True)) _ _ hb15 HC (St.sub (by omega) (fun _ _ => trivial)) ⟨St.grows (by omega) (fun g hg => by simp only [List.mem_cons, List.not_mem_nil, or_false] at hg; rcases hg with rfl <;> (dsimp only; omega)) (fun _ _ _ => trivial), ?_⟩
  clear hZ Z h1 hB1 BEL1 hb15
  refine wpQuiet_nil ?_
  refine ⟨_, rfl, rfl, turnsB_step fun Z w16 h1 hZ => ?_⟩
  have hB1 := h1.b
  have hs16 := h1.s
  have BEL1 := BEL.trans (hB1.mono BEL.size)
  go_simp
  have IX1 := hid_of (Ix.out.below hB1)
  with_reducible refine (sloss_i d f l n LA LB Ax cax Bx cbx o dp fp _ IX1.out.a.reads IX1.out.b.reads (fun e => IX1.out.a.none_cap e) (fun e => IX1.out.b.none_cap e) (by omega) (by omega) hdp).mono ?_
  rw [HR.out]
  rintro e w17 ⟨⟨_, rfl, Ag, cag, Bg, cbg, rfl, hI, hJ, hap⟩, hb17⟩
  dsimp only at hI hJ hap
  have hs17 := hb17.size
  have Ig := hid_of (InSd.of_got hI hJ hap)
  clear hI hJ hap
  have HC : St w13 (w17.heap.size) (fun y => InSd y w16.heap.size w17.heap.size Ag cag Bg cbg LA1 LB1) w17 := ⟨hB1.trans (hb17.mono hB1.size), Nat.le_refl _, Ig.out⟩
  refine hZ (St w13 (w17.heap.size) (fun y => InSd y w16.heap.size w17.heap.size Ag cag Bg cbg LA1 LB1)) _ _ hb17 HC (St.sub (by omega) (fun _ _ => trivial)) ⟨St.grows (by omega) (fun g hg => by simp only [List.mem_cons, List.not_mem_nil, or_false] at hg; rcases hg with rfl | rfl <;> (dsimp only; omega)) (fun _ o hy => hy.alloc o), ?_⟩
  clear hZ Z h1 hB1 BEL1 hb17 IX1
  have inst : Nonempty (In (St w13 (w17.heap.size) (fun y => InSd y w16.heap.size w17.heap.size Ag cag Bg cbg LA1 LB1))) := ⟨⟨w17, HC⟩⟩
  repeat (quiet_step (fail))
  refine wpQuiet_nil ?_
  clear inst
  refine flt_one (R := fun c a => Seq _ _ _ _ _ c a) fun bg hbl hbg hne => ?_
  simp only [Seq, opsAt, List.filterMap_cons, List.filterMap_nil, List.getElem?_cons_zero, List.getElem?_cons_succ]
  refine wpQuiet_nil ?_
  refine ⟨_, rfl, rfl, turns_step fun Z hZ w18 h3 => ?_⟩
  clear hne HC
  obtain ⟨h3, hlt3, _, _, _, _, _, _, _, _, _, _, hO3⟩ := h3
  have HO3 := hid_of hO3
  have hB3 := h3.b
  have hs18 := h3.s
  have Ig := hid_of h3.f
  obtain ⟨⟨r0, r1, r2, r3, r4, r5⟩, rf⟩ := hO3
  go_simp
  generalize hW : World.setCell (World.setCell (World.setCell (World.setCell (World.setCell (World.setCell w18 _ _) _ _) _ _) _ _) _ _) _ _ = w19
  have ht : Touch w18 w19 bg (bg + 1) := by rw [← hW]; exact touch6 _ _ _ _ _ _ _ _
  have hX : Own6 w19 bg d1 f1 l1 n1 Ag LA1.length cag Bg LB1.length cbg := by rw [← hW]; exact HO3.out.setAll _ _ _ _ _ _ _ _ _ _
  clear hW r0 r1 r2 r3 r4 r5 rf HO3
  have HX := hid_of hX
  clear hX
  have hg0 := hbg (w16.heap.size, w17.heap.size) (by simp)
  dsimp only at hg0
  have hB4 : Below w13.heap.size w13 w19 := below_touch hB3 ht hbl hB3.size
  have Ig := hid_of (Ig.out.touch ht (by omega))
  have hs19 := ht.size
  refine hZ (fun y => y = w19) _ _ rfl (fun y e => by rw [e]; exact ⟨⟨hB4, Nat.le_trans h3.s ht.size, Ig.out⟩, Nat.lt_of_lt_of_le hlt3 ht.size, _, _, _, _, _, _, _, _, _, _, HX.out⟩) ?_
  have hlt4 := Nat.lt_of_lt_of_le hlt3 ht.size
  clear hZ Z h3 hB3 ht hbg
  have inst : Nonempty (In (fun y => y = w19)) := ⟨⟨w19, rfl⟩⟩
  repeat (quiet_step (fail))
  refine wpQuiet_nil ?_
  refine seq_last (C := fun y => y = w19) fun w20 e5 => ?_
  subst e5
  clear inst
  have HY := hid_of (HY.out.under hB4 HY.out.lt')
  have HZ := hid_of (HZ.out.under hB4 HZ.out.lt')
  have X6 := hid_of (X6.out.under hB4 X6.out.lt')
  have X9 := hid_of (X9.out.under hB4 X9.out.lt')
  have Iw := hid_of (Iw.out.below hB4)
  have Ix := hid_of (Ix.out.below hB4)
  have BEL := BEL.trans (hB4.mono BEL.size)
  have X10 := HX
  clear HX hB4
  obtain ⟨⟨cX100, cX101, cX102, cX103, cX104, cX105⟩, cX10f⟩ := X10.out
  obtain ⟨⟨cX60, cX61, cX62, cX63, cX64, cX65⟩, cX6f⟩ := X6.out
  go_wp2_with fail
  clear cX100 cX101 cX102 cX103 cX104 cX105 cX10f
  clear cX60 cX61 cX62 cX63 cX64 cX65 cX6f
  with_reducible refine (eqSend_any d1 f1 l1 n1 LA1 LB1 Ag cag Bg cbg Aw caw Bw cbw _ Ig.out.a.reads Ig.out.b.reads Iw.out.a.reads Iw.out.b.reads hl1 hl2).mono ?_
  rintro e w21 ⟨rfl, hb21⟩
  have HY := hid_of (HY.out.under hb21 HY.out.lt')
  have HZ := hid_of (HZ.out.under hb21 HZ.out.lt')
  have X6 := hid_of (X6.out.under hb21 X6.out.lt')
  have X9 := hid_of (X9.out.under hb21 X9.out.lt')
  have X10 := hid_of (X10.out.under hb21 X10.out.lt')
  have Iw := hid_of (Iw.out.below hb21)
  have Ix := hid_of (Ix.out.below hb21)
  have Ig := hid_of (Ig.out.below hb21)
  have BEL := BEL.trans (hb21.mono BEL.size)
  have hs21 := hb21.size
  clear hb21
  go_upto_region 13 with (fail)
  have inst : Nonempty (In (Below w21.heap.size w21)) := ⟨⟨w21, Below.refl _ _⟩⟩
  have u0 := fun y : In (Below w21.heap.size w21) => (X9.out.under y.h X9.out.lt').1.1
  have u1 := fun y : In (Below w21.heap.size w21) => (X9.out.under y.h X9.out.lt').1.2.1
  have u2 := fun y : In (Below w21.heap.size w21) => (X9.out.under y.h X9.out.lt').1.2.2.1
  have u3 := fun y : In (Below w21.heap.size w21) => (X9.out.under y.h X9.out.lt').1.2.2.2.1
  have u4 := fun y : In (Below w21.heap.size w21) => (X9.out.under y.h X9.out.lt').1.2.2.2.2.1
  have u5 := fun y : In (Below w21.heap.size w21) => (X9.out.under y.h X9.out.lt').1.2.2.2.2.2
  have v0 := fun y : In (Below w21.heap.size w21) => (HZ.out.under y.h HZ.out.lt').1.1
  have v1 := fun y : In (Below w21.heap.size w21) => (HZ.out.under y.h HZ.out.lt').1.2.1
  have v2 := fun y : In (Below w21.heap.size w21) => (HZ.out.under y.h HZ.out.lt').1.2.2.1
  have v3 := fun y : In (Below w21.heap.size w21) => (HZ.out.under y.h HZ.out.lt').1.2.2.2.1
  have v4 := fun y : In (Below w21.heap.size w21) => (HZ.out.under y.h HZ.out.lt').1.2.2.2.2.1
  have v5 := fun y : In (Below w21.heap.size w21) => (HZ.out.under y.h HZ.out.lt').1.2.2.2.2.2
  refine wp_region_cls (Below w21.heap.size w21) [([0, 1], 2), ([], 3)] [4] (by kernel_rfl) (by kernel_rfl) (fun m => ⟨rfl, rfl, rfl, Nat.le_refl _, fun _ _ => rfl⟩) ?_
  simp only [Seq, opsAt, List.filterMap_cons, List.filterMap_nil, List.getElem?_cons_zero, List.getElem?_cons_succ]
  repeat (quiet_step (fail))
  refine wpQuiet_nil ?_
  refine ⟨_, rfl, rfl, turns_step fun Z hZ w22 hb22 => ?_⟩
  clear inst u0 u1 u2 u3 u4 u5 v0 v1 v2 v3 v4 v5
  have HY := hid_of (HY.out.under hb22 HY.out.lt')
  have HZ := hid_of (HZ.out.under hb22 HZ.out.lt')
  have X6 := hid_of (X6.out.under hb22 X6.out.lt')
  have X9 := hid_of (X9.out.under hb22 X9.out.lt')
  have X10 := hid_of (X10.out.under hb22 X10.out.lt')
  have Iw := hid_of (Iw.out.below hb22)
  have Ix := hid_of (Ix.out.below hb22)
  have Ig := hid_of (Ig.out.below hb22)
  have BEL := BEL.trans (hb22.mono BEL.size)
  have hs22 := hb22.size
  go_simp
  with_reducible refine (toSend_any d f l n LA LB A ca B cb _ (hA.below BEL) (hB.below BEL) hLA hLB).mono ?_
  rintro e w23 ⟨⟨_, rfl, Ay, cay, By, cby, rfl, hI, hJ, hap⟩, hb23⟩
  have HY := hid_of (HY.out.under hb23 HY.out.lt')
  have HZ := hid_of (HZ.out.under hb23 HZ.out.lt')
  have X6 := hid_of (X6.out.under hb23 X6.out.lt')
  have X9 := hid_of (X9.out.under hb23 X9.out.lt')
  have X10 := hid_of (X10.out.under hb23 X10.out.lt')
  have Iw := hid_of (Iw.out.below hb23)
  have Ix := hid_of (Ix.out.below hb23)
  have Ig := hid_of (Ig.out.below hb23)
  have BEL := BEL.trans (hb23.mono BEL.size)
  have Iy := hid_of (InSd.of_got hI hJ hap)
  clear hI hJ hap
  have hs23 := hb23.size
  refine hZ (Below w23.heap.size w23) _ _ (Below.refl _ _) (fun y hy => hb22.trans ((hb23.trans (hy.mono hb23.size)).mono hb22.size)) ?_
  clear hZ Z hb22 hb23
  refine wpQuiet_nil ?_
  refine ⟨_, rfl, rfl, turns_step fun Z hZ w24 hb24 => ?_⟩
  have HY := hid_of (HY.out.under hb24 HY.out.lt')
  have HZ := hid_of (HZ.out.under hb24 HZ.out.lt')
  have X6 := hid_of (X6.out.under hb24 X6.out.lt')
  have X9 := hid_of (X9.out.under hb24 X9.out.lt')
  have X10 := hid_of (X10.out.under hb24 X10.out.lt')
  have Iw := hid_of (Iw.out.below hb24)
  have Ix := hid_of (Ix.out.below hb24)
  have Ig := hid_of (Ig.out.below hb24)
  have Iy := hid_of (Iy.out.below hb24)
  have BEL := BEL.trans (hb24.mono BEL.size)
  have hs24 := hb24.size
  go_simp
  with_reducible refine (eqSend_any d f l n LA LB Ax cax Bx cbx Ay cay By cby _ Ix.out.a.reads Ix.out.b.reads Iy.out.a.reads Iy.out.b.reads (by omega) (by omega)).mono ?_
  rintro e w25 ⟨rfl, hb25⟩
  have HY := hid_of (HY.out.under hb25 HY.out.lt')
  have HZ := hid_of (HZ.out.under hb25 HZ.out.lt')
  have X6 := hid_of (X6.out.under hb25 X6.out.lt')
  have X9 := hid_of (X9.out.under hb25 X9.out.lt')
  have X10 := hid_of (X10.out.under hb25 X10.out.lt')
  have Iw := hid_of (Iw.out.below hb25)
  have Ix := hid_of (Ix.out.below hb25)
  have Ig := hid_of (Ig.out.below hb25)
  have Iy := hid_of (Iy.out.below hb25)
  have BEL := BEL.trans (hb25.mono BEL.size)
  have hs25 := hb25.size
  refine hZ (Below w25.heap.size w25) _ _ (Below.refl _ _) (fun y hy => hb24.trans ((hb25.trans (hy.mono hb25.size)).mono hb24.size)) ?_
  clear hZ Z hb24 hb25
  have inst : Nonempty (In (Below w25.heap.size w25)) := ⟨⟨w25, Below.refl _ _⟩⟩
  repeat (quiet_step (fail))
  refine wpQuiet_nil ?_
  refine seq_last (C := Below w25.heap.size w25) fun w26 hb26 => ?_
  clear inst
  have HY := hid_of (HY.out.under hb26 HY.out.lt')
  have HZ := hid_of (HZ.out.under hb26 HZ.out.lt')
  have X6 := hid_of (X6.out.under hb26 X6.out.lt')
  have X9 := hid_of (X9.out.under hb26 X9.out.lt')
  have X10 := hid_of (X10.out.under hb26 X10.out.lt')
  have Iw := hid_of (Iw.out.below hb26)
  have Ix := hid_of (Ix.out.below hb26)
  have Ig := hid_of (Ig.out.below hb26)
  have Iy := hid_of (Iy.out.below hb26)
  have BEL := BEL.trans (hb26.mono BEL.size)
  have hs26 := hb26.size
  clear hb26
  clear Iy
  obtain ⟨⟨cX90, cX91, cX92, cX93, cX94, cX95⟩, cX9f⟩ := X9.out
  go_wp2_with fail
  clear cX90 cX91 cX92 cX93 cX94 cX95 cX9f

  with_reducible refine (markSend_any d f l n LA LB Ax cax Bx cbx _ 1 Ix.out (by omega) (by omega) (by omega) (by omega) (by omega)).mono ?_
  rintro e w27 ⟨rfl, hma, hmb, ht⟩
  have HY := hid_of (HY.out.touch ht (by omega))
  have HZ := hid_of (HZ.out.touch ht (by omega))
  have X6 := hid_of (X6.out.touch ht (by omega))
  have X9 := hid_of (X9.out.touch ht (by omega))
  have X10 := hid_of (X10.out.touch ht (by omega))
  have Iw := hid_of (Iw.out.touch ht (by omega))
  have Ig := hid_of (Ig.out.touch ht (by omega))
  have BEL := below_touch BEL ht (by omega) (by omega)
  have Mxa := hid_of hma
  have Mxb := hid_of hmb
  clear hma hmb Ix
  have hs27 := ht.size
  clear ht
  clear Mxa Mxb
  obtain ⟨⟨cX100, cX101, cX102, cX103, cX104, cX105⟩, cX10f⟩ := X10.out
  obtain ⟨⟨cX60, cX61, cX62, cX63, cX64, cX65⟩, cX6f⟩ := X6.out
  go_wp2_with fail
  clear cX100 cX101 cX102 cX103 cX104 cX105 cX10f
  clear cX60 cX61 cX62 cX63 cX64 cX65 cX6f
  with_reducible refine (eqSend_any d1 f1 l1 n1 LA1 LB1 Ag cag Bg cbg Aw caw Bw cbw _ Ig.out.a.reads Ig.out.b.reads Iw.out.a.reads Iw.out.b.reads hl1 hl2).mono ?_
  rintro e w28 ⟨rfl, hb28⟩
  have HY := hid_of (HY.out.under hb28 HY.out.lt')
  have HZ := hid_of (HZ.out.under hb28 HZ.out.lt')
  have X6 := hid_of (X6.out.under hb28 X6.out.lt')
  have X9 := hid_of (X9.out.under hb28 X9.out.lt')
  have X10 := hid_of (X10.out.under hb28 X10.out.lt')
  have Iw := hid_of (Iw.out.below hb28)
  have Ig := hid_of (Ig.out.below hb28)
  have BEL := BEL.trans (hb28.mono BEL.size)
  have hs28 := hb28.size
  clear hb28
  obtain ⟨⟨cX100, cX101, cX102, cX103, cX104, cX105⟩, cX10f⟩ := X10.out
  go_wp2_with fail
  clear cX100 cX101 cX102 cX103 cX104 cX105 cX10f

  with_reducible refine (markSend_any d1 f1 l1 n1 LA1 LB1 Ag cag Bg cbg _ 1 Ig.out (by omega) (by omega) (by omega) (by omega) (by omega)).mono ?_
  rintro e w29 ⟨rfl, hma, hmb, ht⟩
  have HY := hid_of (HY.out.touch ht (by omega))
  have HZ := hid_of (HZ.out.touch ht (by omega))
  have X6 := hid_of (X6.out.touch ht (by omega))
  have X9 := hid_of (X9.out.touch ht (by omega))
  have X10 := hid_of (X10.out.touch ht (by omega))
  have Iw := hid_of (Iw.out.touch ht (by omega))
  have BEL := below_touch BEL ht (by omega) (by omega)
  have Mga := hid_of hma
  have Mgb := hid_of hmb
  clear hma hmb Ig
  have hs29 := ht.size
  clear ht
  obtain ⟨⟨cX100, cX101, cX102, cX103, cX104, cX105⟩, cX10f⟩ := X10.out
  go_wp2_with fail
  clear cX100 cX101 cX102 cX103 cX104 cX105 cX10f
  with_reducible refine (heldSend_any d1 f1 l1 n1 Ag cag Bg cbg _ 1 LA1.length LB1.length Mga.out Mgb.out (by omega) (by omega) hl1 hl2).mono ?_
  rintro e w30 ⟨rfl, hb30⟩
  have HY := hid_of (HY.out.under hb30 HY.out.lt')
  have HZ := hid_of (HZ.out.under hb30 HZ.out.lt')
  have X6 := hid_of (X6.out.under hb30 X6.out.lt')
  have X9 := hid_of (X9.out.under hb30 X9.out.lt')
  have X10 := hid_of (X10.out.under hb30 X10.out.lt')
  have Iw := hid_of (Iw.out.below hb30)
  have Mga := hid_of (RngAt.below Mga.out hb30)
  have Mgb := hid_of (RngAt.below Mgb.out hb30)
  have BEL := BEL.trans (hb30.mono BEL.size)
  have hs30 := hb30.size
  clear hb30
  go_upto_region 27 with (fail)
  have inst : Nonempty (In (St w30 (w30.heap.size) (fun _ => True))) := ⟨⟨w30, Below.refl _ _, Nat.le_refl _, trivial⟩⟩
  have u0 := fun z : In (St w30 (w30.heap.size) (fun _ => True)) => (HZ.out.under z.h.b HZ.out.lt').1.1
  have u1 := fun z : In (St w30 (w30.heap.size) (fun _ => True)) => (HZ.out.under z.h.b HZ.out.lt').1.2.1
  have u2 := fun z : In (St w30 (w30.heap.size) (fun _ => True)) => (HZ.out.under z.h.b HZ.out.lt').1.2.2.1
  have u3 := fun z : In (St w30 (w30.heap.size) (fun _ => True)) => (HZ.out.under z.h.b HZ.out.lt').1.2.2.2.1
  have u4 := fun z : In (St w30 (w30.heap.size) (fun _ => True)) => (HZ.out.under z.h.b HZ.out.lt').1.2.2.2.2.1
  have u5 := fun z : In (St w30 (w30.heap.size) (fun _ => True)) => (HZ.out.under z.h.b HZ.out.lt').1.2.2.2.2.2
  have u6 := fun z : In (St w30 (w30.heap.size) (fun _ => True)) => (HY.out.under z.h.b HY.out.lt').1.1
  have u7 := fun z : In (St w30 (w30.heap.size) (fun _ => True)) => (HY.out.under z.h.b HY.out.lt').1.2.1
  have u8 := fun z : In (St w30 (w30.heap.size) (fun _ => True)) => (HY.out.under z.h.b HY.out.lt').1.2.2
  refine wp_region_flt (St w30 (w30.heap.size) (fun _ => True)) [(⟨8, 14, .cells #[.string (⟨#[]⟩ : ByteArray), .bool false, .int .i64 0, .int .i64 0, .slice none 0 0, .slice none 0 0] 25, fun x b => ∃ d f l n A na ca B nb cb, Own6 x b d f l n A na ca B nb cb⟩ : Flt)] [([0, 2], 1), ([], 3), ([], 4)] [5, 6, 7] [([], 9)] [10] (by kernel_rfl) (by kernel_rfl) (floats_one ⟨_, rfl, rfl, rfl, fun e he => by simp at he, fun a w => by go_simp⟩ (fun w => ⟨_, _, _, _, _, _, _, _, _, _, Own6.newT w _⟩) (fun w w' b _ e ⟨x1, x2, x3, x4, x5, x6, x7, x8, x9, x10, h⟩ => ⟨x1, x2, x3, x4, x5, x6, x7, x8, x9, x10, h.of_block e⟩)) (St.grows (Nat.le_refl _) (fun _ hg => (by cases hg)) (fun _ _ _ => trivial)) (St.base _) ?_
  simp only [SeqF, opsAt, List.filterMap_cons, List.filterMap_nil, List.getElem?_cons_zero, List.getElem?_cons_succ]
  repeat (quiet_step (fail))
  refine wpQuiet_nil ?_
  refine ⟨_, rfl, rfl, turnsB_step fun Z w31 h1 hZ => ?_⟩
  clear inst u0 u1 u2 u3 u4 u5 u6 u7 u8
  have hB1 := h1.b
  have hs31 := h1.s
  have BEL1 := BEL.trans (hB1.mono BEL.size)
  go_simp
  with_reducible refine (toSend_any d f l n LA LB A ca B cb _ (hA.below BEL1) (hB.below BEL1) hLA hLB).mono ?_
  rintro e w32 ⟨⟨_, rfl, Ay, cay, By, cby, rfl, hI, hJ, hap⟩, hb32⟩
  have hs32 := hb32.size
  have Iy := hid_of (InSd.of_got hI hJ hap)
  clear hI hJ hap
  have HC : St w30 (w32.heap.size) (fun y => InSd y w31.heap.size w32.heap.size Ay cay By cby LA LB) w32 := ⟨hB1.trans (hb32.mono hB1.size), Nat.le_refl _, Iy.out⟩
  refine hZ (St w30 (w32.heap.size) (fun y => InSd y w31.heap.size w32.heap.size Ay cay By cby LA LB)) _ _ hb32 HC (St.sub (by omega) (fun _ _ => trivial)) ⟨St.grows (by omega) (fun g hg => by simp only [List.mem_cons, List.not_mem_nil, or_false] at hg; rcases hg with rfl <;> (dsimp only; omega)) (fun _ o hy => hy.alloc o), ?_⟩
  clear hZ Z h1 hB1 BEL1 hb32
  refine wpQuiet_nil ?_
  refine ⟨_, rfl, rfl, turnsB_step fun Z w33 h1 hZ => ?_⟩
  have hB1 := h1.b
  have hs33 := h1.s
  have Iy := hid_of h1.f
  have BEL1 := BEL.trans (hB1.mono BEL.size)
  go_simp
  with_reducible refine (toPart_any o dp fp _).mono ?_
  rintro e w34 ⟨rfl, hb34⟩
  have hs34 := hb34.size
  have Iy := hid_of (Iy.out.below hb34)
  have HC : St w30 (w34.heap.size) (fun y => InSd y w31.heap.size w32.heap.size Ay cay By cby LA LB) w34 := ⟨hB1.trans (hb34.mono hB1.size), Nat.le_refl _, Iy.out⟩
  refine hZ (St w30 (w34.heap.size) (fun y => InSd y w31.heap.size w32.heap.size Ay cay By cby LA LB)) _ _ hb34 HC (St.sub (by omega) (fun _ hy => hy)) ⟨St.grows (by omega) (fun g hg => by simp only [List.mem_cons, List.not_mem_nil, or_false] at hg; rcases hg with rfl | rfl <;> (dsimp only; omega)) (fun _ o hy => hy.alloc o), ?_⟩
  clear hZ Z h1 hB1 BEL1 hb34
  refine wpQuiet_nil ?_
  refine ⟨_, rfl, rfl, turnsB_step fun Z w35 h1 hZ => ?_⟩
  have hB1 := h1.b
  have hs35 := h1.s
  have Iy := hid_of h1.f
  have BEL1 := BEL.trans (hB1.mono BEL.size)
  go_simp
  with_reducible refine (sloss_i d f l n LA LB Ay cay By cby o dp fp _ Iy.out.a.reads Iy.out.b.reads (fun e => Iy.out.a.none_cap e) (fun e => Iy.out.b.none_cap e) (by omega) (by omega) hdp).mono ?_
  rw [HR.out]
  rintro e w36 ⟨⟨_, rfl, Ah, cah, Bh, cbh, rfl, hI, hJ, hap⟩, hb36⟩
  dsimp only at hI hJ hap
  have hs36 := hb36.size
  have Iy := hid_of (Iy.out.below hb36)
  have Ih := hid_of (InSd.of_got hI hJ hap)
  clear hI hJ hap
  have HC : St w30 (w36.heap.size) (fun y => InSd y w31.heap.size w32.heap.size Ay cay By cby LA LB ∧ InSd y w35.heap.size w36.heap.size Ah cah Bh cbh LA1 LB1) w36 := ⟨hB1.trans (hb36.mono hB1.size), Nat.le_refl _, ⟨Iy.out, Ih.out⟩⟩
  refine hZ (St w30 (w36.heap.size) (fun y => InSd y w31.heap.size w32.heap.size Ay cay By cby LA LB ∧ InSd y w35.heap.size w36.heap.size Ah cah Bh cbh LA1 LB1)) _ _ hb36 HC (St.sub (by omega) (fun _ hy => hy.1)) ⟨St.grows (by omega) (fun g hg => by simp only [List.mem_cons, List.not_mem_nil, or_false] at hg; rcases hg with rfl | rfl | rfl <;> (dsimp only; omega)) (fun _ o hy => ⟨hy.1.alloc o, hy.2.alloc o⟩), ?_⟩
  clear hZ Z h1 hB1 BEL1 hb36
  have inst : Nonempty (In (St w30 (w36.heap.size) (fun y => InSd y w31.heap.size w32.heap.size Ay cay By cby LA LB ∧ InSd y w35.heap.size w36.heap.size Ah cah Bh cbh LA1 LB1))) := ⟨⟨w36, HC⟩⟩
  repeat (quiet_step (fail))
  refine wpQuiet_nil ?_
  clear inst
  refine flt_one (R := fun c a => Seq _ _ _ _ _ c a) fun bh hbl hbg hne => ?_
  simp only [Seq, opsAt, List.filterMap_cons, List.filterMap_nil, List.getElem?_cons_zero, List.getElem?_cons_succ]
  refine wpQuiet_nil ?_
  refine ⟨_, rfl, rfl, turns_step fun Z hZ w37 h3 => ?_⟩
  clear hne HC
  obtain ⟨h3, hlt3, _, _, _, _, _, _, _, _, _, _, hO3⟩ := h3
  have HO3 := hid_of hO3
  have hB3 := h3.b
  have hs37 := h3.s
  have Iy := hid_of h3.f.1
  have Ih := hid_of h3.f.2
  obtain ⟨⟨r0, r1, r2, r3, r4, r5⟩, rf⟩ := hO3
  go_simp
  generalize hW : World.setCell (World.setCell (World.setCell (World.setCell (World.setCell (World.setCell w37 _ _) _ _) _ _) _ _) _ _) _ _ = w38
  have ht : Touch w37 w38 bh (bh + 1) := by rw [← hW]; exact touch6 _ _ _ _ _ _ _ _
  have hX : Own6 w38 bh d1 f1 l1 n1 Ah LA1.length cah Bh LB1.length cbh := by rw [← hW]; exact HO3.out.setAll _ _ _ _ _ _ _ _ _ _
  clear hW r0 r1 r2 r3 r4 r5 rf HO3
  have HX := hid_of hX
  clear hX
  have hg0 := hbg (w35.heap.size, w36.heap.size) (by simp)
  dsimp only at hg0
  have hg1 := hbg (w31.heap.size, w32.heap.size) (by simp)
  dsimp only at hg1
  have hB4 : Below w30.heap.size w30 w38 := below_touch hB3 ht hbl hB3.size
  have Iy := hid_of (Iy.out.touch ht (by omega))
  have Ih := hid_of (Ih.out.touch ht (by omega))
  have hs38 := ht.size
  refine hZ (fun y => y = w38) _ _ rfl (fun y e => by rw [e]; exact ⟨⟨hB4, Nat.le_trans h3.s ht.size, ⟨Iy.out, Ih.out⟩⟩, Nat.lt_of_lt_of_le hlt3 ht.size, _, _, _, _, _, _, _, _, _, _, HX.out⟩) ?_
  have hlt4 := Nat.lt_of_lt_of_le hlt3 ht.size
  clear hZ Z h3 hB3 ht hbg
  have inst : Nonempty (In (fun y => y = w38)) := ⟨⟨w38, rfl⟩⟩
  repeat (quiet_step (fail))
  refine wpQuiet_nil ?_
  refine seq_last (C := fun y => y = w38) fun w39 e5 => ?_
  subst e5
  clear inst
  have HY := hid_of (HY.out.under hB4 HY.out.lt')
  have HZ := hid_of (HZ.out.under hB4 HZ.out.lt')
  have X6 := hid_of (X6.out.under hB4 X6.out.lt')
  have X9 := hid_of (X9.out.under hB4 X9.out.lt')
  have X10 := hid_of (X10.out.under hB4 X10.out.lt')
  have Iw := hid_of (Iw.out.below hB4)
  have Mga := hid_of (RngAt.below Mga.out hB4)
  have Mgb := hid_of (RngAt.below Mgb.out hB4)
  have BEL := BEL.trans (hB4.mono BEL.size)
  have X16 := HX
  clear HX hB4 Iy
  obtain ⟨⟨cX160, cX161, cX162, cX163, cX164, cX165⟩, cX16f⟩ := X16.out
  obtain ⟨⟨cX60, cX61, cX62, cX63, cX64, cX65⟩, cX6f⟩ := X6.out
  go_wp2_with fail
  clear cX160 cX161 cX162 cX163 cX164 cX165 cX16f
  clear cX60 cX61 cX62 cX63 cX64 cX65 cX6f
  with_reducible refine (eqSend_any d1 f1 l1 n1 LA1 LB1 Ah cah Bh cbh Aw caw Bw cbw _ Ih.out.a.reads Ih.out.b.reads Iw.out.a.reads Iw.out.b.reads hl1 hl2).mono ?_
  rintro e w40 ⟨rfl, hb40⟩
  have HY := hid_of (HY.out.under hb40 HY.out.lt')
  have HZ := hid_of (HZ.out.under hb40 HZ.out.lt')
  have X6 := hid_of (X6.out.under hb40 X6.out.lt')
  have X9 := hid_of (X9.out.under hb40 X9.out.lt')
  have X10 := hid_of (X10.out.under hb40 X10.out.lt')
  have X16 := hid_of (X16.out.under hb40 X16.out.lt')
  have Iw := hid_of (Iw.out.below hb40)
  have Mga := hid_of (RngAt.below Mga.out hb40)
  have Mgb := hid_of (RngAt.below Mgb.out hb40)
  have Ih := hid_of (Ih.out.below hb40)
  have BEL := BEL.trans (hb40.mono BEL.size)
  have hs40 := hb40.size
  clear hb40
  obtain ⟨⟨cX100, cX101, cX102, cX103, cX104, cX105⟩, cX10f⟩ := X10.out
  go_wp2_with fail
  clear cX100 cX101 cX102 cX103 cX104 cX105 cX10f
  with_reducible refine (heldSend_any d1 f1 l1 n1 Ag cag Bg cbg _ 1 LA1.length LB1.length Mga.out Mgb.out (by omega) (by omega) hl1 hl2).mono ?_
  rintro e w41 ⟨rfl, hb41⟩
  have HY := hid_of (HY.out.under hb41 HY.out.lt')
  have HZ := hid_of (HZ.out.under hb41 HZ.out.lt')
  have X6 := hid_of (X6.out.under hb41 X6.out.lt')
  have X9 := hid_of (X9.out.under hb41 X9.out.lt')
  have X10 := hid_of (X10.out.under hb41 X10.out.lt')
  have X16 := hid_of (X16.out.under hb41 X16.out.lt')
  have Iw := hid_of (Iw.out.below hb41)
  have Mga := hid_of (RngAt.below Mga.out hb41)
  have Mgb := hid_of (RngAt.below Mgb.out hb41)
  have Ih := hid_of (Ih.out.below hb41)
  have BEL := BEL.trans (hb41.mono BEL.size)
  have hs41 := hb41.size
  clear hb41
  go_wp2_with fail
  go_ret
  exact ⟨rfl, BEL⟩

end Go.Proofs.Ytmkmaeblnnfheab
