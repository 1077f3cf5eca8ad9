/- The walk of the law FnExactSendNext: the program's and the reference's function return the same, so the law answers true. -/
import Derived.Test.YtmkmaeblnnfheaaSndZ
import Derived.Test.YtmkmaeblnnfheaaSndO
import Derived.Test.YtmkmaeblnnfheaaSendLen
import Derived.Test.YtmkmaeblnnfheaaPartX
import Derived.Test.YtmkmaeblnnfheaaSeq
import Derived.Deep.Cut
namespace Go.Proofs.Ytmkmaeblnnfheaa
open Go.RowKit
attribute [local irreducible] Go.wpQuiet

theorem InSd.of_got {w w' : World} {A : Option Addr} {ca : Nat} {B : Option Addr} {cb : Nat} {LA LB : List Rg} (h1 : RngIn w' w.heap.size w'.heap.size A LA.length ca LA) (h2 : RngIn w' w.heap.size w'.heap.size B LB.length cb LB) (h3 : Apart A LA.length B LB.length) : InSd w' w.heap.size w'.heap.size A ca B cb LA LB := ⟨h1, h2, h3⟩
theorem Own3.lt' {w : World} {b : Nat} {o : Int} {d : ByteArray} {f : Bool} (h : Own3 w b o d f) : b < w.heap.size := h.lt

set_option linter.unusedVariables false in
set_option maxRecDepth 100000 in
set_option maxHeartbeats 8000000 in
theorem walkFnExactSendNext (w : World) (d : ByteArray) (f : Bool) (l n : Int) (LA LB : List Rg) (A : Option Addr) (ca : Nat) (B : Option Addr) (cb : Nat) (md : d.size ≤ maxLen) (ma : LA.length ≤ maxLen) (mb : LB.length ≤ maxLen) (hA : RngAt w A LA.length LA) (hB : RngAt w B LB.length LB) (eA : A = none → ca = 0) (eB : B = none → cb = 0) (k : Int) :
    Calls Try.prog 10 #[.agg #[.string d, .bool f, .int .i64 l, .int .i64 n, .slice A LA.length ca, .slice B LB.length cb], .int .i64 k] w fun e w' => e = .returned (.bool true) ∧ Below w.heap.size w w' := by
  by_cases hbig : 1048576 < d.size + LA.length + LB.length
  · have z := Own6.newT (d := d) (f := f) (l := l) (n := n) (A := A) (na := LA.length) (ca := ca) (B := B) (nb := LB.length) (cb := cb) w 50
    obtain ⟨⟨z0, z1, z2, z3, z4, z5⟩, zf⟩ := z
    go_enter Try.func10, Try.ntmps10
    go_wp2_with ((go_at_call 34; (with_reducible refine (szSend_big d f l n LA LB A ca B cb _ md ma mb hbig).mono ?_); rintro e w1 ⟨rfl, hb1⟩))
    go_ret
    exact ⟨rfl, Below.trans (ba (Below.refl _ w) _) (hb1.mono (by simp))⟩
  have hsm : d.size + LA.length + LB.length ≤ 1048576 := by omega
  have hLA : LA.length ≤ 1048576 := by omega
  have hLB : LB.length ≤ 1048576 := by omega
  clear md ma mb hbig
  have BEL : Below w.heap.size w w := Below.refl _ _
  obtain ⟨⟨⟨d1, f1, l1, n1, LA1, LB1⟩, ⟨o2, d2, f2⟩, b1⟩, hr⟩ : ∃ x, sendNext ⟨d, f, l, n, LA, LB⟩ k = x := ⟨_, rfl⟩
  have hlen : LA1.length ≤ 2000000 ∧ LB1.length ≤ 2000000 := by have := sendNext_len ⟨d, f, l, n, LA, LB⟩ k; rw [hr] at this; exact ⟨by have := this.1; dsimp only at this; omega, by have := this.2; dsimp only at this; omega⟩
  obtain ⟨hl1, hl2⟩ := hlen
  have HR := hid_of hr
  clear hr
  go_enter Try.func10, Try.ntmps10
  go_upto_region 1 with (fail)
  generalize hW : World.alloc w _ = w0
  have HZ : Hid (Own6 w0 w.heap.size d f l n A LA.length ca B LB.length cb) := by rw [← hW]; exact hid_of (Own6.newT w _)
  have BEL : Below w.heap.size w w0 := by rw [← hW]; exact ba BEL _
  have hs0 : w.heap.size < w0.heap.size := by rw [← hW]; simp
  clear hW
  obtain ⟨⟨cHZ0, cHZ1, cHZ2, cHZ3, cHZ4, cHZ5⟩, cHZf⟩ := HZ.out
  go_wp2_with fail
  clear cHZ0 cHZ1 cHZ2 cHZ3 cHZ4 cHZ5 cHZf
  with_reducible refine (szSend_ok d f l n LA LB A ca B cb _ hsm).mono ?_
  rintro e w1 ⟨rfl, hb1⟩
  have HZ := hid_of (HZ.out.under hb1 HZ.out.lt')
  have BEL := BEL.trans (hb1.mono BEL.size)
  have hs1 := hb1.size
  clear hb1
  obtain ⟨⟨cHZ0, cHZ1, cHZ2, cHZ3, cHZ4, cHZ5⟩, cHZf⟩ := HZ.out
  go_wp2_with fail
  clear cHZ0 cHZ1 cHZ2 cHZ3 cHZ4 cHZ5 cHZf
  with_reducible refine (toSend_any d f l n LA LB A ca B cb _ (hA.below BEL) (hB.below BEL) hLA hLB).mono ?_
  rintro e w2 ⟨⟨_, rfl, As, cas, Bs, cbs, rfl, hI, hJ, hap⟩, hb2⟩
  have HZ := hid_of (HZ.out.under hb2 HZ.out.lt')
  have BEL := BEL.trans (hb2.mono BEL.size)
  have Is := hid_of (InSd.of_got hI hJ hap)
  clear hI hJ hap
  have hs2 := hb2.size
  clear hb2
  go_wp2_with fail
  with_reducible refine (snext_s d f l n LA LB As cas Bs cbs k _ Is.out.a.reads Is.out.b.reads (fun e => Is.out.a.none_cap e) (fun e => Is.out.b.none_cap e) (by omega) (by omega)).mono ?_
  rw [HR.out]
  rintro e w3 ⟨⟨_, rfl, Aw, caw, Bw, cbw, rfl, hI, hJ, hap⟩, hb3⟩
  dsimp only at hI hJ hap
  have HZ := hid_of (HZ.out.under hb3 HZ.out.lt')
  have Is := hid_of (Is.out.below hb3)
  have BEL := BEL.trans (hb3.mono BEL.size)
  have Iw := hid_of (InSd.of_got hI hJ hap)
  clear hI hJ hap
  have hs3 := hb3.size
  clear hb3
  clear Is
  go_upto_region 6 with (fail)
  generalize hW : World.alloc (World.alloc w3 _) _ = w4
  have hb : Below w3.heap.size w3 w4 := by rw [← hW]; exact ba (ba (Below.refl _ _) _) _
  have HZ := hid_of (HZ.out.under hb HZ.out.lt')
  have Iw := hid_of (Iw.out.below hb)
  have BEL := BEL.trans (hb.mono BEL.size)
  have X6 : Hid (Own6 w4 w3.heap.size d1 f1 l1 n1 Aw LA1.length caw Bw LB1.length cbw) := by rw [← hW]; exact hid_of ((Own6.newT _ _).alloc _)
  have X7 : Hid (Own3 w4 (w3.heap.size + 1) o2 d2 f2) := by rw [← hW]; exact hid_of (by have := Own3.newT (o := o2) (d := d2) (f := f2) (w3.alloc (.cells #[.string d1, .bool f1, .int .i64 l1, .int .i64 n1, .slice Aw LA1.length caw, .slice Bw LB1.length cbw] 25)) 27; simpa using this)
  have hs4 : w3.heap.size + 1 < w4.heap.size := by rw [← hW]; simp
  clear hW hb
  obtain ⟨⟨cHZ0, cHZ1, cHZ2, cHZ3, cHZ4, cHZ5⟩, cHZf⟩ := HZ.out
  go_wp2_with fail
  clear cHZ0 cHZ1 cHZ2 cHZ3 cHZ4 cHZ5 cHZf
  with_reducible refine (toSend_any d f l n LA LB A ca B cb _ (hA.below BEL) (hB.below BEL) hLA hLB).mono ?_
  rintro e w5 ⟨⟨_, rfl, Ax, cax, Bx, cbx, rfl, hI, hJ, hap⟩, hb5⟩
  have HZ := hid_of (HZ.out.under hb5 HZ.out.lt')
  have X6 := hid_of (X6.out.under hb5 X6.out.lt')
  have X7 := hid_of (X7.out.under hb5 X7.out.lt')
  have Iw := hid_of (Iw.out.below hb5)
  have BEL := BEL.trans (hb5.mono BEL.size)
  have Ix := hid_of (InSd.of_got hI hJ hap)
  clear hI hJ hap
  have hs5 := hb5.size
  clear hb5
  go_upto_region 7 with (fail)
  generalize hW : World.alloc w5 _ = w6
  have hb : Below w5.heap.size w5 w6 := by rw [← hW]; exact ba (Below.refl _ _) _
  have HZ := hid_of (HZ.out.under hb HZ.out.lt')
  have X6 := hid_of (X6.out.under hb X6.out.lt')
  have X7 := hid_of (X7.out.under hb X7.out.lt')
  have Iw := hid_of (Iw.out.below hb)
  have Ix := hid_of (Ix.out.below hb)
  have BEL := BEL.trans (hb.mono BEL.size)
  have X9 : Hid (Own6 w6 w5.heap.size d f l n Ax LA.length cax Bx LB.length cbx) := by rw [← hW]; exact hid_of (Own6.newT _ _)
  have hs6 : w5.heap.size < w6.heap.size := by rw [← hW]; simp
  clear hW hb
  obtain ⟨⟨cX90, cX91, cX92, cX93, cX94, cX95⟩, cX9f⟩ := X9.out
  go_wp2_with fail
  clear cX90 cX91 cX92 cX93 cX94 cX95 cX9f
  with_reducible refine (snext_i d f l n LA LB Ax cax Bx cbx k _ Ix.out.a.reads Ix.out.b.reads (fun e => Ix.out.a.none_cap e) (fun e => Ix.out.b.none_cap e) (by omega) (by omega)).mono ?_
  rw [HR.out]
  rintro e w7 ⟨⟨_, rfl, Ag, cag, Bg, cbg, rfl, hI, hJ, hap⟩, hb7⟩
  dsimp only at hI hJ hap
  have HZ := hid_of (HZ.out.under hb7 HZ.out.lt')
  have X6 := hid_of (X6.out.under hb7 X6.out.lt')
  have X7 := hid_of (X7.out.under hb7 X7.out.lt')
  have X9 := hid_of (X9.out.under hb7 X9.out.lt')
  have Iw := hid_of (Iw.out.below hb7)
  have Ix := hid_of (Ix.out.below hb7)
  have BEL := BEL.trans (hb7.mono BEL.size)
  have Ig := hid_of (InSd.of_got hI hJ hap)
  clear hI hJ hap
  have hs7 := hb7.size
  clear hb7
  go_upto_region 8 with (fail)
  generalize hW : World.alloc (World.alloc w7 _) _ = w8
  have hb : Below w7.heap.size w7 w8 := by rw [← hW]; exact ba (ba (Below.refl _ _) _) _
  have HZ := hid_of (HZ.out.under hb HZ.out.lt')
  have X6 := hid_of (X6.out.under hb X6.out.lt')
  have X7 := hid_of (X7.out.under hb X7.out.lt')
  have X9 := hid_of (X9.out.under hb X9.out.lt')
  have Iw := hid_of (Iw.out.below hb)
  have Ix := hid_of (Ix.out.below hb)
  have Ig := hid_of (Ig.out.below hb)
  have BEL := BEL.trans (hb.mono BEL.size)
  have X10 : Hid (Own6 w8 w7.heap.size d1 f1 l1 n1 Ag LA1.length cag Bg LB1.length cbg) := by rw [← hW]; exact hid_of ((Own6.newT _ _).alloc _)
  have X11 : Hid (Own3 w8 (w7.heap.size + 1) o2 d2 f2) := by rw [← hW]; exact hid_of (by have := Own3.newT (o := o2) (d := d2) (f := f2) (w7.alloc (.cells #[.string d1, .bool f1, .int .i64 l1, .int .i64 n1, .slice Ag LA1.length cag, .slice Bg LB1.length cbg] 25)) 27; simpa using this)
  have hs8 : w7.heap.size + 1 < w8.heap.size := by rw [← hW]; simp
  clear hW hb
  obtain ⟨⟨cX100, cX101, cX102, cX103, cX104, cX105⟩, cX10f⟩ := X10.out
  obtain ⟨⟨cX60, cX61, cX62, cX63, cX64, cX65⟩, cX6f⟩ := X6.out
  go_wp2_with fail
  clear cX100 cX101 cX102 cX103 cX104 cX105 cX10f
  clear cX60 cX61 cX62 cX63 cX64 cX65 cX6f
  with_reducible refine (eqSend_any d1 f1 l1 n1 LA1 LB1 Ag cag Bg cbg Aw caw Bw cbw _ Ig.out.a.reads Ig.out.b.reads Iw.out.a.reads Iw.out.b.reads hl1 hl2).mono ?_
  rintro e w9 ⟨rfl, hb9⟩
  have HZ := hid_of (HZ.out.under hb9 HZ.out.lt')
  have X6 := hid_of (X6.out.under hb9 X6.out.lt')
  have X7 := hid_of (X7.out.under hb9 X7.out.lt')
  have X9 := hid_of (X9.out.under hb9 X9.out.lt')
  have X10 := hid_of (X10.out.under hb9 X10.out.lt')
  have X11 := hid_of (X11.out.under hb9 X11.out.lt')
  have Iw := hid_of (Iw.out.below hb9)
  have Ix := hid_of (Ix.out.below hb9)
  have Ig := hid_of (Ig.out.below hb9)
  have BEL := BEL.trans (hb9.mono BEL.size)
  have hs9 := hb9.size
  clear hb9
  obtain ⟨⟨cX110, cX111, cX112⟩, cX11f⟩ := X11.out
  obtain ⟨⟨cX70, cX71, cX72⟩, cX7f⟩ := X7.out
  go_wp2_with fail
  clear cX110 cX111 cX112 cX11f
  clear cX70 cX71 cX72 cX7f
  with_reducible refine (eqPart_any o2 d2 f2 _).mono ?_
  rintro e w10 ⟨rfl, hb10⟩
  have HZ := hid_of (HZ.out.under hb10 HZ.out.lt')
  have X6 := hid_of (X6.out.under hb10 X6.out.lt')
  have X7 := hid_of (X7.out.under hb10 X7.out.lt')
  have X9 := hid_of (X9.out.under hb10 X9.out.lt')
  have X10 := hid_of (X10.out.under hb10 X10.out.lt')
  have X11 := hid_of (X11.out.under hb10 X11.out.lt')
  have Iw := hid_of (Iw.out.below hb10)
  have Ix := hid_of (Ix.out.below hb10)
  have Ig := hid_of (Ig.out.below hb10)
  have BEL := BEL.trans (hb10.mono BEL.size)
  have hs10 := hb10.size
  clear hb10
  go_upto_region 10 with (fail)
  have inst : Nonempty (In (Below w10.heap.size w10)) := ⟨⟨w10, Below.refl _ _⟩⟩
  have u0 := fun y : In (Below w10.heap.size w10) => (X9.out.under y.h X9.out.lt').1.1
  have u1 := fun y : In (Below w10.heap.size w10) => (X9.out.under y.h X9.out.lt').1.2.1
  have u2 := fun y : In (Below w10.heap.size w10) => (X9.out.under y.h X9.out.lt').1.2.2.1
  have u3 := fun y : In (Below w10.heap.size w10) => (X9.out.under y.h X9.out.lt').1.2.2.2.1
  have u4 := fun y : In (Below w10.heap.size w10) => (X9.out.under y.h X9.out.lt').1.2.2.2.2.1
  have u5 := fun y : In (Below w10.heap.size w10) => (X9.out.under y.h X9.out.lt').1.2.2.2.2.2
  have v0 := fun y : In (Below w10.heap.size w10) => (HZ.out.under y.h HZ.out.lt').1.1
  have v1 := fun y : In (Below w10.heap.size w10) => (HZ.out.under y.h HZ.out.lt').1.2.1
  have v2 := fun y : In (Below w10.heap.size w10) => (HZ.out.under y.h HZ.out.lt').1.2.2.1
  have v3 := fun y : In (Below w10.heap.size w10) => (HZ.out.under y.h HZ.out.lt').1.2.2.2.1
  have v4 := fun y : In (Below w10.heap.size w10) => (HZ.out.under y.h HZ.out.lt').1.2.2.2.2.1
  have v5 := fun y : In (Below w10.heap.size w10) => (HZ.out.under y.h HZ.out.lt').1.2.2.2.2.2
  refine wp_region_cls (Below w10.heap.size w10) [([0, 1], 2), ([], 3)] [4] (by kernel_rfl) (by kernel_rfl) (fun m => ⟨rfl, rfl, rfl, Nat.le_refl _, fun _ _ => rfl⟩) ?_
  simp only [Seq, opsAt, List.filterMap_cons, List.filterMap_nil, List.getElem?_cons_zero, List.getElem?_cons_succ]
  repeat (quiet_step (fail))
  refine wpQuiet_nil ?_
  refine ⟨_, rfl, rfl, turns_step fun Z hZ w11 hb11 => ?_⟩
  clear inst u0 u1 u2 u3 u4 u5 v0 v1 v2 v3 v4 v5
  have HZ := hid_of (HZ.out.under hb11 HZ.out.lt')
  have X6 := hid_of (X6.out.under hb11 X6.out.lt')
  have X7 := hid_of (X7.out.under hb11 X7.out.lt')
  have X9 := hid_of (X9.out.under hb11 X9.out.lt')
  have X10 := hid_of (X10.out.under hb11 X10.out.lt')
  have X11 := hid_of (X11.out.under hb11 X11.out.lt')
  have Iw := hid_of (Iw.out.below hb11)
  have Ix := hid_of (Ix.out.below hb11)
  have Ig := hid_of (Ig.out.below hb11)
  have BEL := BEL.trans (hb11.mono BEL.size)
  have hs11 := hb11.size
  go_simp
  with_reducible refine (toSend_any d f l n LA LB A ca B cb _ (hA.below BEL) (hB.below BEL) hLA hLB).mono ?_
  rintro e w12 ⟨⟨_, rfl, Ay, cay, By, cby, rfl, hI, hJ, hap⟩, hb12⟩
  have HZ := hid_of (HZ.out.under hb12 HZ.out.lt')
  have X6 := hid_of (X6.out.under hb12 X6.out.lt')
  have X7 := hid_of (X7.out.under hb12 X7.out.lt')
  have X9 := hid_of (X9.out.under hb12 X9.out.lt')
  have X10 := hid_of (X10.out.under hb12 X10.out.lt')
  have X11 := hid_of (X11.out.under hb12 X11.out.lt')
  have Iw := hid_of (Iw.out.below hb12)
  have Ix := hid_of (Ix.out.below hb12)
  have Ig := hid_of (Ig.out.below hb12)
  have BEL := BEL.trans (hb12.mono BEL.size)
  have Iy := hid_of (InSd.of_got hI hJ hap)
  clear hI hJ hap
  have hs12 := hb12.size
  refine hZ (Below w12.heap.size w12) _ _ (Below.refl _ _) (fun y hy => hb11.trans ((hb12.trans (hy.mono hb12.size)).mono hb11.size)) ?_
  clear hZ Z hb11 hb12
  refine wpQuiet_nil ?_
  refine ⟨_, rfl, rfl, turns_step fun Z hZ w13 hb13 => ?_⟩
  have HZ := hid_of (HZ.out.under hb13 HZ.out.lt')
  have X6 := hid_of (X6.out.under hb13 X6.out.lt')
  have X7 := hid_of (X7.out.under hb13 X7.out.lt')
  have X9 := hid_of (X9.out.under hb13 X9.out.lt')
  have X10 := hid_of (X10.out.under hb13 X10.out.lt')
  have X11 := hid_of (X11.out.under hb13 X11.out.lt')
  have Iw := hid_of (Iw.out.below hb13)
  have Ix := hid_of (Ix.out.below hb13)
  have Ig := hid_of (Ig.out.below hb13)
  have Iy := hid_of (Iy.out.below hb13)
  have BEL := BEL.trans (hb13.mono BEL.size)
  have hs13 := hb13.size
  go_simp
  with_reducible refine (eqSend_any d f l n LA LB Ax cax Bx cbx Ay cay By cby _ Ix.out.a.reads Ix.out.b.reads Iy.out.a.reads Iy.out.b.reads (by omega) (by omega)).mono ?_
  rintro e w14 ⟨rfl, hb14⟩
  have HZ := hid_of (HZ.out.under hb14 HZ.out.lt')
  have X6 := hid_of (X6.out.under hb14 X6.out.lt')
  have X7 := hid_of (X7.out.under hb14 X7.out.lt')
  have X9 := hid_of (X9.out.under hb14 X9.out.lt')
  have X10 := hid_of (X10.out.under hb14 X10.out.lt')
  have X11 := hid_of (X11.out.under hb14 X11.out.lt')
  have Iw := hid_of (Iw.out.below hb14)
  have Ix := hid_of (Ix.out.below hb14)
  have Ig := hid_of (Ig.out.below hb14)
  have Iy := hid_of (Iy.out.below hb14)
  have BEL := BEL.trans (hb14.mono BEL.size)
  have hs14 := hb14.size
  refine hZ (Below w14.heap.size w14) _ _ (Below.refl _ _) (fun y hy => hb13.trans ((hb14.trans (hy.mono hb14.size)).mono hb13.size)) ?_
  clear hZ Z hb13 hb14
  have inst : Nonempty (In (Below w14.heap.size w14)) := ⟨⟨w14, Below.refl _ _⟩⟩
  repeat (quiet_step (fail))
  refine wpQuiet_nil ?_
  refine seq_last (C := Below w14.heap.size w14) fun w15 hb15 => ?_
  clear inst
  have HZ := hid_of (HZ.out.under hb15 HZ.out.lt')
  have X6 := hid_of (X6.out.under hb15 X6.out.lt')
  have X7 := hid_of (X7.out.under hb15 X7.out.lt')
  have X9 := hid_of (X9.out.under hb15 X9.out.lt')
  have X10 := hid_of (X10.out.under hb15 X10.out.lt')
  have X11 := hid_of (X11.out.under hb15 X11.out.lt')
  have Iw := hid_of (Iw.out.below hb15)
  have Ix := hid_of (Ix.out.below hb15)
  have Ig := hid_of (Ig.out.below hb15)
  have Iy := hid_of (Iy.out.below hb15)
  have BEL := BEL.trans (hb15.mono BEL.size)
  have hs15 := hb15.size
  clear hb15
  clear Iy
  obtain ⟨⟨cX90, cX91, cX92, cX93, cX94, cX95⟩, cX9f⟩ := X9.out
  go_wp2_with fail
  clear cX90 cX91 cX92 cX93 cX94 cX95 cX9f

  with_reducible refine (markSend_any d f l n LA LB Ax cax Bx cbx _ 1 Ix.out (by omega) (by omega) (by omega) (by omega) (by omega)).mono ?_
  rintro e w16 ⟨rfl, hma, hmb, ht⟩
  have HZ := hid_of (HZ.out.touch ht (by omega))
  have X6 := hid_of (X6.out.touch ht (by omega))
  have X7 := hid_of (X7.out.touch ht (by omega))
  have X9 := hid_of (X9.out.touch ht (by omega))
  have X10 := hid_of (X10.out.touch ht (by omega))
  have X11 := hid_of (X11.out.touch ht (by omega))
  have Iw := hid_of (Iw.out.touch ht (by omega))
  have Ig := hid_of (Ig.out.touch ht (by omega))
  have BEL := below_touch BEL ht (by omega) (by omega)
  have Mxa := hid_of hma
  have Mxb := hid_of hmb
  clear hma hmb Ix
  have hs16 := ht.size
  clear ht
  clear Mxa Mxb
  obtain ⟨⟨cX100, cX101, cX102, cX103, cX104, cX105⟩, cX10f⟩ := X10.out
  obtain ⟨⟨cX60, cX61, cX62, cX63, cX64, cX65⟩, cX6f⟩ := X6.out
  go_wp2_with fail
  clear cX100 cX101 cX102 cX103 cX104 cX105 cX10f
  clear cX60 cX61 cX62 cX63 cX64 cX65 cX6f
  with_reducible refine (eqSend_any d1 f1 l1 n1 LA1 LB1 Ag cag Bg cbg Aw caw Bw cbw _ Ig.out.a.reads Ig.out.b.reads Iw.out.a.reads Iw.out.b.reads hl1 hl2).mono ?_
  rintro e w17 ⟨rfl, hb17⟩
  have HZ := hid_of (HZ.out.under hb17 HZ.out.lt')
  have X6 := hid_of (X6.out.under hb17 X6.out.lt')
  have X7 := hid_of (X7.out.under hb17 X7.out.lt')
  have X9 := hid_of (X9.out.under hb17 X9.out.lt')
  have X10 := hid_of (X10.out.under hb17 X10.out.lt')
  have X11 := hid_of (X11.out.under hb17 X11.out.lt')
  have Iw := hid_of (Iw.out.below hb17)
  have Ig := hid_of (Ig.out.below hb17)
  have BEL := BEL.trans (hb17.mono BEL.size)
  have hs17 := hb17.size
  clear hb17
  obtain ⟨⟨cX110, cX111, cX112⟩, cX11f⟩ := X11.out
  obtain ⟨⟨cX70, cX71, cX72⟩, cX7f⟩ := X7.out
  go_wp2_with fail
  clear cX110 cX111 cX112 cX11f
  clear cX70 cX71 cX72 cX7f
  with_reducible refine (eqPart_any o2 d2 f2 _).mono ?_
  rintro e w18 ⟨rfl, hb18⟩
  have HZ := hid_of (HZ.out.under hb18 HZ.out.lt')
  have X6 := hid_of (X6.out.under hb18 X6.out.lt')
  have X7 := hid_of (X7.out.under hb18 X7.out.lt')
  have X9 := hid_of (X9.out.under hb18 X9.out.lt')
  have X10 := hid_of (X10.out.under hb18 X10.out.lt')
  have X11 := hid_of (X11.out.under hb18 X11.out.lt')
  have Iw := hid_of (Iw.out.below hb18)
  have Ig := hid_of (Ig.out.below hb18)
  have BEL := BEL.trans (hb18.mono BEL.size)
  have hs18 := hb18.size
  clear hb18
  obtain ⟨⟨cX100, cX101, cX102, cX103, cX104, cX105⟩, cX10f⟩ := X10.out
  go_wp2_with fail
  clear cX100 cX101 cX102 cX103 cX104 cX105 cX10f

  with_reducible refine (markSend_any d1 f1 l1 n1 LA1 LB1 Ag cag Bg cbg _ 1 Ig.out (by omega) (by omega) (by omega) (by omega) (by omega)).mono ?_
  rintro e w19 ⟨rfl, hma, hmb, ht⟩
  have HZ := hid_of (HZ.out.touch ht (by omega))
  have X6 := hid_of (X6.out.touch ht (by omega))
  have X7 := hid_of (X7.out.touch ht (by omega))
  have X9 := hid_of (X9.out.touch ht (by omega))
  have X10 := hid_of (X10.out.touch ht (by omega))
  have X11 := hid_of (X11.out.touch ht (by omega))
  have Iw := hid_of (Iw.out.touch ht (by omega))
  have BEL := below_touch BEL ht (by omega) (by omega)
  have Mga := hid_of hma
  have Mgb := hid_of hmb
  clear hma hmb Ig
  have hs19 := ht.size
  clear ht
  obtain ⟨⟨cX100, cX101, cX102, cX103, cX104, cX105⟩, cX10f⟩ := X10.out
  go_wp2_with fail
  clear cX100 cX101 cX102 cX103 cX104 cX105 cX10f
  with_reducible refine (heldSend_any d1 f1 l1 n1 Ag cag Bg cbg _ 1 LA1.length LB1.length Mga.out Mgb.out (by omega) (by omega) hl1 hl2).mono ?_
  rintro e w20 ⟨rfl, hb20⟩
  have HZ := hid_of (HZ.out.under hb20 HZ.out.lt')
  have X6 := hid_of (X6.out.under hb20 X6.out.lt')
  have X7 := hid_of (X7.out.under hb20 X7.out.lt')
  have X9 := hid_of (X9.out.under hb20 X9.out.lt')
  have X10 := hid_of (X10.out.under hb20 X10.out.lt')
  have X11 := hid_of (X11.out.under hb20 X11.out.lt')
  have Iw := hid_of (Iw.out.below hb20)
  have Mga := hid_of (RngAt.below Mga.out hb20)
  have Mgb := hid_of (RngAt.below Mgb.out hb20)
  have BEL := BEL.trans (hb20.mono BEL.size)
  have hs20 := hb20.size
  clear hb20
  obtain ⟨⟨cHZ0, cHZ1, cHZ2, cHZ3, cHZ4, cHZ5⟩, cHZf⟩ := HZ.out
  go_wp2_with fail
  clear cHZ0 cHZ1 cHZ2 cHZ3 cHZ4 cHZ5 cHZf
  with_reducible refine (toSend_any d f l n LA LB A ca B cb _ (hA.below BEL) (hB.below BEL) hLA hLB).mono ?_
  rintro e w21 ⟨⟨_, rfl, Az, caz, Bz, cbz, rfl, hI, hJ, hap⟩, hb21⟩
  have HZ := hid_of (HZ.out.under hb21 HZ.out.lt')
  have X6 := hid_of (X6.out.under hb21 X6.out.lt')
  have X7 := hid_of (X7.out.under hb21 X7.out.lt')
  have X9 := hid_of (X9.out.under hb21 X9.out.lt')
  have X10 := hid_of (X10.out.under hb21 X10.out.lt')
  have X11 := hid_of (X11.out.under hb21 X11.out.lt')
  have Iw := hid_of (Iw.out.below hb21)
  have Mga := hid_of (RngAt.below Mga.out hb21)
  have Mgb := hid_of (RngAt.below Mgb.out hb21)
  have BEL := BEL.trans (hb21.mono BEL.size)
  have Iz := hid_of (InSd.of_got hI hJ hap)
  clear hI hJ hap
  have hs21 := hb21.size
  clear hb21
  go_wp2_with fail
  with_reducible refine (snext_i d f l n LA LB Az caz Bz cbz k _ Iz.out.a.reads Iz.out.b.reads (fun e => Iz.out.a.none_cap e) (fun e => Iz.out.b.none_cap e) (by omega) (by omega)).mono ?_
  rw [HR.out]
  rintro e w22 ⟨⟨_, rfl, Ah, cah, Bh, cbh, rfl, hI, hJ, hap⟩, hb22⟩
  dsimp only at hI hJ hap
  have HZ := hid_of (HZ.out.under hb22 HZ.out.lt')
  have X6 := hid_of (X6.out.under hb22 X6.out.lt')
  have X7 := hid_of (X7.out.under hb22 X7.out.lt')
  have X9 := hid_of (X9.out.under hb22 X9.out.lt')
  have X10 := hid_of (X10.out.under hb22 X10.out.lt')
  have X11 := hid_of (X11.out.under hb22 X11.out.lt')
  have Iw := hid_of (Iw.out.below hb22)
  have Mga := hid_of (RngAt.below Mga.out hb22)
  have Mgb := hid_of (RngAt.below Mgb.out hb22)
  have Iz := hid_of (Iz.out.below hb22)
  have BEL := BEL.trans (hb22.mono BEL.size)
  have Ih := hid_of (InSd.of_got hI hJ hap)
  clear hI hJ hap
  have hs22 := hb22.size
  clear hb22
  go_upto_region 25 with (fail)
  generalize hW : World.alloc (World.alloc w22 _) _ = w23
  have hb : Below w22.heap.size w22 w23 := by rw [← hW]; exact ba (ba (Below.refl _ _) _) _
  have HZ := hid_of (HZ.out.under hb HZ.out.lt')
  have X6 := hid_of (X6.out.under hb X6.out.lt')
  have X7 := hid_of (X7.out.under hb X7.out.lt')
  have X9 := hid_of (X9.out.under hb X9.out.lt')
  have X10 := hid_of (X10.out.under hb X10.out.lt')
  have X11 := hid_of (X11.out.under hb X11.out.lt')
  have Iw := hid_of (Iw.out.below hb)
  have Mga := hid_of (RngAt.below Mga.out hb)
  have Mgb := hid_of (RngAt.below Mgb.out hb)
  have Iz := hid_of (Iz.out.below hb)
  have Ih := hid_of (Ih.out.below hb)
  have BEL := BEL.trans (hb.mono BEL.size)
  have X16 : Hid (Own6 w23 w22.heap.size d1 f1 l1 n1 Ah LA1.length cah Bh LB1.length cbh) := by rw [← hW]; exact hid_of ((Own6.newT _ _).alloc _)
  have X17 : Hid (Own3 w23 (w22.heap.size + 1) o2 d2 f2) := by rw [← hW]; exact hid_of (by have := Own3.newT (o := o2) (d := d2) (f := f2) (w22.alloc (.cells #[.string d1, .bool f1, .int .i64 l1, .int .i64 n1, .slice Ah LA1.length cah, .slice Bh LB1.length cbh] 25)) 27; simpa using this)
  have hs23 : w22.heap.size + 1 < w23.heap.size := by rw [← hW]; simp
  clear hW hb
  obtain ⟨⟨cX160, cX161, cX162, cX163, cX164, cX165⟩, cX16f⟩ := X16.out
  obtain ⟨⟨cX60, cX61, cX62, cX63, cX64, cX65⟩, cX6f⟩ := X6.out
  go_wp2_with fail
  clear cX160 cX161 cX162 cX163 cX164 cX165 cX16f
  clear cX60 cX61 cX62 cX63 cX64 cX65 cX6f
  with_reducible refine (eqSend_any d1 f1 l1 n1 LA1 LB1 Ah cah Bh cbh Aw caw Bw cbw _ Ih.out.a.reads Ih.out.b.reads Iw.out.a.reads Iw.out.b.reads hl1 hl2).mono ?_
  rintro e w24 ⟨rfl, hb24⟩
  have HZ := hid_of (HZ.out.under hb24 HZ.out.lt')
  have X6 := hid_of (X6.out.under hb24 X6.out.lt')
  have X7 := hid_of (X7.out.under hb24 X7.out.lt')
  have X9 := hid_of (X9.out.under hb24 X9.out.lt')
  have X10 := hid_of (X10.out.under hb24 X10.out.lt')
  have X11 := hid_of (X11.out.under hb24 X11.out.lt')
  have X16 := hid_of (X16.out.under hb24 X16.out.lt')
  have X17 := hid_of (X17.out.under hb24 X17.out.lt')
  have Iw := hid_of (Iw.out.below hb24)
  have Mga := hid_of (RngAt.below Mga.out hb24)
  have Mgb := hid_of (RngAt.below Mgb.out hb24)
  have Iz := hid_of (Iz.out.below hb24)
  have Ih := hid_of (Ih.out.below hb24)
  have BEL := BEL.trans (hb24.mono BEL.size)
  have hs24 := hb24.size
  clear hb24
  obtain ⟨⟨cX170, cX171, cX172⟩, cX17f⟩ := X17.out
  obtain ⟨⟨cX70, cX71, cX72⟩, cX7f⟩ := X7.out
  go_wp2_with fail
  clear cX170 cX171 cX172 cX17f
  clear cX70 cX71 cX72 cX7f
  with_reducible refine (eqPart_any o2 d2 f2 _).mono ?_
  rintro e w25 ⟨rfl, hb25⟩
  have HZ := hid_of (HZ.out.under hb25 HZ.out.lt')
  have X6 := hid_of (X6.out.under hb25 X6.out.lt')
  have X7 := hid_of (X7.out.under hb25 X7.out.lt')
  have X9 := hid_of (X9.out.under hb25 X9.out.lt')
  have X10 := hid_of (X10.out.under hb25 X10.out.lt')
  have X11 := hid_of (X11.out.under hb25 X11.out.lt')
  have X16 := hid_of (X16.out.under hb25 X16.out.lt')
  have X17 := hid_of (X17.out.under hb25 X17.out.lt')
  have Iw := hid_of (Iw.out.below hb25)
  have Mga := hid_of (RngAt.below Mga.out hb25)
  have Mgb := hid_of (RngAt.below Mgb.out hb25)
  have Iz := hid_of (Iz.out.below hb25)
  have Ih := hid_of (Ih.out.below hb25)
  have BEL := BEL.trans (hb25.mono BEL.size)
  have hs25 := hb25.size
  clear hb25
  obtain ⟨⟨cX100, cX101, cX102, cX103, cX104, cX105⟩, cX10f⟩ := X10.out
  go_wp2_with fail
  clear cX100 cX101 cX102 cX103 cX104 cX105 cX10f
  with_reducible refine (heldSend_any d1 f1 l1 n1 Ag cag Bg cbg _ 1 LA1.length LB1.length Mga.out Mgb.out (by omega) (by omega) hl1 hl2).mono ?_
  rintro e w26 ⟨rfl, hb26⟩
  have HZ := hid_of (HZ.out.under hb26 HZ.out.lt')
  have X6 := hid_of (X6.out.under hb26 X6.out.lt')
  have X7 := hid_of (X7.out.under hb26 X7.out.lt')
  have X9 := hid_of (X9.out.under hb26 X9.out.lt')
  have X10 := hid_of (X10.out.under hb26 X10.out.lt')
  have X11 := hid_of (X11.out.under hb26 X11.out.lt')
  have X16 := hid_of (X16.out.under hb26 X16.out.lt')
  have X17 := hid_of (X17.out.under hb26 X17.out.lt')
  have Iw := hid_of (Iw.out.below hb26)
  have Mga := hid_of (RngAt.below Mga.out hb26)
  have Mgb := hid_of (RngAt.below Mgb.out hb26)
  have Iz := hid_of (Iz.out.below hb26)
  have Ih := hid_of (Ih.out.below hb26)
  have BEL := BEL.trans (hb26.mono BEL.size)
  have hs26 := hb26.size
  clear hb26
  go_wp2_with fail
  go_ret
  exact ⟨rfl, BEL⟩

end Go.Proofs.Ytmkmaeblnnfheaa
