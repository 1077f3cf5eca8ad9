/- A stream is drawn: l92Send. -/
import Derived.Test.YtmkmaeblnnfheaaMg4
import Derived.Test.YtmkmaeblnnfheaaMg1
import Derived.Test.YtmkmaeblnnfheaaMg5
import Derived.Test.YtmkmaeblnnfheaaMg2
import Derived.Deep.Cut
namespace Go.Proofs.Ytmkmaeblnnfheaa
open Go.RowKit
attribute [local irreducible] Go.wpQuiet

/-- A stream and its sent parts were drawn. -/
def DrawnSd (w : World) (R rb n : Nat) (e : Ending) (w' : World) : Prop :=
  ∃ d f l n' LA LB A ca B cb P cp L, e = .returned (.tuple #[.agg #[.string d, .bool f, .int .i64 l, .int .i64 n', .slice A LA.length ca, .slice B LB.length cb], .slice P L.length cp]) ∧ Good ⟨d, f, l, n', LA, LB⟩ L ∧ L.length ≤ 12 ∧ Rd w' R rb (n + 100) ∧ w.grownBy w' (some rb) ∧
    RngIn w' w.heap.size w'.heap.size A LA.length ca LA ∧ RngIn w' w.heap.size w'.heap.size B LB.length cb LB ∧ Apart A ca B cb ∧ PrtIn w' w.heap.size w'.heap.size P L.length cp L
theorem InSd.of_got' {w w' : World} {A : Option Addr} {ca : Nat} {B : Option Addr} {cb : Nat} {LA LB : List Rg} (h1 : RngIn w' w.heap.size w'.heap.size A LA.length ca LA) (h2 : RngIn w' w.heap.size w'.heap.size B LB.length cb LB) (h3 : Apart A ca B cb) : InSd w' w.heap.size w'.heap.size A ca B cb LA LB := ⟨h1, h2, h3⟩
theorem Own3.far3 {w w' : World} {b rb : Nat} {o : Int} {d : ByteArray} {f : Bool} (h : Own3 w b o d f) (hg : w.grownBy w' (some rb)) (hne : b ≠ rb) : Own3 w' b o d f :=
  h.of_block (hg.block b h.lt (by intro e; injection e with e; exact hne e))
theorem SS.drawn {w wr : World} {H R rb m xb : Nat} {s : Sd} {A : Option Addr} {ca : Nat} {B : Option Addr} {cb : Nat} {P : Option Addr} {cp : Nat} {L : List Pt} (h : SS w wr H R rb m xb s A ca B cb P cp L) (j : Nat) : SS w { wr with drawn := j } H R rb m xb s A ca B cb P cp L :=
  ⟨h.rd, ⟨h.g.os, h.g.tape, h.g.output, h.g.size, h.g.block⟩, h.lt, h.le, h.xH, h.hH, h.x, h.a, h.b, h.ap, h.p⟩
theorem SS.pickN {w wr : World} {H R rb m xb : Nat} {s : Sd} {A : Option Addr} {ca : Nat} {B : Option Addr} {cb : Nat} {P : Option Addr} {cp : Nat} {L : List Pt} (h : SS w wr H R rb m xb s A ca B cb P cp L) (hm : m ≤ 1000000) (k : Nat) (hk : 1 ≤ k) (hk' : k ≤ 1000000) :
    Calls Try.prog 63 #[.pointer (some ⟨rb, 0, none⟩), .int .i64 (k : Int)] wr fun e w' => ∃ v : Nat, e = .returned (.int .i64 (v : Int)) ∧ v < k ∧ SS w w' H R rb (m + 1) xb s A ca B cb P cp L ∧ wr.grownBy w' (some rb) :=
  (h.pick hm (k : Int) (by omega) (by omega)).mono fun _ _ ⟨v, he, h0, h1, hs, hg⟩ => by
    obtain ⟨j, rfl⟩ := Int.eq_ofNat_of_zero_le h0
    exact ⟨j, he, by omega, hs, hg⟩
theorem SS.stores6 {w wr : World} {H R rb m xb : Nat} {s : Sd} {A : Option Addr} {ca : Nat} {B : Option Addr} {cb : Nat} {P : Option Addr} {cp : Nat} {L : List Pt} (h : SS w wr H R rb m xb s A ca B cb P cp L) {b : Nat} (hb : H ≤ b) (v0 v1 v2 v3 v4 v5 : Value) :
    SS w ((((((wr.setCell ⟨b, 0, none⟩ v0).setCell ⟨b, 1, none⟩ v1).setCell ⟨b, 2, none⟩ v2).setCell ⟨b, 3, none⟩ v3).setCell ⟨b, 4, none⟩ v4).setCell ⟨b, 5, none⟩ v5) H R rb m xb s A ca B cb P cp L := by
  repeat refine SS.storeHi ?_ (by dsimp only; omega) _
  exact h
theorem SS.stores3 {w wr : World} {H R rb m xb : Nat} {s : Sd} {A : Option Addr} {ca : Nat} {B : Option Addr} {cb : Nat} {P : Option Addr} {cp : Nat} {L : List Pt} (h : SS w wr H R rb m xb s A ca B cb P cp L) {b : Nat} (hb : H ≤ b) (v0 v1 v2 : Value) :
    SS w (((wr.setCell ⟨b, 0, none⟩ v0).setCell ⟨b, 1, none⟩ v1).setCell ⟨b, 2, none⟩ v2) H R rb m xb s A ca B cb P cp L := by
  repeat refine SS.storeHi ?_ (by dsimp only; omega) _
  exact h

set_option linter.unusedVariables false in
set_option maxRecDepth 100000 in
set_option maxHeartbeats 8000000 in
theorem send_any {R : Nat} (w : World) (rb n : Nat) (h : Rd w R rb n) (hn : n ≤ 1000) :
    Calls Try.prog 66 #[.pointer (some ⟨rb, 0, none⟩)] w (DrawnSd w R rb n) := by
  have hlt := h.lt
  go_enter Try.func66, Try.ntmps66
  go_wp2_with fail
  generalize hw0 : World.alloc w _ = w0
  have hR0 : Rd w0 R rb n := by rw [← hw0]; exact h.alloc _
  have hres : Hid (Own6 w0 w.heap.size (⟨#[]⟩ : ByteArray) false 0 0 none 0 0 none 0 0) := by rw [← hw0]; exact hid_of (Own6.newT w _)
  have hg0 : w.grownBy w0 (some rb) := by rw [← hw0]; exact grown_alloc (grown_refl w _) _
  have hs0 : w.heap.size < w0.heap.size := by rw [← hw0]; simp
  clear hw0
  with_reducible refine (pick_any w0 rb n 31 hR0 (by omega) (by omega) (by omega)).mono ?_
  rintro e w1 ⟨v, rfl, hv0, hv1, hr1, hg1⟩
  have hs1 : w0.heap.size ≤ w1.heap.size := hg1.size
  go_wp2_with fail
  with_reducible refine (sendnew_s v w1 ⟨hv0, by omega⟩).mono ?_
  rintro e w2 ⟨⟨A0, B0, rfl⟩, hb2⟩
  have hs2 := hb2.size
  go_wp2_with fail
  generalize hW3 : World.alloc w2 _ = W3
  have S : Hid (SS w0 W3 W3.heap.size R rb (n + 1) w2.heap.size ⟨⟨#[]⟩, false, v, 0, [], []⟩ A0 0 B0 0 none 0 []) := by
    rw [← hW3]
    refine ⟨((hr1.far (grown_of_below' hb2) (fun _ e => by cases e)).alloc _), grown_alloc (grown_below hg1 hb2) _, by omega, by omega, by simp, Nat.le_refl _, Own6.new w2, RngIn.empty _ _ _ _, RngIn.empty _ _ _ _, ?_, PrtIn.empty _ _ _⟩
    intro h0
    exact absurd h0 (by omega)
  clear hr1 hg1 hb2
  obtain ⟨xb, hxb⟩ : ∃ b, w2.heap.size = b := ⟨_, rfl⟩
  rw [hxb] at S ⊢
  have hxw : w0.heap.size ≤ xb := by omega
  have hxlt : xb < W3.heap.size := by rw [← hW3, ← hxb]; simp
  clear hW3 hs2 hxb hs1
  with_reducible refine (S.out.pick (by omega) 2 (by omega) (by omega)).mono ?_
  rintro e w4 ⟨u, rfl, hu0, hu1, S4, hg4⟩
  have hs4 := hg4.size
  obtain ⟨⟨x0, x1, x2, x3, x4, x5⟩, xf⟩ := S4.x
  dsimp only at x0 x1 x2 x3 x4 x5
  have S4 := hid_of S4
  have hu : u = 0 ∨ u = 1 := by omega
  clear hu0 hu1
  rcases hu with rfl | rfl
  · go_wp2_with fail
    generalize hW5 : World.setCell w4 _ _ = W5
    have S5 : Hid (∃ lv : Int, (0 ≤ lv ∧ lv ≤ 30) ∧ SS w0 W5 W3.heap.size R rb (n + 1 + 1) xb ⟨⟨#[]⟩, false, lv, 0, [], []⟩ A0 0 B0 0 none 0 []) := by rw [← hW5]; exact ⟨30, by omega, S4.out.setL 30⟩
    have hs5 : W3.heap.size ≤ W5.heap.size := by rw [← hW5]; simpa [World.setCell] using hs4
    clear hW5 x0 x1 x2 x3 x4 x5 xf S4 hg4 hs4
    clear S hv0 hv1
    obtain ⟨lv, ⟨hl0, hl1⟩, S5⟩ := S5.out
    have S5 := hid_of S5
    with_reducible refine (stream_any W5).mono ?_
    rintro e w6 ⟨⟨D, rfl, hD⟩, rfl⟩
    go_wp2_with fail
    with_reducible refine (S5.out.pick (by omega) 31 (by omega) (by omega)).mono ?_
    rintro e w7 ⟨q, rfl, hq0, hq1, S7, hg7⟩
    have hq : q ≤ (D.size : Int) := by omega
    have hs7 := hg7.size
    obtain ⟨⟨x0, x1, x2, x3, x4, x5⟩, xf⟩ := S7.x
    dsimp only at x0 x1 x2 x3 x4 x5
    go_wp2_with fail
    generalize hW8 : World.setCell w7 _ _ = W8
    have S8 : Hid (∃ d : ByteArray, d.size ≤ 30 ∧ SS w0 W8 W3.heap.size R rb (n + 1 + 1 + 1) xb ⟨d, false, lv, 0, [], []⟩ A0 0 B0 0 none 0 []) := by rw [← hW8]; exact ⟨_, by rw [ByteArray.size_extract]; omega, S7.setD _⟩
    clear hW8 x0 x1 x2 x3 x4 x5 xf S7 hg7
    obtain ⟨d, hd, S8⟩ := S8.out
    have S8 := hid_of S8
    with_reducible refine (S8.out.pick (by omega) 3 (by omega) (by omega)).mono ?_
    rintro e w9 ⟨z, rfl, hz0, hz1, S9, hg9⟩
    obtain ⟨⟨x0, x1, x2, x3, x4, x5⟩, xf⟩ := S9.x
    dsimp only at x0 x1 x2 x3 x4 x5
    go_wp2_with fail
    generalize hW10 : World.setCell w9 _ _ = W10
    have S10 : Hid (∃ f : Bool, SS w0 W10 W3.heap.size R rb (n + 1 + 1 + 1 + 1) xb ⟨d, f, lv, 0, [], []⟩ A0 0 B0 0 none 0 []) := by rw [← hW10]; exact ⟨_, S9.setF _⟩
    clear hW10 x0 x1 x2 x3 x4 x5 xf S9 hg9 S8 S5
    obtain ⟨f, S10⟩ := S10.out
    have S10 := hid_of S10
    go_loopw [6, 7] (fun ps i wr => ∃ (k m : Nat) (d : ByteArray) (f : Bool) (l n' : Int) (LA LB : List Rg) (A : Option Addr) (ca : Nat) (B : Option Addr) (cb : Nat) (P : Option Addr) (cp : Nat) (L : List Pt) (H : Nat), ps = .slice P L.length cp ∧ i = .int .i64 (k : Nat) ∧ k ≤ 12 ∧ L.length ≤ k ∧ m ≤ n + 10 + 4 * k ∧ Hid (Good ⟨d, f, l, n', LA, LB⟩ L) ∧ Hid (SS w0 wr H R rb m xb ⟨d, f, l, n', LA, LB⟩ A ca B cb P cp L)) (fun _ i _ => 12 - (intOf i).toNat)
    case atStart => exact ⟨0, n + 4, d, f, lv, 0, [], [], A0, 0, B0, 0, _, 0, [], _, rfl, rfl, by omega, by simp, by omega, good_start hd hl0 hl1, (S10.out.alloc _).noParts _⟩
    case round =>
      clear S10 hd hq hD hq0 hq1 hl0 hl1 hz0 hz1 hs7 hs5
      obtain ⟨k, m, d, f, l, n', LA, LB, A, ca, B, cb, P, cp, L, H, rfl, rfl, hk, hkL, hm, HG, S⟩ := hrel
      go_wp2_with fail
      with_reducible refine (S.out.pick (by omega) 12 (by omega) (by omega)).mono ?_
      rintro e w11 ⟨v, rfl, hv0, hv1, S11, hg11⟩
      clear S hg11
      by_cases hkv : (k : Int) < v
      · go_wp2_with fail
        with_reducible refine (S11.pick (by omega) 2 (by omega) (by omega)).mono ?_
        rintro e w12 ⟨u, rfl, hu0, hu1, S12, hg12⟩
        clear S11 hg12
        have S12 := hid_of (S12.lift S12.hH (Nat.le_refl _))
        have hcase : (u = 0 ∨ ((L.length : Int) == 0) = true) ∨ (u = 1 ∧ 0 < L.length) := by
          rcases (show u = 0 ∨ u = 1 from by omega) with e | e
          · exact .inl (.inl e)
          · rcases Nat.eq_zero_or_pos L.length with e' | e'
            · exact .inl (.inr (by rw [e']; rfl))
            · exact .inr ⟨e, e'⟩
        rcases hcase with hA | ⟨rfl, hpos⟩
        · rcases hA with rfl | hl0
          · go_wp2_with fail
            have hwb : rb < w12.heap.size := S12.out.rd.lt
            have inst : Nonempty (In (fun y => Own6 y xb d f l n' A LA.length ca B LB.length cb)) := ⟨⟨w12, S12.out.x⟩⟩
            have u0 := fun z : In (fun y => Own6 y xb d f l n' A LA.length ca B LB.length cb) => z.h.1.1
            have u1 := fun z : In (fun y => Own6 y xb d f l n' A LA.length ca B LB.length cb) => z.h.1.2.1
            have u2 := fun z : In (fun y => Own6 y xb d f l n' A LA.length ca B LB.length cb) => z.h.1.2.2.1
            have u3 := fun z : In (fun y => Own6 y xb d f l n' A LA.length ca B LB.length cb) => z.h.1.2.2.2.1
            have u4 := fun z : In (fun y => Own6 y xb d f l n' A LA.length ca B LB.length cb) => z.h.1.2.2.2.2.1
            have u5 := fun z : In (fun y => Own6 y xb d f l n' A LA.length ca B LB.length cb) => z.h.1.2.2.2.2.2
            refine wp_region_flt2 (fun y => Own6 y xb d f l n' A LA.length ca B LB.length cb) (fun y => SS w0 y w12.heap.size R rb (m + 1 + 1) xb ⟨d, f, l, n', LA, LB⟩ A ca B cb P cp L ∧ w12.heap.size ≤ y.heap.size) [(⟨9, 8, .cells #[.string (⟨#[]⟩ : ByteArray), .bool false, .int .i64 0, .int .i64 0, .slice none 0 0, .slice none 0 0] 25, fun x b => ∃ d f l n A na ca B nb cb, Own6 x b d f l n A na ca B nb cb⟩ : Flt), (⟨10, 9, .cells #[.int .i64 0, .string (⟨#[]⟩ : ByteArray), .bool false] 27, fun x b => ∃ o d f, Own3 x b o d f⟩ : Flt)] [([0, 1], 2), ([3], 4)] [5, 6, 7, 8] [([], 11), ([], 12)] [13] (by kernel_rfl) (by kernel_rfl) (floats_two (by decide) (floats_one ⟨_, rfl, rfl, rfl, fun e he => by simp at he, fun a w => by go_simp⟩ (fun w => ⟨_, _, _, _, _, _, _, _, _, _, Own6.newT w _⟩) (fun w w' b _ e ⟨x1, x2, x3, x4, x5, x6, x7, x8, x9, x10, h⟩ => ⟨x1, x2, x3, x4, x5, x6, x7, x8, x9, x10, h.of_block e⟩)) (floats_one ⟨_, rfl, rfl, rfl, fun e he => by simp at he, fun a w => by go_simp⟩ (fun w => ⟨_, _, _, Own3.newT w _⟩) (fun w w' b _ e ⟨x1, x2, x3, h⟩ => ⟨x1, x2, x3, h.of_block e⟩))) (fun y hy => ⟨hy.2, fun _ hg => (by cases hg), fun o => ⟨hy.1.alloc o, Nat.le_trans hy.2 (by simp)⟩⟩) (fun y hy => hy.1.x) (fun j => ⟨S12.out.drawn j, Nat.le_refl _⟩) ?_
            simp only [SeqF, opsAt, List.filterMap_cons, List.filterMap_nil, List.getElem?_cons_zero, List.getElem?_cons_succ]
            repeat (quiet_step (fail))
            refine wpQuiet_nil ?_
            refine ⟨_, rfl, rfl, turnsB_step2 fun Z w13 h13 hZ => ?_⟩
            clear inst u0 u1 u2 u3 u4 u5
            have hs13 := h13.2
            have S13 := h13.1
            clear h13
            go_simp
            with_reducible refine (S13.pick (by omega) 7 (by omega) (by omega)).mono ?_
            rintro e w14 ⟨y, rfl, hy0, hy1, S14, hg14⟩
            have hs14 := hg14.size
            have hy : 1 ≤ 1 + y ∧ 1 + y ≤ 1000 := by omega
            obtain ⟨⟨⟨d1, f1, l1, n1, LA1, LB1⟩, ⟨o2, d2, f2⟩, b1⟩, hnx⟩ : ∃ x, next ⟨d, f, l, n', LA, LB⟩ (1 + y) = x := ⟨_, rfl⟩
            have HNX := hid_of hnx
            clear hnx
            have hwy : IntKind.i64.wrap (1 + y) = 1 + y := IntWalk.i64_in _ (by omega)
            refine hZ (fun y => Own6 y xb d f l n' A LA.length ca B LB.length cb) (fun y => SS w0 y w12.heap.size R rb (m + 1 + 1 + 1) xb ⟨d, f, l, n', LA, LB⟩ A ca B cb P cp L ∧ w14.heap.size ≤ y.heap.size) _ _ (Keeps.of_grown hg14 hwb) ⟨S14, Nat.le_refl _⟩ (fun y hy => hy.1.x) (fun _ hx => hx) ⟨fun y hy => ⟨Nat.le_trans (by omega) hy.2, fun g hg => by obtain rfl : g = _ := (by simpa using hg); exact hy.2, fun o => ⟨hy.1.alloc o, Nat.le_trans hy.2 (by simp)⟩⟩, ?_⟩
            have inst : Nonempty (In (fun y => Own6 y xb d f l n' A LA.length ca B LB.length cb)) := ⟨⟨w14, S14.x⟩⟩
            clear hZ Z hg14 S13 S14
            repeat (quiet_step (fail))
            refine wpQuiet_nil ?_
            refine ⟨_, rfl, rfl, turnsB_step2 fun Z w15 h15 hZ => ?_⟩
            clear inst
            have hs15 := h15.2
            have S15 := hid_of h15.1
            clear h15
            go_simp
            with_reducible refine (next_v HNX.out HG.out.sv hy _ S15.out.a.reads S15.out.b.reads (fun e => S15.out.a.none_cap e) (fun e => S15.out.b.none_cap e)).mono ?_
            rintro e w16 ⟨⟨_, rfl, A1, c1, B1, c2, rfl, hI, hJ, hap⟩, hb16⟩
            have hs16 := hb16.size
            have I1 := hid_of (InSd.of_got' hI hJ hap)
            clear hI hJ hap
            refine hZ (fun y => Own6 y xb d f l n' A LA.length ca B LB.length cb) (fun y => SS w0 y w12.heap.size R rb (m + 1 + 1 + 1) xb ⟨d, f, l, n', LA, LB⟩ A ca B cb P cp L ∧ w16.heap.size ≤ y.heap.size ∧ InSd y w15.heap.size w16.heap.size A1 c1 B1 c2 LA1 LB1) _ _ (Keeps.of_below hb16) ⟨S15.out.below hb16, Nat.le_refl _, I1.out⟩ (fun y hy => hy.1.x) (fun _ hx => hx) ⟨fun y hy => ⟨Nat.le_trans (by omega) hy.2.1, fun g hg => by simp only [List.mem_cons, List.not_mem_nil, or_false] at hg; rcases hg with rfl | rfl <;> (dsimp only; exact Nat.le_trans (by omega) hy.2.1), fun o => ⟨hy.1.alloc o, Nat.le_trans hy.2.1 (by simp), hy.2.2.alloc o⟩⟩, ?_⟩
            have inst : Nonempty (In (fun y => Own6 y xb d f l n' A LA.length ca B LB.length cb)) := ⟨⟨w16, (S15.out.below hb16).x⟩⟩
            clear hZ Z hb16 S15 I1
            repeat (quiet_step (fail))
            refine wpQuiet_nil ?_
            clear inst
            refine flt_two (R := fun b c a => Seq _ _ _ _ _ b c a) (by decide) fun yb pb hyp hyb hpb hyg hpg hex => ?_
            simp only [Seq, opsAt, List.filterMap_cons, List.filterMap_nil, List.getElem?_cons_zero, List.getElem?_cons_succ]
            clear hex
            have hy16 := hyg (w15.heap.size, w16.heap.size) (by simp)
            have hp16 := hpg (w15.heap.size, w16.heap.size) (by simp)
            dsimp only at hy16 hp16
            clear hyg hpg
            refine wpQuiet_nil ?_
            refine ⟨_, rfl, rfl, turns_step2 fun Z hZ w17 h17 => ?_⟩
            obtain ⟨⟨S17, hs17, I17⟩, ⟨hyl, _, _, _, _, _, _, _, _, _, _, hY17⟩, hpl, _, _, _, hP17⟩ := h17
            have HY17 := hid_of hY17
            have HP17 := hid_of hP17
            have S17 := hid_of S17
            have I17 := hid_of I17
            clear hP17
            have hxb17 : xb < w12.heap.size := S17.out.xH
            obtain ⟨⟨r0, r1, r2, r3, r4, r5⟩, rf⟩ := hY17
            go_simp
            generalize hW : World.setCell (World.setCell (World.setCell (World.setCell (World.setCell (World.setCell w17 _ _) _ _) _ _) _ _) _ _) _ _ = w18
            have ht : Touch w17 w18 yb (yb + 1) := by rw [← hW]; exact touch6 _ _ _ _ _ _ _ _
            have S18 : Hid (SS w0 w18 w12.heap.size R rb (m + 1 + 1 + 1) xb ⟨d, f, l, n', LA, LB⟩ A ca B cb P cp L) := by rw [← hW]; exact hid_of (S17.out.stores6 hyb _ _ _ _ _ _)
            have HY18 : Hid (Own6 w18 yb d1 f1 l1 n1 A1 LA1.length c1 B1 LB1.length c2) := by rw [← hW]; exact hid_of (HY17.out.setAll _ _ _ _ _ _ _ _ _ _)
            have HP18 := hid_of (HP17.out.touch ht (by omega))
            have I18 := hid_of (I17.out.touch ht (by omega))
            have hs18 := ht.size
            clear hW r0 r1 r2 r3 r4 r5 rf ht HY17 HP17 S17 I17
            refine hZ (fun z => (fun y => Own6 y xb d f l n' A LA.length ca B LB.length cb) z ∧ (yb < z.heap.size ∧ ∃ d f l n A na ca B nb cb, Own6 z yb d f l n A na ca B nb cb) ∧ pb < z.heap.size ∧ ∃ o d f, Own3 z pb o d f) (fun y => y = w18) _ _ rfl (fun y e => by rw [e]; exact ⟨S18.out.x, ⟨by omega, _, _, _, _, _, _, _, _, _, _, HY18.out⟩, by omega, _, _, _, HP18.out⟩) (fun _ hx => hx) ?_
            clear hZ Z
            refine wpQuiet_nil ?_
            refine ⟨_, rfl, rfl, turns_step2 fun Z hZ w19 h19 => ?_⟩
            subst h19
            obtain ⟨⟨q0, q1, q2⟩, qf⟩ := HP18.out
            go_simp
            generalize hW : World.setCell (World.setCell (World.setCell w19 _ _) _ _) _ _ = w20
            have ht : Touch w19 w20 pb (pb + 1) := by rw [← hW]; exact touch3 _ _ _ _ _
            have S20 : Hid (SS w0 w20 w12.heap.size R rb (m + 1 + 1 + 1) xb ⟨d, f, l, n', LA, LB⟩ A ca B cb P cp L) := by rw [← hW]; exact hid_of (S18.out.stores3 hpb _ _ _)
            have HY20 := hid_of (HY18.out.touch ht (by omega))
            have HP20 : Hid (Own3 w20 pb o2 d2 f2) := by rw [← hW]; exact hid_of (HP18.out.setAll _ _ _)
            have I20 := hid_of (I18.out.touch ht (by omega))
            have hs20 := ht.size
            clear hW q0 q1 q2 qf ht HY18 HP18 S18 I18
            refine hZ (fun y => y = w20) (fun y => y = w20) _ _ rfl (fun _ hx => hx) (fun y e => by rw [e]; exact ⟨S20.out.x, ⟨by omega, _, _, _, _, _, _, _, _, _, _, HY20.out⟩, by omega, _, _, _, HP20.out⟩) ?_
            clear hZ Z
            have inst : Nonempty (In (fun y => y = w20)) := ⟨⟨w20, rfl⟩⟩
            repeat (quiet_step (fail))
            refine wpQuiet_nil ?_
            refine seq_last (C := fun y => y = w20) fun w21 e21 => ?_
            subst e21
            clear inst
            have hg12 := S20.out.xH
            have hS21 := S20.out.lift (H' := w21.heap.size) (by omega) (Nat.le_refl _)
            have S21 := hid_of (hS21.setAll ⟨d1, f1, l1, n1, LA1, LB1⟩ (I20.out.a.mono (by omega) (by omega)) (I20.out.b.mono (by omega) (by omega)) I20.out.apart)
            obtain ⟨⟨x0, x1, x2, x3, x4, x5⟩, xf⟩ := S20.out.x
            obtain ⟨⟨r0, r1, r2, r3, r4, r5⟩, rf⟩ := HY20.out
            dsimp only at x0 x1 x2 x3 x4 x5
            have HP22 := hid_of (HP20.out.touch (touch6 w21 xb (.string d1) (.bool f1) (.int .i64 l1) (.int .i64 n1) (.slice A1 LA1.length c1) (.slice B1 LB1.length c2)) (by omega))
            have hnxt := HNX.out
            have HG1 : Hid (Good ⟨d1, f1, l1, n1, LA1, LB1⟩ L) := by have := HG.out.nextNo hy.1; rw [hnxt] at this; exact this
            have HG2 : b1 = true → Good ⟨d1, f1, l1, n1, LA1, LB1⟩ (L ++ [⟨o2, d2, f2⟩]) := fun e => by have := HG.out.nextYes hy.1 (by rw [hnxt]; exact e); rw [hnxt] at this; exact this
            have HG2 := hid_of HG2
            clear hS21 hnxt hwy
            cases b1 with
            | false =>
              go_wp2_with fail
              generalize hW : World.setCell (World.setCell (World.setCell (World.setCell (World.setCell (World.setCell w21 _ _) _ _) _ _) _ _) _ _) _ _ = w22 at S21 ⊢
              clear hW x0 x1 x2 x3 x4 x5 xf r0 r1 r2 r3 r4 r5 rf
              go_roundw
              case rel => exact ⟨k + 1, _, d1, f1, l1, n1, LA1, LB1, A1, c1, B1, c2, P, cp, L, _, rfl, by go_num, by omega, by omega, by omega, HG1, S21⟩
              case measure => simp [intOf]; omega
            | true =>
              go_upto_region 13 with (fail)
              generalize hW : World.setCell (World.setCell (World.setCell (World.setCell (World.setCell (World.setCell w21 _ _) _ _) _ _) _ _) _ _) _ _ = w22 at S21 HP22 ⊢
              clear hW x0 x1 x2 x3 x4 x5 xf r0 r1 r2 r3 r4 r5 rf
              obtain ⟨⟨q0, q1, q2⟩, qf⟩ := HP22.out
              go_upto_region 14 with (fail)
              obtain ⟨g, Sg, hg1, hg2, hpp, hSg⟩ := (S21.out.alloc (.cells #[.int .i64 o2, .string d2, .bool f2] 27)).room
              have HSg := hid_of hSg
              clear hSg
              go_wp2_with (at_builtin; refine wpList_snoc_prt _ rfl _ _ rfl ⟨o2, d2, f2⟩ rfl hpp hg2 (by omega) rfl (by simp) (by simp) (by simp) ?_; intro P2 cp2 w23 hp2 ht)
              have hlen2 : (L ++ [(⟨o2, d2, f2⟩ : Pt)]).length = L.length + 1 := by rw [List.length_append]; rfl
              have S23 := hid_of ((S21.out.alloc _).snoc hg1 HSg.out hp2 ht)
              have HL2 := hid_of hlen2
              clear hlen2 ht hp2 hpp
              go_roundw
              case rel => exact ⟨k + 1, _, d1, f1, l1, n1, LA1, LB1, A1, c1, B1, c2, P2, cp2, L ++ [⟨o2, d2, f2⟩], _, by rw [HL2.out], by go_num, by omega, by rw [HL2.out]; omega, by omega, hid_of (HG2.out rfl), S23⟩
              case measure => simp [intOf]; omega
          · have hu : u = 0 ∨ u = 1 := by omega
            clear hu0 hu1
            rcases hu with rfl | rfl
            · go_wp2_with fail
              clear hl0
              have hwb : rb < w12.heap.size := S12.out.rd.lt
              have inst : Nonempty (In (fun y => Own6 y xb d f l n' A LA.length ca B LB.length cb)) := ⟨⟨w12, S12.out.x⟩⟩
              have u0 := fun z : In (fun y => Own6 y xb d f l n' A LA.length ca B LB.length cb) => z.h.1.1
              have u1 := fun z : In (fun y => Own6 y xb d f l n' A LA.length ca B LB.length cb) => z.h.1.2.1
              have u2 := fun z : In (fun y => Own6 y xb d f l n' A LA.length ca B LB.length cb) => z.h.1.2.2.1
              have u3 := fun z : In (fun y => Own6 y xb d f l n' A LA.length ca B LB.length cb) => z.h.1.2.2.2.1
              have u4 := fun z : In (fun y => Own6 y xb d f l n' A LA.length ca B LB.length cb) => z.h.1.2.2.2.2.1
              have u5 := fun z : In (fun y => Own6 y xb d f l n' A LA.length ca B LB.length cb) => z.h.1.2.2.2.2.2
              refine wp_region_flt2 (fun y => Own6 y xb d f l n' A LA.length ca B LB.length cb) (fun y => SS w0 y w12.heap.size R rb (m + 1 + 1) xb ⟨d, f, l, n', LA, LB⟩ A ca B cb P cp L ∧ w12.heap.size ≤ y.heap.size) [(⟨9, 8, .cells #[.string (⟨#[]⟩ : ByteArray), .bool false, .int .i64 0, .int .i64 0, .slice none 0 0, .slice none 0 0] 25, fun x b => ∃ d f l n A na ca B nb cb, Own6 x b d f l n A na ca B nb cb⟩ : Flt), (⟨10, 9, .cells #[.int .i64 0, .string (⟨#[]⟩ : ByteArray), .bool false] 27, fun x b => ∃ o d f, Own3 x b o d f⟩ : Flt)] [([0, 1], 2), ([3], 4)] [5, 6, 7, 8] [([], 11), ([], 12)] [13] (by kernel_rfl) (by kernel_rfl) (floats_two (by decide) (floats_one ⟨_, rfl, rfl, rfl, fun e he => by simp at he, fun a w => by go_simp⟩ (fun w => ⟨_, _, _, _, _, _, _, _, _, _, Own6.newT w _⟩) (fun w w' b _ e ⟨x1, x2, x3, x4, x5, x6, x7, x8, x9, x10, h⟩ => ⟨x1, x2, x3, x4, x5, x6, x7, x8, x9, x10, h.of_block e⟩)) (floats_one ⟨_, rfl, rfl, rfl, fun e he => by simp at he, fun a w => by go_simp⟩ (fun w => ⟨_, _, _, Own3.newT w _⟩) (fun w w' b _ e ⟨x1, x2, x3, h⟩ => ⟨x1, x2, x3, h.of_block e⟩))) (fun y hy => ⟨hy.2, fun _ hg => (by cases hg), fun o => ⟨hy.1.alloc o, Nat.le_trans hy.2 (by simp)⟩⟩) (fun y hy => hy.1.x) (fun j => ⟨S12.out.drawn j, Nat.le_refl _⟩) ?_
              simp only [SeqF, opsAt, List.filterMap_cons, List.filterMap_nil, List.getElem?_cons_zero, List.getElem?_cons_succ]
              repeat (quiet_step (fail))
              refine wpQuiet_nil ?_
              refine ⟨_, rfl, rfl, turnsB_step2 fun Z w13 h13 hZ => ?_⟩
              clear inst u0 u1 u2 u3 u4 u5
              have hs13 := h13.2
              have S13 := h13.1
              clear h13
              go_simp
              with_reducible refine (S13.pick (by omega) 7 (by omega) (by omega)).mono ?_
              rintro e w14 ⟨y, rfl, hy0, hy1, S14, hg14⟩
              have hs14 := hg14.size
              have hy : 1 ≤ 1 + y ∧ 1 + y ≤ 1000 := by omega
              obtain ⟨⟨⟨d1, f1, l1, n1, LA1, LB1⟩, ⟨o2, d2, f2⟩, b1⟩, hnx⟩ : ∃ x, next ⟨d, f, l, n', LA, LB⟩ (1 + y) = x := ⟨_, rfl⟩
              have HNX := hid_of hnx
              clear hnx
              have hwy : IntKind.i64.wrap (1 + y) = 1 + y := IntWalk.i64_in _ (by omega)
              refine hZ (fun y => Own6 y xb d f l n' A LA.length ca B LB.length cb) (fun y => SS w0 y w12.heap.size R rb (m + 1 + 1 + 1) xb ⟨d, f, l, n', LA, LB⟩ A ca B cb P cp L ∧ w14.heap.size ≤ y.heap.size) _ _ (Keeps.of_grown hg14 hwb) ⟨S14, Nat.le_refl _⟩ (fun y hy => hy.1.x) (fun _ hx => hx) ⟨fun y hy => ⟨Nat.le_trans (by omega) hy.2, fun g hg => by obtain rfl : g = _ := (by simpa using hg); exact hy.2, fun o => ⟨hy.1.alloc o, Nat.le_trans hy.2 (by simp)⟩⟩, ?_⟩
              have inst : Nonempty (In (fun y => Own6 y xb d f l n' A LA.length ca B LB.length cb)) := ⟨⟨w14, S14.x⟩⟩
              clear hZ Z hg14 S13 S14
              repeat (quiet_step (fail))
              refine wpQuiet_nil ?_
              refine ⟨_, rfl, rfl, turnsB_step2 fun Z w15 h15 hZ => ?_⟩
              clear inst
              have hs15 := h15.2
              have S15 := hid_of h15.1
              clear h15
              go_simp
              with_reducible refine (next_v HNX.out HG.out.sv hy _ S15.out.a.reads S15.out.b.reads (fun e => S15.out.a.none_cap e) (fun e => S15.out.b.none_cap e)).mono ?_
              rintro e w16 ⟨⟨_, rfl, A1, c1, B1, c2, rfl, hI, hJ, hap⟩, hb16⟩
              have hs16 := hb16.size
              have I1 := hid_of (InSd.of_got' hI hJ hap)
              clear hI hJ hap
              refine hZ (fun y => Own6 y xb d f l n' A LA.length ca B LB.length cb) (fun y => SS w0 y w12.heap.size R rb (m + 1 + 1 + 1) xb ⟨d, f, l, n', LA, LB⟩ A ca B cb P cp L ∧ w16.heap.size ≤ y.heap.size ∧ InSd y w15.heap.size w16.heap.size A1 c1 B1 c2 LA1 LB1) _ _ (Keeps.of_below hb16) ⟨S15.out.below hb16, Nat.le_refl _, I1.out⟩ (fun y hy => hy.1.x) (fun _ hx => hx) ⟨fun y hy => ⟨Nat.le_trans (by omega) hy.2.1, fun g hg => by simp only [List.mem_cons, List.not_mem_nil, or_false] at hg; rcases hg with rfl | rfl <;> (dsimp only; exact Nat.le_trans (by omega) hy.2.1), fun o => ⟨hy.1.alloc o, Nat.le_trans hy.2.1 (by simp), hy.2.2.alloc o⟩⟩, ?_⟩
              have inst : Nonempty (In (fun y => Own6 y xb d f l n' A LA.length ca B LB.length cb)) := ⟨⟨w16, (S15.out.below hb16).x⟩⟩
              clear hZ Z hb16 S15 I1
              repeat (quiet_step (fail))
              refine wpQuiet_nil ?_
              clear inst
              refine flt_two (R := fun b c a => Seq _ _ _ _ _ b c a) (by decide) fun yb pb hyp hyb hpb hyg hpg hex => ?_
              simp only [Seq, opsAt, List.filterMap_cons, List.filterMap_nil, List.getElem?_cons_zero, List.getElem?_cons_succ]
              clear hex
              have hy16 := hyg (w15.heap.size, w16.heap.size) (by simp)
              have hp16 := hpg (w15.heap.size, w16.heap.size) (by simp)
              dsimp only at hy16 hp16
              clear hyg hpg
              refine wpQuiet_nil ?_
              refine ⟨_, rfl, rfl, turns_step2 fun Z hZ w17 h17 => ?_⟩
              obtain ⟨⟨S17, hs17, I17⟩, ⟨hyl, _, _, _, _, _, _, _, _, _, _, hY17⟩, hpl, _, _, _, hP17⟩ := h17
              have HY17 := hid_of hY17
              have HP17 := hid_of hP17
              have S17 := hid_of S17
              have I17 := hid_of I17
              clear hP17
              have hxb17 : xb < w12.heap.size := S17.out.xH
              obtain ⟨⟨r0, r1, r2, r3, r4, r5⟩, rf⟩ := hY17
              go_simp
              generalize hW : World.setCell (World.setCell (World.setCell (World.setCell (World.setCell (World.setCell w17 _ _) _ _) _ _) _ _) _ _) _ _ = w18
              have ht : Touch w17 w18 yb (yb + 1) := by rw [← hW]; exact touch6 _ _ _ _ _ _ _ _
              have S18 : Hid (SS w0 w18 w12.heap.size R rb (m + 1 + 1 + 1) xb ⟨d, f, l, n', LA, LB⟩ A ca B cb P cp L) := by rw [← hW]; exact hid_of (S17.out.stores6 hyb _ _ _ _ _ _)
              have HY18 : Hid (Own6 w18 yb d1 f1 l1 n1 A1 LA1.length c1 B1 LB1.length c2) := by rw [← hW]; exact hid_of (HY17.out.setAll _ _ _ _ _ _ _ _ _ _)
              have HP18 := hid_of (HP17.out.touch ht (by omega))
              have I18 := hid_of (I17.out.touch ht (by omega))
              have hs18 := ht.size
              clear hW r0 r1 r2 r3 r4 r5 rf ht HY17 HP17 S17 I17
              refine hZ (fun z => (fun y => Own6 y xb d f l n' A LA.length ca B LB.length cb) z ∧ (yb < z.heap.size ∧ ∃ d f l n A na ca B nb cb, Own6 z yb d f l n A na ca B nb cb) ∧ pb < z.heap.size ∧ ∃ o d f, Own3 z pb o d f) (fun y => y = w18) _ _ rfl (fun y e => by rw [e]; exact ⟨S18.out.x, ⟨by omega, _, _, _, _, _, _, _, _, _, _, HY18.out⟩, by omega, _, _, _, HP18.out⟩) (fun _ hx => hx) ?_
              clear hZ Z
              refine wpQuiet_nil ?_
              refine ⟨_, rfl, rfl, turns_step2 fun Z hZ w19 h19 => ?_⟩
              subst h19
              obtain ⟨⟨q0, q1, q2⟩, qf⟩ := HP18.out
              go_simp
              generalize hW : World.setCell (World.setCell (World.setCell w19 _ _) _ _) _ _ = w20
              have ht : Touch w19 w20 pb (pb + 1) := by rw [← hW]; exact touch3 _ _ _ _ _
              have S20 : Hid (SS w0 w20 w12.heap.size R rb (m + 1 + 1 + 1) xb ⟨d, f, l, n', LA, LB⟩ A ca B cb P cp L) := by rw [← hW]; exact hid_of (S18.out.stores3 hpb _ _ _)
              have HY20 := hid_of (HY18.out.touch ht (by omega))
              have HP20 : Hid (Own3 w20 pb o2 d2 f2) := by rw [← hW]; exact hid_of (HP18.out.setAll _ _ _)
              have I20 := hid_of (I18.out.touch ht (by omega))
              have hs20 := ht.size
              clear hW q0 q1 q2 qf ht HY18 HP18 S18 I18
              refine hZ (fun y => y = w20) (fun y => y = w20) _ _ rfl (fun _ hx => hx) (fun y e => by rw [e]; exact ⟨S20.out.x, ⟨by omega, _, _, _, _, _, _, _, _, _, _, HY20.out⟩, by omega, _, _, _, HP20.out⟩) ?_
              clear hZ Z
              have inst : Nonempty (In (fun y => y = w20)) := ⟨⟨w20, rfl⟩⟩
              repeat (quiet_step (fail))
              refine wpQuiet_nil ?_
              refine seq_last (C := fun y => y = w20) fun w21 e21 => ?_
              subst e21
              clear inst
              have hg12 := S20.out.xH
              have hS21 := S20.out.lift (H' := w21.heap.size) (by omega) (Nat.le_refl _)
              have S21 := hid_of (hS21.setAll ⟨d1, f1, l1, n1, LA1, LB1⟩ (I20.out.a.mono (by omega) (by omega)) (I20.out.b.mono (by omega) (by omega)) I20.out.apart)
              obtain ⟨⟨x0, x1, x2, x3, x4, x5⟩, xf⟩ := S20.out.x
              obtain ⟨⟨r0, r1, r2, r3, r4, r5⟩, rf⟩ := HY20.out
              dsimp only at x0 x1 x2 x3 x4 x5
              have HP22 := hid_of (HP20.out.touch (touch6 w21 xb (.string d1) (.bool f1) (.int .i64 l1) (.int .i64 n1) (.slice A1 LA1.length c1) (.slice B1 LB1.length c2)) (by omega))
              have hnxt := HNX.out
              have HG1 : Hid (Good ⟨d1, f1, l1, n1, LA1, LB1⟩ L) := by have := HG.out.nextNo hy.1; rw [hnxt] at this; exact this
              have HG2 : b1 = true → Good ⟨d1, f1, l1, n1, LA1, LB1⟩ (L ++ [⟨o2, d2, f2⟩]) := fun e => by have := HG.out.nextYes hy.1 (by rw [hnxt]; exact e); rw [hnxt] at this; exact this
              have HG2 := hid_of HG2
              clear hS21 hnxt hwy
              cases b1 with
              | false =>
                go_wp2_with fail
                generalize hW : World.setCell (World.setCell (World.setCell (World.setCell (World.setCell (World.setCell w21 _ _) _ _) _ _) _ _) _ _) _ _ = w22 at S21 ⊢
                clear hW x0 x1 x2 x3 x4 x5 xf r0 r1 r2 r3 r4 r5 rf
                go_roundw
                case rel => exact ⟨k + 1, _, d1, f1, l1, n1, LA1, LB1, A1, c1, B1, c2, P, cp, L, _, rfl, by go_num, by omega, by omega, by omega, HG1, S21⟩
                case measure => simp [intOf]; omega
              | true =>
                go_upto_region 13 with (fail)
                generalize hW : World.setCell (World.setCell (World.setCell (World.setCell (World.setCell (World.setCell w21 _ _) _ _) _ _) _ _) _ _) _ _ = w22 at S21 HP22 ⊢
                clear hW x0 x1 x2 x3 x4 x5 xf r0 r1 r2 r3 r4 r5 rf
                obtain ⟨⟨q0, q1, q2⟩, qf⟩ := HP22.out
                go_upto_region 14 with (fail)
                obtain ⟨g, Sg, hg1, hg2, hpp, hSg⟩ := (S21.out.alloc (.cells #[.int .i64 o2, .string d2, .bool f2] 27)).room
                have HSg := hid_of hSg
                clear hSg
                go_wp2_with (at_builtin; refine wpList_snoc_prt _ rfl _ _ rfl ⟨o2, d2, f2⟩ rfl hpp hg2 (by omega) rfl (by simp) (by simp) (by simp) ?_; intro P2 cp2 w23 hp2 ht)
                have hlen2 : (L ++ [(⟨o2, d2, f2⟩ : Pt)]).length = L.length + 1 := by rw [List.length_append]; rfl
                have S23 := hid_of ((S21.out.alloc _).snoc hg1 HSg.out hp2 ht)
                have HL2 := hid_of hlen2
                clear hlen2 ht hp2 hpp
                go_roundw
                case rel => exact ⟨k + 1, _, d1, f1, l1, n1, LA1, LB1, A1, c1, B1, c2, P2, cp2, L ++ [⟨o2, d2, f2⟩], _, by rw [HL2.out], by go_num, by omega, by rw [HL2.out]; omega, by omega, hid_of (HG2.out rfl), S23⟩
                case measure => simp [intOf]; omega
            · go_wp2_with fail
              clear hl0
              have hwb : rb < w12.heap.size := S12.out.rd.lt
              have inst : Nonempty (In (fun y => Own6 y xb d f l n' A LA.length ca B LB.length cb)) := ⟨⟨w12, S12.out.x⟩⟩
              have u0 := fun z : In (fun y => Own6 y xb d f l n' A LA.length ca B LB.length cb) => z.h.1.1
              have u1 := fun z : In (fun y => Own6 y xb d f l n' A LA.length ca B LB.length cb) => z.h.1.2.1
              have u2 := fun z : In (fun y => Own6 y xb d f l n' A LA.length ca B LB.length cb) => z.h.1.2.2.1
              have u3 := fun z : In (fun y => Own6 y xb d f l n' A LA.length ca B LB.length cb) => z.h.1.2.2.2.1
              have u4 := fun z : In (fun y => Own6 y xb d f l n' A LA.length ca B LB.length cb) => z.h.1.2.2.2.2.1
              have u5 := fun z : In (fun y => Own6 y xb d f l n' A LA.length ca B LB.length cb) => z.h.1.2.2.2.2.2
              refine wp_region_flt2 (fun y => Own6 y xb d f l n' A LA.length ca B LB.length cb) (fun y => SS w0 y w12.heap.size R rb (m + 1 + 1) xb ⟨d, f, l, n', LA, LB⟩ A ca B cb P cp L ∧ w12.heap.size ≤ y.heap.size) [(⟨9, 8, .cells #[.string (⟨#[]⟩ : ByteArray), .bool false, .int .i64 0, .int .i64 0, .slice none 0 0, .slice none 0 0] 25, fun x b => ∃ d f l n A na ca B nb cb, Own6 x b d f l n A na ca B nb cb⟩ : Flt), (⟨10, 9, .cells #[.int .i64 0, .string (⟨#[]⟩ : ByteArray), .bool false] 27, fun x b => ∃ o d f, Own3 x b o d f⟩ : Flt)] [([0, 1], 2), ([3], 4)] [5, 6, 7, 8] [([], 11), ([], 12)] [13] (by kernel_rfl) (by kernel_rfl) (floats_two (by decide) (floats_one ⟨_, rfl, rfl, rfl, fun e he => by simp at he, fun a w => by go_simp⟩ (fun w => ⟨_, _, _, _, _, _, _, _, _, _, Own6.newT w _⟩) (fun w w' b _ e ⟨x1, x2, x3, x4, x5, x6, x7, x8, x9, x10, h⟩ => ⟨x1, x2, x3, x4, x5, x6, x7, x8, x9, x10, h.of_block e⟩)) (floats_one ⟨_, rfl, rfl, rfl, fun e he => by simp at he, fun a w => by go_simp⟩ (fun w => ⟨_, _, _, Own3.newT w _⟩) (fun w w' b _ e ⟨x1, x2, x3, h⟩ => ⟨x1, x2, x3, h.of_block e⟩))) (fun y hy => ⟨hy.2, fun _ hg => (by cases hg), fun o => ⟨hy.1.alloc o, Nat.le_trans hy.2 (by simp)⟩⟩) (fun y hy => hy.1.x) (fun j => ⟨S12.out.drawn j, Nat.le_refl _⟩) ?_
              simp only [SeqF, opsAt, List.filterMap_cons, List.filterMap_nil, List.getElem?_cons_zero, List.getElem?_cons_succ]
              repeat (quiet_step (fail))
              refine wpQuiet_nil ?_
              refine ⟨_, rfl, rfl, turnsB_step2 fun Z w13 h13 hZ => ?_⟩
              clear inst u0 u1 u2 u3 u4 u5
              have hs13 := h13.2
              have S13 := h13.1
              clear h13
              go_simp
              with_reducible refine (S13.pick (by omega) 7 (by omega) (by omega)).mono ?_
              rintro e w14 ⟨y, rfl, hy0, hy1, S14, hg14⟩
              have hs14 := hg14.size
              have hy : 1 ≤ 1 + y ∧ 1 + y ≤ 1000 := by omega
              obtain ⟨⟨⟨d1, f1, l1, n1, LA1, LB1⟩, ⟨o2, d2, f2⟩, b1⟩, hnx⟩ : ∃ x, next ⟨d, f, l, n', LA, LB⟩ (1 + y) = x := ⟨_, rfl⟩
              have HNX := hid_of hnx
              clear hnx
              have hwy : IntKind.i64.wrap (1 + y) = 1 + y := IntWalk.i64_in _ (by omega)
              refine hZ (fun y => Own6 y xb d f l n' A LA.length ca B LB.length cb) (fun y => SS w0 y w12.heap.size R rb (m + 1 + 1 + 1) xb ⟨d, f, l, n', LA, LB⟩ A ca B cb P cp L ∧ w14.heap.size ≤ y.heap.size) _ _ (Keeps.of_grown hg14 hwb) ⟨S14, Nat.le_refl _⟩ (fun y hy => hy.1.x) (fun _ hx => hx) ⟨fun y hy => ⟨Nat.le_trans (by omega) hy.2, fun g hg => by obtain rfl : g = _ := (by simpa using hg); exact hy.2, fun o => ⟨hy.1.alloc o, Nat.le_trans hy.2 (by simp)⟩⟩, ?_⟩
              have inst : Nonempty (In (fun y => Own6 y xb d f l n' A LA.length ca B LB.length cb)) := ⟨⟨w14, S14.x⟩⟩
              clear hZ Z hg14 S13 S14
              repeat (quiet_step (fail))
              refine wpQuiet_nil ?_
              refine ⟨_, rfl, rfl, turnsB_step2 fun Z w15 h15 hZ => ?_⟩
              clear inst
              have hs15 := h15.2
              have S15 := hid_of h15.1
              clear h15
              go_simp
              with_reducible refine (next_v HNX.out HG.out.sv hy _ S15.out.a.reads S15.out.b.reads (fun e => S15.out.a.none_cap e) (fun e => S15.out.b.none_cap e)).mono ?_
              rintro e w16 ⟨⟨_, rfl, A1, c1, B1, c2, rfl, hI, hJ, hap⟩, hb16⟩
              have hs16 := hb16.size
              have I1 := hid_of (InSd.of_got' hI hJ hap)
              clear hI hJ hap
              refine hZ (fun y => Own6 y xb d f l n' A LA.length ca B LB.length cb) (fun y => SS w0 y w12.heap.size R rb (m + 1 + 1 + 1) xb ⟨d, f, l, n', LA, LB⟩ A ca B cb P cp L ∧ w16.heap.size ≤ y.heap.size ∧ InSd y w15.heap.size w16.heap.size A1 c1 B1 c2 LA1 LB1) _ _ (Keeps.of_below hb16) ⟨S15.out.below hb16, Nat.le_refl _, I1.out⟩ (fun y hy => hy.1.x) (fun _ hx => hx) ⟨fun y hy => ⟨Nat.le_trans (by omega) hy.2.1, fun g hg => by simp only [List.mem_cons, List.not_mem_nil, or_false] at hg; rcases hg with rfl | rfl <;> (dsimp only; exact Nat.le_trans (by omega) hy.2.1), fun o => ⟨hy.1.alloc o, Nat.le_trans hy.2.1 (by simp), hy.2.2.alloc o⟩⟩, ?_⟩
              have inst : Nonempty (In (fun y => Own6 y xb d f l n' A LA.length ca B LB.length cb)) := ⟨⟨w16, (S15.out.below hb16).x⟩⟩
              clear hZ Z hb16 S15 I1
              repeat (quiet_step (fail))
              refine wpQuiet_nil ?_
              clear inst
              refine flt_two (R := fun b c a => Seq _ _ _ _ _ b c a) (by decide) fun yb pb hyp hyb hpb hyg hpg hex => ?_
              simp only [Seq, opsAt, List.filterMap_cons, List.filterMap_nil, List.getElem?_cons_zero, List.getElem?_cons_succ]
              clear hex
              have hy16 := hyg (w15.heap.size, w16.heap.size) (by simp)
              have hp16 := hpg (w15.heap.size, w16.heap.size) (by simp)
              dsimp only at hy16 hp16
              clear hyg hpg
              refine wpQuiet_nil ?_
              refine ⟨_, rfl, rfl, turns_step2 fun Z hZ w17 h17 => ?_⟩
              obtain ⟨⟨S17, hs17, I17⟩, ⟨hyl, _, _, _, _, _, _, _, _, _, _, hY17⟩, hpl, _, _, _, hP17⟩ := h17
              have HY17 := hid_of hY17
              have HP17 := hid_of hP17
              have S17 := hid_of S17
              have I17 := hid_of I17
              clear hP17
              have hxb17 : xb < w12.heap.size := S17.out.xH
              obtain ⟨⟨r0, r1, r2, r3, r4, r5⟩, rf⟩ := hY17
              go_simp
              generalize hW : World.setCell (World.setCell (World.setCell (World.setCell (World.setCell (World.setCell w17 _ _) _ _) _ _) _ _) _ _) _ _ = w18
              have ht : Touch w17 w18 yb (yb + 1) := by rw [← hW]; exact touch6 _ _ _ _ _ _ _ _
              have S18 : Hid (SS w0 w18 w12.heap.size R rb (m + 1 + 1 + 1) xb ⟨d, f, l, n', LA, LB⟩ A ca B cb P cp L) := by rw [← hW]; exact hid_of (S17.out.stores6 hyb _ _ _ _ _ _)
              have HY18 : Hid (Own6 w18 yb d1 f1 l1 n1 A1 LA1.length c1 B1 LB1.length c2) := by rw [← hW]; exact hid_of (HY17.out.setAll _ _ _ _ _ _ _ _ _ _)
              have HP18 := hid_of (HP17.out.touch ht (by omega))
              have I18 := hid_of (I17.out.touch ht (by omega))
              have hs18 := ht.size
              clear hW r0 r1 r2 r3 r4 r5 rf ht HY17 HP17 S17 I17
              refine hZ (fun z => (fun y => Own6 y xb d f l n' A LA.length ca B LB.length cb) z ∧ (yb < z.heap.size ∧ ∃ d f l n A na ca B nb cb, Own6 z yb d f l n A na ca B nb cb) ∧ pb < z.heap.size ∧ ∃ o d f, Own3 z pb o d f) (fun y => y = w18) _ _ rfl (fun y e => by rw [e]; exact ⟨S18.out.x, ⟨by omega, _, _, _, _, _, _, _, _, _, _, HY18.out⟩, by omega, _, _, _, HP18.out⟩) (fun _ hx => hx) ?_
              clear hZ Z
              refine wpQuiet_nil ?_
              refine ⟨_, rfl, rfl, turns_step2 fun Z hZ w19 h19 => ?_⟩
              subst h19
              obtain ⟨⟨q0, q1, q2⟩, qf⟩ := HP18.out
              go_simp
              generalize hW : World.setCell (World.setCell (World.setCell w19 _ _) _ _) _ _ = w20
              have ht : Touch w19 w20 pb (pb + 1) := by rw [← hW]; exact touch3 _ _ _ _ _
              have S20 : Hid (SS w0 w20 w12.heap.size R rb (m + 1 + 1 + 1) xb ⟨d, f, l, n', LA, LB⟩ A ca B cb P cp L) := by rw [← hW]; exact hid_of (S18.out.stores3 hpb _ _ _)
              have HY20 := hid_of (HY18.out.touch ht (by omega))
              have HP20 : Hid (Own3 w20 pb o2 d2 f2) := by rw [← hW]; exact hid_of (HP18.out.setAll _ _ _)
              have I20 := hid_of (I18.out.touch ht (by omega))
              have hs20 := ht.size
              clear hW q0 q1 q2 qf ht HY18 HP18 S18 I18
              refine hZ (fun y => y = w20) (fun y => y = w20) _ _ rfl (fun _ hx => hx) (fun y e => by rw [e]; exact ⟨S20.out.x, ⟨by omega, _, _, _, _, _, _, _, _, _, _, HY20.out⟩, by omega, _, _, _, HP20.out⟩) ?_
              clear hZ Z
              have inst : Nonempty (In (fun y => y = w20)) := ⟨⟨w20, rfl⟩⟩
              repeat (quiet_step (fail))
              refine wpQuiet_nil ?_
              refine seq_last (C := fun y => y = w20) fun w21 e21 => ?_
              subst e21
              clear inst
              have hg12 := S20.out.xH
              have hS21 := S20.out.lift (H' := w21.heap.size) (by omega) (Nat.le_refl _)
              have S21 := hid_of (hS21.setAll ⟨d1, f1, l1, n1, LA1, LB1⟩ (I20.out.a.mono (by omega) (by omega)) (I20.out.b.mono (by omega) (by omega)) I20.out.apart)
              obtain ⟨⟨x0, x1, x2, x3, x4, x5⟩, xf⟩ := S20.out.x
              obtain ⟨⟨r0, r1, r2, r3, r4, r5⟩, rf⟩ := HY20.out
              dsimp only at x0 x1 x2 x3 x4 x5
              have HP22 := hid_of (HP20.out.touch (touch6 w21 xb (.string d1) (.bool f1) (.int .i64 l1) (.int .i64 n1) (.slice A1 LA1.length c1) (.slice B1 LB1.length c2)) (by omega))
              have hnxt := HNX.out
              have HG1 : Hid (Good ⟨d1, f1, l1, n1, LA1, LB1⟩ L) := by have := HG.out.nextNo hy.1; rw [hnxt] at this; exact this
              have HG2 : b1 = true → Good ⟨d1, f1, l1, n1, LA1, LB1⟩ (L ++ [⟨o2, d2, f2⟩]) := fun e => by have := HG.out.nextYes hy.1 (by rw [hnxt]; exact e); rw [hnxt] at this; exact this
              have HG2 := hid_of HG2
              clear hS21 hnxt hwy
              cases b1 with
              | false =>
                go_wp2_with fail
                generalize hW : World.setCell (World.setCell (World.setCell (World.setCell (World.setCell (World.setCell w21 _ _) _ _) _ _) _ _) _ _) _ _ = w22 at S21 ⊢
                clear hW x0 x1 x2 x3 x4 x5 xf r0 r1 r2 r3 r4 r5 rf
                go_roundw
                case rel => exact ⟨k + 1, _, d1, f1, l1, n1, LA1, LB1, A1, c1, B1, c2, P, cp, L, _, rfl, by go_num, by omega, by omega, by omega, HG1, S21⟩
                case measure => simp [intOf]; omega
              | true =>
                go_upto_region 13 with (fail)
                generalize hW : World.setCell (World.setCell (World.setCell (World.setCell (World.setCell (World.setCell w21 _ _) _ _) _ _) _ _) _ _) _ _ = w22 at S21 HP22 ⊢
                clear hW x0 x1 x2 x3 x4 x5 xf r0 r1 r2 r3 r4 r5 rf
                obtain ⟨⟨q0, q1, q2⟩, qf⟩ := HP22.out
                go_upto_region 14 with (fail)
                obtain ⟨g, Sg, hg1, hg2, hpp, hSg⟩ := (S21.out.alloc (.cells #[.int .i64 o2, .string d2, .bool f2] 27)).room
                have HSg := hid_of hSg
                clear hSg
                go_wp2_with (at_builtin; refine wpList_snoc_prt _ rfl _ _ rfl ⟨o2, d2, f2⟩ rfl hpp hg2 (by omega) rfl (by simp) (by simp) (by simp) ?_; intro P2 cp2 w23 hp2 ht)
                have hlen2 : (L ++ [(⟨o2, d2, f2⟩ : Pt)]).length = L.length + 1 := by rw [List.length_append]; rfl
                have S23 := hid_of ((S21.out.alloc _).snoc hg1 HSg.out hp2 ht)
                have HL2 := hid_of hlen2
                clear hlen2 ht hp2 hpp
                go_roundw
                case rel => exact ⟨k + 1, _, d1, f1, l1, n1, LA1, LB1, A1, c1, B1, c2, P2, cp2, L ++ [⟨o2, d2, f2⟩], _, by rw [HL2.out], by go_num, by omega, by rw [HL2.out]; omega, by omega, hid_of (HG2.out rfl), S23⟩
                case measure => simp [intOf]; omega
        · have hne : ((L.length : Int) == 0) = false := by rw [beq_eq_false_iff_ne]; omega
          go_wp2_with fail
          clear hne
          with_reducible refine (S12.out.pickN (by omega) L.length (by omega) (by omega)).mono ?_
          rintro e w13 ⟨j, rfl, hj, S13, hg13⟩
          obtain ⟨g, eP, _, _, _, hcells⟩ := S13.p.at_ hpos
          obtain ⟨p0, p1, p2⟩ := hcells j hj
          obtain ⟨⟨po, pd, pf⟩, hpt⟩ : ∃ p, pth L j = p := ⟨_, rfl⟩
          have HST : Hid (Sent ⟨d, f, l, n', LA, LB⟩ ⟨po, pd, pf⟩) := by rw [← hpt]; exact hid_of (HG.out.all _ (pth_mem hj))
          have HMEM : Hid ((⟨po, pd, pf⟩ : Pt) ∈ L) := by rw [← hpt]; exact hid_of (pth_mem hj)
          rw [hpt] at p0 p1 p2
          dsimp only at p0 p1 p2
          clear hpt hcells
          have hj0 : (0 : Int) ≤ (j : Int) := by omega
          have hj1 : (j : Int) < (L.length : Int) := by omega
          have S13 := hid_of S13
          have hs13 := hg13.size
          have hrb13 : rb < w13.heap.size := S13.out.rd.lt
          have hpb := hid_of ((Own3.newT (o := po) (d := pd) (f := pf) w13 27))
          subst eP
          go_wp2_with fail
          with_reducible refine ((S13.out.alloc _).pick (by omega) 2 (by omega) (by omega)).mono ?_
          rintro e w14 ⟨u, rfl, hu0, hu1, S14, hg14⟩
          clear p0 p1 p2 hj0 hj1 S13
          have hpb := hid_of (hpb.out.far3 hg14 (by omega))
          have hs14 : w13.heap.size < w14.heap.size := by have := hg14.size; simp at this; omega
          have hu : u = 0 ∨ u = 1 := by omega
          clear hu0 hu1 hg14 hg13
          obtain ⟨⟨x0, x1, x2, x3, x4, x5⟩, xf⟩ := S14.x
          obtain ⟨⟨p0, p1, p2⟩, pf'⟩ := hpb.out
          dsimp only at x0 x1 x2 x3 x4 x5
          have S14 := hid_of S14
          rcases hu with rfl | rfl
          · obtain ⟨⟨d1, f1, l1, n1, LA1, LB1⟩, hak⟩ : ∃ x, ack ⟨d, f, l, n', LA, LB⟩ ⟨po, pd, pf⟩ = x := ⟨_, rfl⟩
            have HAK := hid_of hak
            have HG1 : Hid (Good ⟨d1, f1, l1, n1, LA1, LB1⟩ L) := by rw [← hak]; exact hid_of (HG.out.ack HMEM.out)
            clear hak
            go_wp2_with (go_at_call 51; (with_reducible refine (l32Ack_v HAK.out HG.out.sv HST.out _ S14.out.a.reads S14.out.b.reads (fun e => S14.out.a.none_cap e) (fun e => S14.out.b.none_cap e)).mono ?_); rintro e w15 ⟨⟨_, rfl, A1, c1, B1, c2, rfl, hI, hJ, hap⟩, hb15⟩; have S15 := hid_of (S14.out.below hb15); have hs15 := hb15.size; clear x0 x1 x2 x3 x4 x5 xf p0 p1 p2 pf'; obtain ⟨⟨x0, x1, x2, x3, x4, x5⟩, xf⟩ := S15.out.x; dsimp only at x0 x1 x2 x3 x4 x5)
            have hxH := S15.out.xH
            have S16 := hid_of ((S15.out.lift (H' := w15.heap.size) S15.out.hH (Nat.le_refl _)).setAll ⟨d1, f1, l1, n1, LA1, LB1⟩ (hI.mono (by have := S15.out.hH; omega) (Nat.le_refl _)) (hJ.mono (by have := S15.out.hH; omega) (Nat.le_refl _)) hap)
            dsimp only at S16
            generalize hW : World.setCell (World.setCell (World.setCell (World.setCell (World.setCell (World.setCell w15 _ _) _ _) _ _) _ _) _ _) _ _ = w16 at S16 ⊢
            clear hW x0 x1 x2 x3 x4 x5 xf hI hJ hap S15
            go_roundw
            case rel => exact ⟨k + 1, _, d1, f1, l1, n1, LA1, LB1, A1, c1, B1, c2, _, cp, L, _, rfl, by go_num, by omega, by omega, by omega, HG1, S16⟩
            case measure => simp [intOf]; omega
          · obtain ⟨⟨d1, f1, l1, n1, LA1, LB1⟩, hak⟩ : ∃ x, loss ⟨d, f, l, n', LA, LB⟩ ⟨po, pd, pf⟩ = x := ⟨_, rfl⟩
            have HAK := hid_of hak
            have HG1 : Hid (Good ⟨d1, f1, l1, n1, LA1, LB1⟩ L) := by rw [← hak]; exact hid_of (HG.out.loss HMEM.out)
            clear hak
            go_wp2_with (go_at_call 57; (with_reducible refine (l32Loss_v HAK.out HG.out.sv HST.out _ S14.out.a.reads S14.out.b.reads (fun e => S14.out.a.none_cap e) (fun e => S14.out.b.none_cap e)).mono ?_); rintro e w15 ⟨⟨_, rfl, A1, c1, B1, c2, rfl, hI, hJ, hap⟩, hb15⟩; have S15 := hid_of (S14.out.below hb15); have hs15 := hb15.size; clear x0 x1 x2 x3 x4 x5 xf p0 p1 p2 pf'; obtain ⟨⟨x0, x1, x2, x3, x4, x5⟩, xf⟩ := S15.out.x; dsimp only at x0 x1 x2 x3 x4 x5)
            have hxH := S15.out.xH
            have S16 := hid_of ((S15.out.lift (H' := w15.heap.size) S15.out.hH (Nat.le_refl _)).setAll ⟨d1, f1, l1, n1, LA1, LB1⟩ (hI.mono (by have := S15.out.hH; omega) (Nat.le_refl _)) (hJ.mono (by have := S15.out.hH; omega) (Nat.le_refl _)) hap)
            dsimp only at S16
            generalize hW : World.setCell (World.setCell (World.setCell (World.setCell (World.setCell (World.setCell w15 _ _) _ _) _ _) _ _) _ _) _ _ = w16 at S16 ⊢
            clear hW x0 x1 x2 x3 x4 x5 xf hI hJ hap S15
            go_roundw
            case rel => exact ⟨k + 1, _, d1, f1, l1, n1, LA1, LB1, A1, c1, B1, c2, _, cp, L, _, rfl, by go_num, by omega, by omega, by omega, HG1, S16⟩
            case measure => simp [intOf]; omega
      · obtain ⟨⟨x0, x1, x2, x3, x4, x5⟩, xf⟩ := S11.x
        have hres2 := hid_of (hres.out.far S11.g (by omega))
        obtain ⟨⟨r0, r1, r2, r3, r4, r5⟩, rf⟩ := hres2.out
        dsimp only at x0 x1 x2 x3 x4 x5
        have S11 := hid_of S11
        go_wp2_with fail
        try simp only [Exit.inBlock, Exit.then]
        have hle := S11.out.le
        have hxH := S11.out.xH
        have hHs := S11.out.hH
        have hgg : w.grownBy w11 (some rb) := grown_trans hg0 S11.out.g
        refine bodyPost_ret (results_sb rfl rfl rfl (hres2.out.setAll d f l n' A LA.length ca B LB.length cb)) rfl ?_
        refine ⟨d, f, l, n', LA, LB, A, ca, B, cb, P, cp, L, rfl, HG.out, by omega, ?_, ?_, ?_, ?_, S11.out.ap, ?_⟩
        · repeat refine Rd.setCell ?_ (by show rb < w.heap.size; omega) _
          exact S11.out.rd.mono (by omega)
        · repeat refine grown_setCell ?_ (by show w.heap.size ≤ w.heap.size; omega) _
          exact hgg
        · refine RngIn.mono (B := xb + 1) (S := H) ?_ (by omega) (by simp [World.setCell]; omega)
          repeat refine RngIn.setLow ?_ (by show w.heap.size < xb + 1; omega) _
          exact S11.out.a
        · refine RngIn.mono (B := xb + 1) (S := H) ?_ (by omega) (by simp [World.setCell]; omega)
          repeat refine RngIn.setLow ?_ (by show w.heap.size < xb + 1; omega) _
          exact S11.out.b
        · refine PrtIn.mono (B := xb + 1) (S := H) ?_ (by omega) (by simp [World.setCell]; omega)
          repeat refine PrtIn.setLow ?_ (by show w.heap.size < xb + 1; omega) _
          exact S11.out.p
  · go_wp2_with fail
    have S5 : Hid (∃ lv : Int, (0 ≤ lv ∧ lv ≤ 30) ∧ SS w0 w4 W3.heap.size R rb (n + 1 + 1) xb ⟨⟨#[]⟩, false, lv, 0, [], []⟩ A0 0 B0 0 none 0 []) := ⟨v, by omega, S4.out⟩
    have hs5 := hs4
    clear x0 x1 x2 x3 x4 x5 xf S4 hg4 hs4
    obtain ⟨W5, hW5⟩ : ∃ W, w4 = W := ⟨_, rfl⟩
    rw [hW5] at S5 hs5 ⊢
    clear hW5
    clear S hv0 hv1
    obtain ⟨lv, ⟨hl0, hl1⟩, S5⟩ := S5.out
    have S5 := hid_of S5
    with_reducible refine (stream_any W5).mono ?_
    rintro e w6 ⟨⟨D, rfl, hD⟩, rfl⟩
    go_wp2_with fail
    with_reducible refine (S5.out.pick (by omega) 31 (by omega) (by omega)).mono ?_
    rintro e w7 ⟨q, rfl, hq0, hq1, S7, hg7⟩
    have hq : q ≤ (D.size : Int) := by omega
    have hs7 := hg7.size
    obtain ⟨⟨x0, x1, x2, x3, x4, x5⟩, xf⟩ := S7.x
    dsimp only at x0 x1 x2 x3 x4 x5
    go_wp2_with fail
    generalize hW8 : World.setCell w7 _ _ = W8
    have S8 : Hid (∃ d : ByteArray, d.size ≤ 30 ∧ SS w0 W8 W3.heap.size R rb (n + 1 + 1 + 1) xb ⟨d, false, lv, 0, [], []⟩ A0 0 B0 0 none 0 []) := by rw [← hW8]; exact ⟨_, by rw [ByteArray.size_extract]; omega, S7.setD _⟩
    clear hW8 x0 x1 x2 x3 x4 x5 xf S7 hg7
    obtain ⟨d, hd, S8⟩ := S8.out
    have S8 := hid_of S8
    with_reducible refine (S8.out.pick (by omega) 3 (by omega) (by omega)).mono ?_
    rintro e w9 ⟨z, rfl, hz0, hz1, S9, hg9⟩
    obtain ⟨⟨x0, x1, x2, x3, x4, x5⟩, xf⟩ := S9.x
    dsimp only at x0 x1 x2 x3 x4 x5
    go_wp2_with fail
    generalize hW10 : World.setCell w9 _ _ = W10
    have S10 : Hid (∃ f : Bool, SS w0 W10 W3.heap.size R rb (n + 1 + 1 + 1 + 1) xb ⟨d, f, lv, 0, [], []⟩ A0 0 B0 0 none 0 []) := by rw [← hW10]; exact ⟨_, S9.setF _⟩
    clear hW10 x0 x1 x2 x3 x4 x5 xf S9 hg9 S8 S5
    obtain ⟨f, S10⟩ := S10.out
    have S10 := hid_of S10
    go_loopw [6, 7] (fun ps i wr => ∃ (k m : Nat) (d : ByteArray) (f : Bool) (l n' : Int) (LA LB : List Rg) (A : Option Addr) (ca : Nat) (B : Option Addr) (cb : Nat) (P : Option Addr) (cp : Nat) (L : List Pt) (H : Nat), ps = .slice P L.length cp ∧ i = .int .i64 (k : Nat) ∧ k ≤ 12 ∧ L.length ≤ k ∧ m ≤ n + 10 + 4 * k ∧ Hid (Good ⟨d, f, l, n', LA, LB⟩ L) ∧ Hid (SS w0 wr H R rb m xb ⟨d, f, l, n', LA, LB⟩ A ca B cb P cp L)) (fun _ i _ => 12 - (intOf i).toNat)
    case atStart => exact ⟨0, n + 4, d, f, lv, 0, [], [], A0, 0, B0, 0, _, 0, [], _, rfl, rfl, by omega, by simp, by omega, good_start hd hl0 hl1, (S10.out.alloc _).noParts _⟩
    case round =>
      clear S10 hd hq hD hq0 hq1 hl0 hl1 hz0 hz1 hs7 hs5
      obtain ⟨k, m, d, f, l, n', LA, LB, A, ca, B, cb, P, cp, L, H, rfl, rfl, hk, hkL, hm, HG, S⟩ := hrel
      go_wp2_with fail
      with_reducible refine (S.out.pick (by omega) 12 (by omega) (by omega)).mono ?_
      rintro e w11 ⟨v, rfl, hv0, hv1, S11, hg11⟩
      clear S hg11
      by_cases hkv : (k : Int) < v
      · go_wp2_with fail
        with_reducible refine (S11.pick (by omega) 2 (by omega) (by omega)).mono ?_
        rintro e w12 ⟨u, rfl, hu0, hu1, S12, hg12⟩
        clear S11 hg12
        have S12 := hid_of (S12.lift S12.hH (Nat.le_refl _))
        have hcase : (u = 0 ∨ ((L.length : Int) == 0) = true) ∨ (u = 1 ∧ 0 < L.length) := by
          rcases (show u = 0 ∨ u = 1 from by omega) with e | e
          · exact .inl (.inl e)
          · rcases Nat.eq_zero_or_pos L.length with e' | e'
            · exact .inl (.inr (by rw [e']; rfl))
            · exact .inr ⟨e, e'⟩
        rcases hcase with hA | ⟨rfl, hpos⟩
        · rcases hA with rfl | hl0
          · go_wp2_with fail
            have hwb : rb < w12.heap.size := S12.out.rd.lt
            have inst : Nonempty (In (fun y => Own6 y xb d f l n' A LA.length ca B LB.length cb)) := ⟨⟨w12, S12.out.x⟩⟩
            have u0 := fun z : In (fun y => Own6 y xb d f l n' A LA.length ca B LB.length cb) => z.h.1.1
            have u1 := fun z : In (fun y => Own6 y xb d f l n' A LA.length ca B LB.length cb) => z.h.1.2.1
            have u2 := fun z : In (fun y => Own6 y xb d f l n' A LA.length ca B LB.length cb) => z.h.1.2.2.1
            have u3 := fun z : In (fun y => Own6 y xb d f l n' A LA.length ca B LB.length cb) => z.h.1.2.2.2.1
            have u4 := fun z : In (fun y => Own6 y xb d f l n' A LA.length ca B LB.length cb) => z.h.1.2.2.2.2.1
            have u5 := fun z : In (fun y => Own6 y xb d f l n' A LA.length ca B LB.length cb) => z.h.1.2.2.2.2.2
            refine wp_region_flt2 (fun y => Own6 y xb d f l n' A LA.length ca B LB.length cb) (fun y => SS w0 y w12.heap.size R rb (m + 1 + 1) xb ⟨d, f, l, n', LA, LB⟩ A ca B cb P cp L ∧ w12.heap.size ≤ y.heap.size) [(⟨9, 8, .cells #[.string (⟨#[]⟩ : ByteArray), .bool false, .int .i64 0, .int .i64 0, .slice none 0 0, .slice none 0 0] 25, fun x b => ∃ d f l n A na ca B nb cb, Own6 x b d f l n A na ca B nb cb⟩ : Flt), (⟨10, 9, .cells #[.int .i64 0, .string (⟨#[]⟩ : ByteArray), .bool false] 27, fun x b => ∃ o d f, Own3 x b o d f⟩ : Flt)] [([0, 1], 2), ([3], 4)] [5, 6, 7, 8] [([], 11), ([], 12)] [13] (by kernel_rfl) (by kernel_rfl) (floats_two (by decide) (floats_one ⟨_, rfl, rfl, rfl, fun e he => by simp at he, fun a w => by go_simp⟩ (fun w => ⟨_, _, _, _, _, _, _, _, _, _, Own6.newT w _⟩) (fun w w' b _ e ⟨x1, x2, x3, x4, x5, x6, x7, x8, x9, x10, h⟩ => ⟨x1, x2, x3, x4, x5, x6, x7, x8, x9, x10, h.of_block e⟩)) (floats_one ⟨_, rfl, rfl, rfl, fun e he => by simp at he, fun a w => by go_simp⟩ (fun w => ⟨_, _, _, Own3.newT w _⟩) (fun w w' b _ e ⟨x1, x2, x3, h⟩ => ⟨x1, x2, x3, h.of_block e⟩))) (fun y hy => ⟨hy.2, fun _ hg => (by cases hg), fun o => ⟨hy.1.alloc o, Nat.le_trans hy.2 (by simp)⟩⟩) (fun y hy => hy.1.x) (fun j => ⟨S12.out.drawn j, Nat.le_refl _⟩) ?_
            simp only [SeqF, opsAt, List.filterMap_cons, List.filterMap_nil, List.getElem?_cons_zero, List.getElem?_cons_succ]
            repeat (quiet_step (fail))
            refine wpQuiet_nil ?_
            refine ⟨_, rfl, rfl, turnsB_step2 fun Z w13 h13 hZ => ?_⟩
            clear inst u0 u1 u2 u3 u4 u5
            have hs13 := h13.2
            have S13 := h13.1
            clear h13
            go_simp
            with_reducible refine (S13.pick (by omega) 7 (by omega) (by omega)).mono ?_
            rintro e w14 ⟨y, rfl, hy0, hy1, S14, hg14⟩
            have hs14 := hg14.size
            have hy : 1 ≤ 1 + y ∧ 1 + y ≤ 1000 := by omega
            obtain ⟨⟨⟨d1, f1, l1, n1, LA1, LB1⟩, ⟨o2, d2, f2⟩, b1⟩, hnx⟩ : ∃ x, next ⟨d, f, l, n', LA, LB⟩ (1 + y) = x := ⟨_, rfl⟩
            have HNX := hid_of hnx
            clear hnx
            have hwy : IntKind.i64.wrap (1 + y) = 1 + y := IntWalk.i64_in _ (by omega)
            refine hZ (fun y => Own6 y xb d f l n' A LA.length ca B LB.length cb) (fun y => SS w0 y w12.heap.size R rb (m + 1 + 1 + 1) xb ⟨d, f, l, n', LA, LB⟩ A ca B cb P cp L ∧ w14.heap.size ≤ y.heap.size) _ _ (Keeps.of_grown hg14 hwb) ⟨S14, Nat.le_refl _⟩ (fun y hy => hy.1.x) (fun _ hx => hx) ⟨fun y hy => ⟨Nat.le_trans (by omega) hy.2, fun g hg => by obtain rfl : g = _ := (by simpa using hg); exact hy.2, fun o => ⟨hy.1.alloc o, Nat.le_trans hy.2 (by simp)⟩⟩, ?_⟩
            have inst : Nonempty (In (fun y => Own6 y xb d f l n' A LA.length ca B LB.length cb)) := ⟨⟨w14, S14.x⟩⟩
            clear hZ Z hg14 S13 S14
            repeat (quiet_step (fail))
            refine wpQuiet_nil ?_
            refine ⟨_, rfl, rfl, turnsB_step2 fun Z w15 h15 hZ => ?_⟩
            clear inst
            have hs15 := h15.2
            have S15 := hid_of h15.1
            clear h15
            go_simp
            with_reducible refine (next_v HNX.out HG.out.sv hy _ S15.out.a.reads S15.out.b.reads (fun e => S15.out.a.none_cap e) (fun e => S15.out.b.none_cap e)).mono ?_
            rintro e w16 ⟨⟨_, rfl, A1, c1, B1, c2, rfl, hI, hJ, hap⟩, hb16⟩
            have hs16 := hb16.size
            have I1 := hid_of (InSd.of_got' hI hJ hap)
            clear hI hJ hap
            refine hZ (fun y => Own6 y xb d f l n' A LA.length ca B LB.length cb) (fun y => SS w0 y w12.heap.size R rb (m + 1 + 1 + 1) xb ⟨d, f, l, n', LA, LB⟩ A ca B cb P cp L ∧ w16.heap.size ≤ y.heap.size ∧ InSd y w15.heap.size w16.heap.size A1 c1 B1 c2 LA1 LB1) _ _ (Keeps.of_below hb16) ⟨S15.out.below hb16, Nat.le_refl _, I1.out⟩ (fun y hy => hy.1.x) (fun _ hx => hx) ⟨fun y hy => ⟨Nat.le_trans (by omega) hy.2.1, fun g hg => by simp only [List.mem_cons, List.not_mem_nil, or_false] at hg; rcases hg with rfl | rfl <;> (dsimp only; exact Nat.le_trans (by omega) hy.2.1), fun o => ⟨hy.1.alloc o, Nat.le_trans hy.2.1 (by simp), hy.2.2.alloc o⟩⟩, ?_⟩
            have inst : Nonempty (In (fun y => Own6 y xb d f l n' A LA.length ca B LB.length cb)) := ⟨⟨w16, (S15.out.below hb16).x⟩⟩
            clear hZ Z hb16 S15 I1
            repeat (quiet_step (fail))
            refine wpQuiet_nil ?_
            clear inst
            refine flt_two (R := fun b c a => Seq _ _ _ _ _ b c a) (by decide) fun yb pb hyp hyb hpb hyg hpg hex => ?_
            simp only [Seq, opsAt, List.filterMap_cons, List.filterMap_nil, List.getElem?_cons_zero, List.getElem?_cons_succ]
            clear hex
            have hy16 := hyg (w15.heap.size, w16.heap.size) (by simp)
            have hp16 := hpg (w15.heap.size, w16.heap.size) (by simp)
            dsimp only at hy16 hp16
            clear hyg hpg
            refine wpQuiet_nil ?_
            refine ⟨_, rfl, rfl, turns_step2 fun Z hZ w17 h17 => ?_⟩
            obtain ⟨⟨S17, hs17, I17⟩, ⟨hyl, _, _, _, _, _, _, _, _, _, _, hY17⟩, hpl, _, _, _, hP17⟩ := h17
            have HY17 := hid_of hY17
            have HP17 := hid_of hP17
            have S17 := hid_of S17
            have I17 := hid_of I17
            clear hP17
            have hxb17 : xb < w12.heap.size := S17.out.xH
            obtain ⟨⟨r0, r1, r2, r3, r4, r5⟩, rf⟩ := hY17
            go_simp
            generalize hW : World.setCell (World.setCell (World.setCell (World.setCell (World.setCell (World.setCell w17 _ _) _ _) _ _) _ _) _ _) _ _ = w18
            have ht : Touch w17 w18 yb (yb + 1) := by rw [← hW]; exact touch6 _ _ _ _ _ _ _ _
            have S18 : Hid (SS w0 w18 w12.heap.size R rb (m + 1 + 1 + 1) xb ⟨d, f, l, n', LA, LB⟩ A ca B cb P cp L) := by rw [← hW]; exact hid_of (S17.out.stores6 hyb _ _ _ _ _ _)
            have HY18 : Hid (Own6 w18 yb d1 f1 l1 n1 A1 LA1.length c1 B1 LB1.length c2) := by rw [← hW]; exact hid_of (HY17.out.setAll _ _ _ _ _ _ _ _ _ _)
            have HP18 := hid_of (HP17.out.touch ht (by omega))
            have I18 := hid_of (I17.out.touch ht (by omega))
            have hs18 := ht.size
            clear hW r0 r1 r2 r3 r4 r5 rf ht HY17 HP17 S17 I17
            refine hZ (fun z => (fun y => Own6 y xb d f l n' A LA.length ca B LB.length cb) z ∧ (yb < z.heap.size ∧ ∃ d f l n A na ca B nb cb, Own6 z yb d f l n A na ca B nb cb) ∧ pb < z.heap.size ∧ ∃ o d f, Own3 z pb o d f) (fun y => y = w18) _ _ rfl (fun y e => by rw [e]; exact ⟨S18.out.x, ⟨by omega, _, _, _, _, _, _, _, _, _, _, HY18.out⟩, by omega, _, _, _, HP18.out⟩) (fun _ hx => hx) ?_
            clear hZ Z
            refine wpQuiet_nil ?_
            refine ⟨_, rfl, rfl, turns_step2 fun Z hZ w19 h19 => ?_⟩
            subst h19
            obtain ⟨⟨q0, q1, q2⟩, qf⟩ := HP18.out
            go_simp
            generalize hW : World.setCell (World.setCell (World.setCell w19 _ _) _ _) _ _ = w20
            have ht : Touch w19 w20 pb (pb + 1) := by rw [← hW]; exact touch3 _ _ _ _ _
            have S20 : Hid (SS w0 w20 w12.heap.size R rb (m + 1 + 1 + 1) xb ⟨d, f, l, n', LA, LB⟩ A ca B cb P cp L) := by rw [← hW]; exact hid_of (S18.out.stores3 hpb _ _ _)
            have HY20 := hid_of (HY18.out.touch ht (by omega))
            have HP20 : Hid (Own3 w20 pb o2 d2 f2) := by rw [← hW]; exact hid_of (HP18.out.setAll _ _ _)
            have I20 := hid_of (I18.out.touch ht (by omega))
            have hs20 := ht.size
            clear hW q0 q1 q2 qf ht HY18 HP18 S18 I18
            refine hZ (fun y => y = w20) (fun y => y = w20) _ _ rfl (fun _ hx => hx) (fun y e => by rw [e]; exact ⟨S20.out.x, ⟨by omega, _, _, _, _, _, _, _, _, _, _, HY20.out⟩, by omega, _, _, _, HP20.out⟩) ?_
            clear hZ Z
            have inst : Nonempty (In (fun y => y = w20)) := ⟨⟨w20, rfl⟩⟩
            repeat (quiet_step (fail))
            refine wpQuiet_nil ?_
            refine seq_last (C := fun y => y = w20) fun w21 e21 => ?_
            subst e21
            clear inst
            have hg12 := S20.out.xH
            have hS21 := S20.out.lift (H' := w21.heap.size) (by omega) (Nat.le_refl _)
            have S21 := hid_of (hS21.setAll ⟨d1, f1, l1, n1, LA1, LB1⟩ (I20.out.a.mono (by omega) (by omega)) (I20.out.b.mono (by omega) (by omega)) I20.out.apart)
            obtain ⟨⟨x0, x1, x2, x3, x4, x5⟩, xf⟩ := S20.out.x
            obtain ⟨⟨r0, r1, r2, r3, r4, r5⟩, rf⟩ := HY20.out
            dsimp only at x0 x1 x2 x3 x4 x5
            have HP22 := hid_of (HP20.out.touch (touch6 w21 xb (.string d1) (.bool f1) (.int .i64 l1) (.int .i64 n1) (.slice A1 LA1.length c1) (.slice B1 LB1.length c2)) (by omega))
            have hnxt := HNX.out
            have HG1 : Hid (Good ⟨d1, f1, l1, n1, LA1, LB1⟩ L) := by have := HG.out.nextNo hy.1; rw [hnxt] at this; exact this
            have HG2 : b1 = true → Good ⟨d1, f1, l1, n1, LA1, LB1⟩ (L ++ [⟨o2, d2, f2⟩]) := fun e => by have := HG.out.nextYes hy.1 (by rw [hnxt]; exact e); rw [hnxt] at this; exact this
            have HG2 := hid_of HG2
            clear hS21 hnxt hwy
            cases b1 with
            | false =>
              go_wp2_with fail
              generalize hW : World.setCell (World.setCell (World.setCell (World.setCell (World.setCell (World.setCell w21 _ _) _ _) _ _) _ _) _ _) _ _ = w22 at S21 ⊢
              clear hW x0 x1 x2 x3 x4 x5 xf r0 r1 r2 r3 r4 r5 rf
              go_roundw
              case rel => exact ⟨k + 1, _, d1, f1, l1, n1, LA1, LB1, A1, c1, B1, c2, P, cp, L, _, rfl, by go_num, by omega, by omega, by omega, HG1, S21⟩
              case measure => simp [intOf]; omega
            | true =>
              go_upto_region 13 with (fail)
              generalize hW : World.setCell (World.setCell (World.setCell (World.setCell (World.setCell (World.setCell w21 _ _) _ _) _ _) _ _) _ _) _ _ = w22 at S21 HP22 ⊢
              clear hW x0 x1 x2 x3 x4 x5 xf r0 r1 r2 r3 r4 r5 rf
              obtain ⟨⟨q0, q1, q2⟩, qf⟩ := HP22.out
              go_upto_region 14 with (fail)
              obtain ⟨g, Sg, hg1, hg2, hpp, hSg⟩ := (S21.out.alloc (.cells #[.int .i64 o2, .string d2, .bool f2] 27)).room
              have HSg := hid_of hSg
              clear hSg
              go_wp2_with (at_builtin; refine wpList_snoc_prt _ rfl _ _ rfl ⟨o2, d2, f2⟩ rfl hpp hg2 (by omega) rfl (by simp) (by simp) (by simp) ?_; intro P2 cp2 w23 hp2 ht)
              have hlen2 : (L ++ [(⟨o2, d2, f2⟩ : Pt)]).length = L.length + 1 := by rw [List.length_append]; rfl
              have S23 := hid_of ((S21.out.alloc _).snoc hg1 HSg.out hp2 ht)
              have HL2 := hid_of hlen2
              clear hlen2 ht hp2 hpp
              go_roundw
              case rel => exact ⟨k + 1, _, d1, f1, l1, n1, LA1, LB1, A1, c1, B1, c2, P2, cp2, L ++ [⟨o2, d2, f2⟩], _, by rw [HL2.out], by go_num, by omega, by rw [HL2.out]; omega, by omega, hid_of (HG2.out rfl), S23⟩
              case measure => simp [intOf]; omega
          · have hu : u = 0 ∨ u = 1 := by omega
            clear hu0 hu1
            rcases hu with rfl | rfl
            · go_wp2_with fail
              clear hl0
              have hwb : rb < w12.heap.size := S12.out.rd.lt
              have inst : Nonempty (In (fun y => Own6 y xb d f l n' A LA.length ca B LB.length cb)) := ⟨⟨w12, S12.out.x⟩⟩
              have u0 := fun z : In (fun y => Own6 y xb d f l n' A LA.length ca B LB.length cb) => z.h.1.1
              have u1 := fun z : In (fun y => Own6 y xb d f l n' A LA.length ca B LB.length cb) => z.h.1.2.1
              have u2 := fun z : In (fun y => Own6 y xb d f l n' A LA.length ca B LB.length cb) => z.h.1.2.2.1
              have u3 := fun z : In (fun y => Own6 y xb d f l n' A LA.length ca B LB.length cb) => z.h.1.2.2.2.1
              have u4 := fun z : In (fun y => Own6 y xb d f l n' A LA.length ca B LB.length cb) => z.h.1.2.2.2.2.1
              have u5 := fun z : In (fun y => Own6 y xb d f l n' A LA.length ca B LB.length cb) => z.h.1.2.2.2.2.2
              refine wp_region_flt2 (fun y => Own6 y xb d f l n' A LA.length ca B LB.length cb) (fun y => SS w0 y w12.heap.size R rb (m + 1 + 1) xb ⟨d, f, l, n', LA, LB⟩ A ca B cb P cp L ∧ w12.heap.size ≤ y.heap.size) [(⟨9, 8, .cells #[.string (⟨#[]⟩ : ByteArray), .bool false, .int .i64 0, .int .i64 0, .slice none 0 0, .slice none 0 0] 25, fun x b => ∃ d f l n A na ca B nb cb, Own6 x b d f l n A na ca B nb cb⟩ : Flt), (⟨10, 9, .cells #[.int .i64 0, .string (⟨#[]⟩ : ByteArray), .bool false] 27, fun x b => ∃ o d f, Own3 x b o d f⟩ : Flt)] [([0, 1], 2), ([3], 4)] [5, 6, 7, 8] [([], 11), ([], 12)] [13] (by kernel_rfl) (by kernel_rfl) (floats_two (by decide) (floats_one ⟨_, rfl, rfl, rfl, fun e he => by simp at he, fun a w => by go_simp⟩ (fun w => ⟨_, _, _, _, _, _, _, _, _, _, Own6.newT w _⟩) (fun w w' b _ e ⟨x1, x2, x3, x4, x5, x6, x7, x8, x9, x10, h⟩ => ⟨x1, x2, x3, x4, x5, x6, x7, x8, x9, x10, h.of_block e⟩)) (floats_one ⟨_, rfl, rfl, rfl, fun e he => by simp at he, fun a w => by go_simp⟩ (fun w => ⟨_, _, _, Own3.newT w _⟩) (fun w w' b _ e ⟨x1, x2, x3, h⟩ => ⟨x1, x2, x3, h.of_block e⟩))) (fun y hy => ⟨hy.2, fun _ hg => (by cases hg), fun o => ⟨hy.1.alloc o, Nat.le_trans hy.2 (by simp)⟩⟩) (fun y hy => hy.1.x) (fun j => ⟨S12.out.drawn j, Nat.le_refl _⟩) ?_
              simp only [SeqF, opsAt, List.filterMap_cons, List.filterMap_nil, List.getElem?_cons_zero, List.getElem?_cons_succ]
              repeat (quiet_step (fail))
              refine wpQuiet_nil ?_
              refine ⟨_, rfl, rfl, turnsB_step2 fun Z w13 h13 hZ => ?_⟩
              clear inst u0 u1 u2 u3 u4 u5
              have hs13 := h13.2
              have S13 := h13.1
              clear h13
              go_simp
              with_reducible refine (S13.pick (by omega) 7 (by omega) (by omega)).mono ?_
              rintro e w14 ⟨y, rfl, hy0, hy1, S14, hg14⟩
              have hs14 := hg14.size
              have hy : 1 ≤ 1 + y ∧ 1 + y ≤ 1000 := by omega
              obtain ⟨⟨⟨d1, f1, l1, n1, LA1, LB1⟩, ⟨o2, d2, f2⟩, b1⟩, hnx⟩ : ∃ x, next ⟨d, f, l, n', LA, LB⟩ (1 + y) = x := ⟨_, rfl⟩
              have HNX := hid_of hnx
              clear hnx
              have hwy : IntKind.i64.wrap (1 + y) = 1 + y := IntWalk.i64_in _ (by omega)
              refine hZ (fun y => Own6 y xb d f l n' A LA.length ca B LB.length cb) (fun y => SS w0 y w12.heap.size R rb (m + 1 + 1 + 1) xb ⟨d, f, l, n', LA, LB⟩ A ca B cb P cp L ∧ w14.heap.size ≤ y.heap.size) _ _ (Keeps.of_grown hg14 hwb) ⟨S14, Nat.le_refl _⟩ (fun y hy => hy.1.x) (fun _ hx => hx) ⟨fun y hy => ⟨Nat.le_trans (by omega) hy.2, fun g hg => by obtain rfl : g = _ := (by simpa using hg); exact hy.2, fun o => ⟨hy.1.alloc o, Nat.le_trans hy.2 (by simp)⟩⟩, ?_⟩
              have inst : Nonempty (In (fun y => Own6 y xb d f l n' A LA.length ca B LB.length cb)) := ⟨⟨w14, S14.x⟩⟩
              clear hZ Z hg14 S13 S14
              repeat (quiet_step (fail))
              refine wpQuiet_nil ?_
              refine ⟨_, rfl, rfl, turnsB_step2 fun Z w15 h15 hZ => ?_⟩
              clear inst
              have hs15 := h15.2
              have S15 := hid_of h15.1
              clear h15
              go_simp
              with_reducible refine (next_v HNX.out HG.out.sv hy _ S15.out.a.reads S15.out.b.reads (fun e => S15.out.a.none_cap e) (fun e => S15.out.b.none_cap e)).mono ?_
              rintro e w16 ⟨⟨_, rfl, A1, c1, B1, c2, rfl, hI, hJ, hap⟩, hb16⟩
              have hs16 := hb16.size
              have I1 := hid_of (InSd.of_got' hI hJ hap)
              clear hI hJ hap
              refine hZ (fun y => Own6 y xb d f l n' A LA.length ca B LB.length cb) (fun y => SS w0 y w12.heap.size R rb (m + 1 + 1 + 1) xb ⟨d, f, l, n', LA, LB⟩ A ca B cb P cp L ∧ w16.heap.size ≤ y.heap.size ∧ InSd y w15.heap.size w16.heap.size A1 c1 B1 c2 LA1 LB1) _ _ (Keeps.of_below hb16) ⟨S15.out.below hb16, Nat.le_refl _, I1.out⟩ (fun y hy => hy.1.x) (fun _ hx => hx) ⟨fun y hy => ⟨Nat.le_trans (by omega) hy.2.1, fun g hg => by simp only [List.mem_cons, List.not_mem_nil, or_false] at hg; rcases hg with rfl | rfl <;> (dsimp only; exact Nat.le_trans (by omega) hy.2.1), fun o => ⟨hy.1.alloc o, Nat.le_trans hy.2.1 (by simp), hy.2.2.alloc o⟩⟩, ?_⟩
              have inst : Nonempty (In (fun y => Own6 y xb d f l n' A LA.length ca B LB.length cb)) := ⟨⟨w16, (S15.out.below hb16).x⟩⟩
              clear hZ Z hb16 S15 I1
              repeat (quiet_step (fail))
              refine wpQuiet_nil ?_
              clear inst
              refine flt_two (R := fun b c a => Seq _ _ _ _ _ b c a) (by decide) fun yb pb hyp hyb hpb hyg hpg hex => ?_
              simp only [Seq, opsAt, List.filterMap_cons, List.filterMap_nil, List.getElem?_cons_zero, List.getElem?_cons_succ]
              clear hex
              have hy16 := hyg (w15.heap.size, w16.heap.size) (by simp)
              have hp16 := hpg (w15.heap.size, w16.heap.size) (by simp)
              dsimp only at hy16 hp16
              clear hyg hpg
              refine wpQuiet_nil ?_
              refine ⟨_, rfl, rfl, turns_step2 fun Z hZ w17 h17 => ?_⟩
              obtain ⟨⟨S17, hs17, I17⟩, ⟨hyl, _, _, _, _, _, _, _, _, _, _, hY17⟩, hpl, _, _, _, hP17⟩ := h17
              have HY17 := hid_of hY17
              have HP17 := hid_of hP17
              have S17 := hid_of S17
              have I17 := hid_of I17
              clear hP17
              have hxb17 : xb < w12.heap.size := S17.out.xH
              obtain ⟨⟨r0, r1, r2, r3, r4, r5⟩, rf⟩ := hY17
              go_simp
              generalize hW : World.setCell (World.setCell (World.setCell (World.setCell (World.setCell (World.setCell w17 _ _) _ _) _ _) _ _) _ _) _ _ = w18
              have ht : Touch w17 w18 yb (yb + 1) := by rw [← hW]; exact touch6 _ _ _ _ _ _ _ _
              have S18 : Hid (SS w0 w18 w12.heap.size R rb (m + 1 + 1 + 1) xb ⟨d, f, l, n', LA, LB⟩ A ca B cb P cp L) := by rw [← hW]; exact hid_of (S17.out.stores6 hyb _ _ _ _ _ _)
              have HY18 : Hid (Own6 w18 yb d1 f1 l1 n1 A1 LA1.length c1 B1 LB1.length c2) := by rw [← hW]; exact hid_of (HY17.out.setAll _ _ _ _ _ _ _ _ _ _)
              have HP18 := hid_of (HP17.out.touch ht (by omega))
              have I18 := hid_of (I17.out.touch ht (by omega))
              have hs18 := ht.size
              clear hW r0 r1 r2 r3 r4 r5 rf ht HY17 HP17 S17 I17
              refine hZ (fun z => (fun y => Own6 y xb d f l n' A LA.length ca B LB.length cb) z ∧ (yb < z.heap.size ∧ ∃ d f l n A na ca B nb cb, Own6 z yb d f l n A na ca B nb cb) ∧ pb < z.heap.size ∧ ∃ o d f, Own3 z pb o d f) (fun y => y = w18) _ _ rfl (fun y e => by rw [e]; exact ⟨S18.out.x, ⟨by omega, _, _, _, _, _, _, _, _, _, _, HY18.out⟩, by omega, _, _, _, HP18.out⟩) (fun _ hx => hx) ?_
              clear hZ Z
              refine wpQuiet_nil ?_
              refine ⟨_, rfl, rfl, turns_step2 fun Z hZ w19 h19 => ?_⟩
              subst h19
              obtain ⟨⟨q0, q1, q2⟩, qf⟩ := HP18.out
              go_simp
              generalize hW : World.setCell (World.setCell (World.setCell w19 _ _) _ _) _ _ = w20
              have ht : Touch w19 w20 pb (pb + 1) := by rw [← hW]; exact touch3 _ _ _ _ _
              have S20 : Hid (SS w0 w20 w12.heap.size R rb (m + 1 + 1 + 1) xb ⟨d, f, l, n', LA, LB⟩ A ca B cb P cp L) := by rw [← hW]; exact hid_of (S18.out.stores3 hpb _ _ _)
              have HY20 := hid_of (HY18.out.touch ht (by omega))
              have HP20 : Hid (Own3 w20 pb o2 d2 f2) := by rw [← hW]; exact hid_of (HP18.out.setAll _ _ _)
              have I20 := hid_of (I18.out.touch ht (by omega))
              have hs20 := ht.size
              clear hW q0 q1 q2 qf ht HY18 HP18 S18 I18
              refine hZ (fun y => y = w20) (fun y => y = w20) _ _ rfl (fun _ hx => hx) (fun y e => by rw [e]; exact ⟨S20.out.x, ⟨by omega, _, _, _, _, _, _, _, _, _, _, HY20.out⟩, by omega, _, _, _, HP20.out⟩) ?_
              clear hZ Z
              have inst : Nonempty (In (fun y => y = w20)) := ⟨⟨w20, rfl⟩⟩
              repeat (quiet_step (fail))
              refine wpQuiet_nil ?_
              refine seq_last (C := fun y => y = w20) fun w21 e21 => ?_
              subst e21
              clear inst
              have hg12 := S20.out.xH
              have hS21 := S20.out.lift (H' := w21.heap.size) (by omega) (Nat.le_refl _)
              have S21 := hid_of (hS21.setAll ⟨d1, f1, l1, n1, LA1, LB1⟩ (I20.out.a.mono (by omega) (by omega)) (I20.out.b.mono (by omega) (by omega)) I20.out.apart)
              obtain ⟨⟨x0, x1, x2, x3, x4, x5⟩, xf⟩ := S20.out.x
              obtain ⟨⟨r0, r1, r2, r3, r4, r5⟩, rf⟩ := HY20.out
              dsimp only at x0 x1 x2 x3 x4 x5
              have HP22 := hid_of (HP20.out.touch (touch6 w21 xb (.string d1) (.bool f1) (.int .i64 l1) (.int .i64 n1) (.slice A1 LA1.length c1) (.slice B1 LB1.length c2)) (by omega))
              have hnxt := HNX.out
              have HG1 : Hid (Good ⟨d1, f1, l1, n1, LA1, LB1⟩ L) := by have := HG.out.nextNo hy.1; rw [hnxt] at this; exact this
              have HG2 : b1 = true → Good ⟨d1, f1, l1, n1, LA1, LB1⟩ (L ++ [⟨o2, d2, f2⟩]) := fun e => by have := HG.out.nextYes hy.1 (by rw [hnxt]; exact e); rw [hnxt] at this; exact this
              have HG2 := hid_of HG2
              clear hS21 hnxt hwy
              cases b1 with
              | false =>
                go_wp2_with fail
                generalize hW : World.setCell (World.setCell (World.setCell (World.setCell (World.setCell (World.setCell w21 _ _) _ _) _ _) _ _) _ _) _ _ = w22 at S21 ⊢
                clear hW x0 x1 x2 x3 x4 x5 xf r0 r1 r2 r3 r4 r5 rf
                go_roundw
                case rel => exact ⟨k + 1, _, d1, f1, l1, n1, LA1, LB1, A1, c1, B1, c2, P, cp, L, _, rfl, by go_num, by omega, by omega, by omega, HG1, S21⟩
                case measure => simp [intOf]; omega
              | true =>
                go_upto_region 13 with (fail)
                generalize hW : World.setCell (World.setCell (World.setCell (World.setCell (World.setCell (World.setCell w21 _ _) _ _) _ _) _ _) _ _) _ _ = w22 at S21 HP22 ⊢
                clear hW x0 x1 x2 x3 x4 x5 xf r0 r1 r2 r3 r4 r5 rf
                obtain ⟨⟨q0, q1, q2⟩, qf⟩ := HP22.out
                go_upto_region 14 with (fail)
                obtain ⟨g, Sg, hg1, hg2, hpp, hSg⟩ := (S21.out.alloc (.cells #[.int .i64 o2, .string d2, .bool f2] 27)).room
                have HSg := hid_of hSg
                clear hSg
                go_wp2_with (at_builtin; refine wpList_snoc_prt _ rfl _ _ rfl ⟨o2, d2, f2⟩ rfl hpp hg2 (by omega) rfl (by simp) (by simp) (by simp) ?_; intro P2 cp2 w23 hp2 ht)
                have hlen2 : (L ++ [(⟨o2, d2, f2⟩ : Pt)]).length = L.length + 1 := by rw [List.length_append]; rfl
                have S23 := hid_of ((S21.out.alloc _).snoc hg1 HSg.out hp2 ht)
                have HL2 := hid_of hlen2
                clear hlen2 ht hp2 hpp
                go_roundw
                case rel => exact ⟨k + 1, _, d1, f1, l1, n1, LA1, LB1, A1, c1, B1, c2, P2, cp2, L ++ [⟨o2, d2, f2⟩], _, by rw [HL2.out], by go_num, by omega, by rw [HL2.out]; omega, by omega, hid_of (HG2.out rfl), S23⟩
                case measure => simp [intOf]; omega
            · go_wp2_with fail
              clear hl0
              have hwb : rb < w12.heap.size := S12.out.rd.lt
              have inst : Nonempty (In (fun y => Own6 y xb d f l n' A LA.length ca B LB.length cb)) := ⟨⟨w12, S12.out.x⟩⟩
              have u0 := fun z : In (fun y => Own6 y xb d f l n' A LA.length ca B LB.length cb) => z.h.1.1
              have u1 := fun z : In (fun y => Own6 y xb d f l n' A LA.length ca B LB.length cb) => z.h.1.2.1
              have u2 := fun z : In (fun y => Own6 y xb d f l n' A LA.length ca B LB.length cb) => z.h.1.2.2.1
              have u3 := fun z : In (fun y => Own6 y xb d f l n' A LA.length ca B LB.length cb) => z.h.1.2.2.2.1
              have u4 := fun z : In (fun y => Own6 y xb d f l n' A LA.length ca B LB.length cb) => z.h.1.2.2.2.2.1
              have u5 := fun z : In (fun y => Own6 y xb d f l n' A LA.length ca B LB.length cb) => z.h.1.2.2.2.2.2
              refine wp_region_flt2 (fun y => Own6 y xb d f l n' A LA.length ca B LB.length cb) (fun y => SS w0 y w12.heap.size R rb (m + 1 + 1) xb ⟨d, f, l, n', LA, LB⟩ A ca B cb P cp L ∧ w12.heap.size ≤ y.heap.size) [(⟨9, 8, .cells #[.string (⟨#[]⟩ : ByteArray), .bool false, .int .i64 0, .int .i64 0, .slice none 0 0, .slice none 0 0] 25, fun x b => ∃ d f l n A na ca B nb cb, Own6 x b d f l n A na ca B nb cb⟩ : Flt), (⟨10, 9, .cells #[.int .i64 0, .string (⟨#[]⟩ : ByteArray), .bool false] 27, fun x b => ∃ o d f, Own3 x b o d f⟩ : Flt)] [([0, 1], 2), ([3], 4)] [5, 6, 7, 8] [([], 11), ([], 12)] [13] (by kernel_rfl) (by kernel_rfl) (floats_two (by decide) (floats_one ⟨_, rfl, rfl, rfl, fun e he => by simp at he, fun a w => by go_simp⟩ (fun w => ⟨_, _, _, _, _, _, _, _, _, _, Own6.newT w _⟩) (fun w w' b _ e ⟨x1, x2, x3, x4, x5, x6, x7, x8, x9, x10, h⟩ => ⟨x1, x2, x3, x4, x5, x6, x7, x8, x9, x10, h.of_block e⟩)) (floats_one ⟨_, rfl, rfl, rfl, fun e he => by simp at he, fun a w => by go_simp⟩ (fun w => ⟨_, _, _, Own3.newT w _⟩) (fun w w' b _ e ⟨x1, x2, x3, h⟩ => ⟨x1, x2, x3, h.of_block e⟩))) (fun y hy => ⟨hy.2, fun _ hg => (by cases hg), fun o => ⟨hy.1.alloc o, Nat.le_trans hy.2 (by simp)⟩⟩) (fun y hy => hy.1.x) (fun j => ⟨S12.out.drawn j, Nat.le_refl _⟩) ?_
              simp only [SeqF, opsAt, List.filterMap_cons, List.filterMap_nil, List.getElem?_cons_zero, List.getElem?_cons_succ]
              repeat (quiet_step (fail))
              refine wpQuiet_nil ?_
              refine ⟨_, rfl, rfl, turnsB_step2 fun Z w13 h13 hZ => ?_⟩
              clear inst u0 u1 u2 u3 u4 u5
              have hs13 := h13.2
              have S13 := h13.1
              clear h13
              go_simp
              with_reducible refine (S13.pick (by omega) 7 (by omega) (by omega)).mono ?_
              rintro e w14 ⟨y, rfl, hy0, hy1, S14, hg14⟩
              have hs14 := hg14.size
              have hy : 1 ≤ 1 + y ∧ 1 + y ≤ 1000 := by omega
              obtain ⟨⟨⟨d1, f1, l1, n1, LA1, LB1⟩, ⟨o2, d2, f2⟩, b1⟩, hnx⟩ : ∃ x, next ⟨d, f, l, n', LA, LB⟩ (1 + y) = x := ⟨_, rfl⟩
              have HNX := hid_of hnx
              clear hnx
              have hwy : IntKind.i64.wrap (1 + y) = 1 + y := IntWalk.i64_in _ (by omega)
              refine hZ (fun y => Own6 y xb d f l n' A LA.length ca B LB.length cb) (fun y => SS w0 y w12.heap.size R rb (m + 1 + 1 + 1) xb ⟨d, f, l, n', LA, LB⟩ A ca B cb P cp L ∧ w14.heap.size ≤ y.heap.size) _ _ (Keeps.of_grown hg14 hwb) ⟨S14, Nat.le_refl _⟩ (fun y hy => hy.1.x) (fun _ hx => hx) ⟨fun y hy => ⟨Nat.le_trans (by omega) hy.2, fun g hg => by obtain rfl : g = _ := (by simpa using hg); exact hy.2, fun o => ⟨hy.1.alloc o, Nat.le_trans hy.2 (by simp)⟩⟩, ?_⟩
              have inst : Nonempty (In (fun y => Own6 y xb d f l n' A LA.length ca B LB.length cb)) := ⟨⟨w14, S14.x⟩⟩
              clear hZ Z hg14 S13 S14
              repeat (quiet_step (fail))
              refine wpQuiet_nil ?_
              refine ⟨_, rfl, rfl, turnsB_step2 fun Z w15 h15 hZ => ?_⟩
              clear inst
              have hs15 := h15.2
              have S15 := hid_of h15.1
              clear h15
              go_simp
              with_reducible refine (next_v HNX.out HG.out.sv hy _ S15.out.a.reads S15.out.b.reads (fun e => S15.out.a.none_cap e) (fun e => S15.out.b.none_cap e)).mono ?_
              rintro e w16 ⟨⟨_, rfl, A1, c1, B1, c2, rfl, hI, hJ, hap⟩, hb16⟩
              have hs16 := hb16.size
              have I1 := hid_of (InSd.of_got' hI hJ hap)
              clear hI hJ hap
              refine hZ (fun y => Own6 y xb d f l n' A LA.length ca B LB.length cb) (fun y => SS w0 y w12.heap.size R rb (m + 1 + 1 + 1) xb ⟨d, f, l, n', LA, LB⟩ A ca B cb P cp L ∧ w16.heap.size ≤ y.heap.size ∧ InSd y w15.heap.size w16.heap.size A1 c1 B1 c2 LA1 LB1) _ _ (Keeps.of_below hb16) ⟨S15.out.below hb16, Nat.le_refl _, I1.out⟩ (fun y hy => hy.1.x) (fun _ hx => hx) ⟨fun y hy => ⟨Nat.le_trans (by omega) hy.2.1, fun g hg => by simp only [List.mem_cons, List.not_mem_nil, or_false] at hg; rcases hg with rfl | rfl <;> (dsimp only; exact Nat.le_trans (by omega) hy.2.1), fun o => ⟨hy.1.alloc o, Nat.le_trans hy.2.1 (by simp), hy.2.2.alloc o⟩⟩, ?_⟩
              have inst : Nonempty (In (fun y => Own6 y xb d f l n' A LA.length ca B LB.length cb)) := ⟨⟨w16, (S15.out.below hb16).x⟩⟩
              clear hZ Z hb16 S15 I1
              repeat (quiet_step (fail))
              refine wpQuiet_nil ?_
              clear inst
              refine flt_two (R := fun b c a => Seq _ _ _ _ _ b c a) (by decide) fun yb pb hyp hyb hpb hyg hpg hex => ?_
              simp only [Seq, opsAt, List.filterMap_cons, List.filterMap_nil, List.getElem?_cons_zero, List.getElem?_cons_succ]
              clear hex
              have hy16 := hyg (w15.heap.size, w16.heap.size) (by simp)
              have hp16 := hpg (w15.heap.size, w16.heap.size) (by simp)
              dsimp only at hy16 hp16
              clear hyg hpg
              refine wpQuiet_nil ?_
              refine ⟨_, rfl, rfl, turns_step2 fun Z hZ w17 h17 => ?_⟩
              obtain ⟨⟨S17, hs17, I17⟩, ⟨hyl, _, _, _, _, _, _, _, _, _, _, hY17⟩, hpl, _, _, _, hP17⟩ := h17
              have HY17 := hid_of hY17
              have HP17 := hid_of hP17
              have S17 := hid_of S17
              have I17 := hid_of I17
              clear hP17
              have hxb17 : xb < w12.heap.size := S17.out.xH
              obtain ⟨⟨r0, r1, r2, r3, r4, r5⟩, rf⟩ := hY17
              go_simp
              generalize hW : World.setCell (World.setCell (World.setCell (World.setCell (World.setCell (World.setCell w17 _ _) _ _) _ _) _ _) _ _) _ _ = w18
              have ht : Touch w17 w18 yb (yb + 1) := by rw [← hW]; exact touch6 _ _ _ _ _ _ _ _
              have S18 : Hid (SS w0 w18 w12.heap.size R rb (m + 1 + 1 + 1) xb ⟨d, f, l, n', LA, LB⟩ A ca B cb P cp L) := by rw [← hW]; exact hid_of (S17.out.stores6 hyb _ _ _ _ _ _)
              have HY18 : Hid (Own6 w18 yb d1 f1 l1 n1 A1 LA1.length c1 B1 LB1.length c2) := by rw [← hW]; exact hid_of (HY17.out.setAll _ _ _ _ _ _ _ _ _ _)
              have HP18 := hid_of (HP17.out.touch ht (by omega))
              have I18 := hid_of (I17.out.touch ht (by omega))
              have hs18 := ht.size
              clear hW r0 r1 r2 r3 r4 r5 rf ht HY17 HP17 S17 I17
              refine hZ (fun z => (fun y => Own6 y xb d f l n' A LA.length ca B LB.length cb) z ∧ (yb < z.heap.size ∧ ∃ d f l n A na ca B nb cb, Own6 z yb d f l n A na ca B nb cb) ∧ pb < z.heap.size ∧ ∃ o d f, Own3 z pb o d f) (fun y => y = w18) _ _ rfl (fun y e => by rw [e]; exact ⟨S18.out.x, ⟨by omega, _, _, _, _, _, _, _, _, _, _, HY18.out⟩, by omega, _, _, _, HP18.out⟩) (fun _ hx => hx) ?_
              clear hZ Z
              refine wpQuiet_nil ?_
              refine ⟨_, rfl, rfl, turns_step2 fun Z hZ w19 h19 => ?_⟩
              subst h19
              obtain ⟨⟨q0, q1, q2⟩, qf⟩ := HP18.out
              go_simp
              generalize hW : World.setCell (World.setCell (World.setCell w19 _ _) _ _) _ _ = w20
              have ht : Touch w19 w20 pb (pb + 1) := by rw [← hW]; exact touch3 _ _ _ _ _
              have S20 : Hid (SS w0 w20 w12.heap.size R rb (m + 1 + 1 + 1) xb ⟨d, f, l, n', LA, LB⟩ A ca B cb P cp L) := by rw [← hW]; exact hid_of (S18.out.stores3 hpb _ _ _)
              have HY20 := hid_of (HY18.out.touch ht (by omega))
              have HP20 : Hid (Own3 w20 pb o2 d2 f2) := by rw [← hW]; exact hid_of (HP18.out.setAll _ _ _)
              have I20 := hid_of (I18.out.touch ht (by omega))
              have hs20 := ht.size
              clear hW q0 q1 q2 qf ht HY18 HP18 S18 I18
              refine hZ (fun y => y = w20) (fun y => y = w20) _ _ rfl (fun _ hx => hx) (fun y e => by rw [e]; exact ⟨S20.out.x, ⟨by omega, _, _, _, _, _, _, _, _, _, _, HY20.out⟩, by omega, _, _, _, HP20.out⟩) ?_
              clear hZ Z
              have inst : Nonempty (In (fun y => y = w20)) := ⟨⟨w20, rfl⟩⟩
              repeat (quiet_step (fail))
              refine wpQuiet_nil ?_
              refine seq_last (C := fun y => y = w20) fun w21 e21 => ?_
              subst e21
              clear inst
              have hg12 := S20.out.xH
              have hS21 := S20.out.lift (H' := w21.heap.size) (by omega) (Nat.le_refl _)
              have S21 := hid_of (hS21.setAll ⟨d1, f1, l1, n1, LA1, LB1⟩ (I20.out.a.mono (by omega) (by omega)) (I20.out.b.mono (by omega) (by omega)) I20.out.apart)
              obtain ⟨⟨x0, x1, x2, x3, x4, x5⟩, xf⟩ := S20.out.x
              obtain ⟨⟨r0, r1, r2, r3, r4, r5⟩, rf⟩ := HY20.out
              dsimp only at x0 x1 x2 x3 x4 x5
              have HP22 := hid_of (HP20.out.touch (touch6 w21 xb (.string d1) (.bool f1) (.int .i64 l1) (.int .i64 n1) (.slice A1 LA1.length c1) (.slice B1 LB1.length c2)) (by omega))
              have hnxt := HNX.out
              have HG1 : Hid (Good ⟨d1, f1, l1, n1, LA1, LB1⟩ L) := by have := HG.out.nextNo hy.1; rw [hnxt] at this; exact this
              have HG2 : b1 = true → Good ⟨d1, f1, l1, n1, LA1, LB1⟩ (L ++ [⟨o2, d2, f2⟩]) := fun e => by have := HG.out.nextYes hy.1 (by rw [hnxt]; exact e); rw [hnxt] at this; exact this
              have HG2 := hid_of HG2
              clear hS21 hnxt hwy
              cases b1 with
              | false =>
                go_wp2_with fail
                generalize hW : World.setCell (World.setCell (World.setCell (World.setCell (World.setCell (World.setCell w21 _ _) _ _) _ _) _ _) _ _) _ _ = w22 at S21 ⊢
                clear hW x0 x1 x2 x3 x4 x5 xf r0 r1 r2 r3 r4 r5 rf
                go_roundw
                case rel => exact ⟨k + 1, _, d1, f1, l1, n1, LA1, LB1, A1, c1, B1, c2, P, cp, L, _, rfl, by go_num, by omega, by omega, by omega, HG1, S21⟩
                case measure => simp [intOf]; omega
              | true =>
                go_upto_region 13 with (fail)
                generalize hW : World.setCell (World.setCell (World.setCell (World.setCell (World.setCell (World.setCell w21 _ _) _ _) _ _) _ _) _ _) _ _ = w22 at S21 HP22 ⊢
                clear hW x0 x1 x2 x3 x4 x5 xf r0 r1 r2 r3 r4 r5 rf
                obtain ⟨⟨q0, q1, q2⟩, qf⟩ := HP22.out
                go_upto_region 14 with (fail)
                obtain ⟨g, Sg, hg1, hg2, hpp, hSg⟩ := (S21.out.alloc (.cells #[.int .i64 o2, .string d2, .bool f2] 27)).room
                have HSg := hid_of hSg
                clear hSg
                go_wp2_with (at_builtin; refine wpList_snoc_prt _ rfl _ _ rfl ⟨o2, d2, f2⟩ rfl hpp hg2 (by omega) rfl (by simp) (by simp) (by simp) ?_; intro P2 cp2 w23 hp2 ht)
                have hlen2 : (L ++ [(⟨o2, d2, f2⟩ : Pt)]).length = L.length + 1 := by rw [List.length_append]; rfl
                have S23 := hid_of ((S21.out.alloc _).snoc hg1 HSg.out hp2 ht)
                have HL2 := hid_of hlen2
                clear hlen2 ht hp2 hpp
                go_roundw
                case rel => exact ⟨k + 1, _, d1, f1, l1, n1, LA1, LB1, A1, c1, B1, c2, P2, cp2, L ++ [⟨o2, d2, f2⟩], _, by rw [HL2.out], by go_num, by omega, by rw [HL2.out]; omega, by omega, hid_of (HG2.out rfl), S23⟩
                case measure => simp [intOf]; omega
        · have hne : ((L.length : Int) == 0) = false := by rw [beq_eq_false_iff_ne]; omega
          go_wp2_with fail
          clear hne
          with_reducible refine (S12.out.pickN (by omega) L.length (by omega) (by omega)).mono ?_
          rintro e w13 ⟨j, rfl, hj, S13, hg13⟩
          obtain ⟨g, eP, _, _, _, hcells⟩ := S13.p.at_ hpos
          obtain ⟨p0, p1, p2⟩ := hcells j hj
          obtain ⟨⟨po, pd, pf⟩, hpt⟩ : ∃ p, pth L j = p := ⟨_, rfl⟩
          have HST : Hid (Sent ⟨d, f, l, n', LA, LB⟩ ⟨po, pd, pf⟩) := by rw [← hpt]; exact hid_of (HG.out.all _ (pth_mem hj))
          have HMEM : Hid ((⟨po, pd, pf⟩ : Pt) ∈ L) := by rw [← hpt]; exact hid_of (pth_mem hj)
          rw [hpt] at p0 p1 p2
          dsimp only at p0 p1 p2
          clear hpt hcells
          have hj0 : (0 : Int) ≤ (j : Int) := by omega
          have hj1 : (j : Int) < (L.length : Int) := by omega
          have S13 := hid_of S13
          have hs13 := hg13.size
          have hrb13 : rb < w13.heap.size := S13.out.rd.lt
          have hpb := hid_of ((Own3.newT (o := po) (d := pd) (f := pf) w13 27))
          subst eP
          go_wp2_with fail
          with_reducible refine ((S13.out.alloc _).pick (by omega) 2 (by omega) (by omega)).mono ?_
          rintro e w14 ⟨u, rfl, hu0, hu1, S14, hg14⟩
          clear p0 p1 p2 hj0 hj1 S13
          have hpb := hid_of (hpb.out.far3 hg14 (by omega))
          have hs14 : w13.heap.size < w14.heap.size := by have := hg14.size; simp at this; omega
          have hu : u = 0 ∨ u = 1 := by omega
          clear hu0 hu1 hg14 hg13
          obtain ⟨⟨x0, x1, x2, x3, x4, x5⟩, xf⟩ := S14.x
          obtain ⟨⟨p0, p1, p2⟩, pf'⟩ := hpb.out
          dsimp only at x0 x1 x2 x3 x4 x5
          have S14 := hid_of S14
          rcases hu with rfl | rfl
          · obtain ⟨⟨d1, f1, l1, n1, LA1, LB1⟩, hak⟩ : ∃ x, ack ⟨d, f, l, n', LA, LB⟩ ⟨po, pd, pf⟩ = x := ⟨_, rfl⟩
            have HAK := hid_of hak
            have HG1 : Hid (Good ⟨d1, f1, l1, n1, LA1, LB1⟩ L) := by rw [← hak]; exact hid_of (HG.out.ack HMEM.out)
            clear hak
            go_wp2_with (go_at_call 51; (with_reducible refine (l32Ack_v HAK.out HG.out.sv HST.out _ S14.out.a.reads S14.out.b.reads (fun e => S14.out.a.none_cap e) (fun e => S14.out.b.none_cap e)).mono ?_); rintro e w15 ⟨⟨_, rfl, A1, c1, B1, c2, rfl, hI, hJ, hap⟩, hb15⟩; have S15 := hid_of (S14.out.below hb15); have hs15 := hb15.size; clear x0 x1 x2 x3 x4 x5 xf p0 p1 p2 pf'; obtain ⟨⟨x0, x1, x2, x3, x4, x5⟩, xf⟩ := S15.out.x; dsimp only at x0 x1 x2 x3 x4 x5)
            have hxH := S15.out.xH
            have S16 := hid_of ((S15.out.lift (H' := w15.heap.size) S15.out.hH (Nat.le_refl _)).setAll ⟨d1, f1, l1, n1, LA1, LB1⟩ (hI.mono (by have := S15.out.hH; omega) (Nat.le_refl _)) (hJ.mono (by have := S15.out.hH; omega) (Nat.le_refl _)) hap)
            dsimp only at S16
            generalize hW : World.setCell (World.setCell (World.setCell (World.setCell (World.setCell (World.setCell w15 _ _) _ _) _ _) _ _) _ _) _ _ = w16 at S16 ⊢
            clear hW x0 x1 x2 x3 x4 x5 xf hI hJ hap S15
            go_roundw
            case rel => exact ⟨k + 1, _, d1, f1, l1, n1, LA1, LB1, A1, c1, B1, c2, _, cp, L, _, rfl, by go_num, by omega, by omega, by omega, HG1, S16⟩
            case measure => simp [intOf]; omega
          · obtain ⟨⟨d1, f1, l1, n1, LA1, LB1⟩, hak⟩ : ∃ x, loss ⟨d, f, l, n', LA, LB⟩ ⟨po, pd, pf⟩ = x := ⟨_, rfl⟩
            have HAK := hid_of hak
            have HG1 : Hid (Good ⟨d1, f1, l1, n1, LA1, LB1⟩ L) := by rw [← hak]; exact hid_of (HG.out.loss HMEM.out)
            clear hak
            go_wp2_with (go_at_call 57; (with_reducible refine (l32Loss_v HAK.out HG.out.sv HST.out _ S14.out.a.reads S14.out.b.reads (fun e => S14.out.a.none_cap e) (fun e => S14.out.b.none_cap e)).mono ?_); rintro e w15 ⟨⟨_, rfl, A1, c1, B1, c2, rfl, hI, hJ, hap⟩, hb15⟩; have S15 := hid_of (S14.out.below hb15); have hs15 := hb15.size; clear x0 x1 x2 x3 x4 x5 xf p0 p1 p2 pf'; obtain ⟨⟨x0, x1, x2, x3, x4, x5⟩, xf⟩ := S15.out.x; dsimp only at x0 x1 x2 x3 x4 x5)
            have hxH := S15.out.xH
            have S16 := hid_of ((S15.out.lift (H' := w15.heap.size) S15.out.hH (Nat.le_refl _)).setAll ⟨d1, f1, l1, n1, LA1, LB1⟩ (hI.mono (by have := S15.out.hH; omega) (Nat.le_refl _)) (hJ.mono (by have := S15.out.hH; omega) (Nat.le_refl _)) hap)
            dsimp only at S16
            generalize hW : World.setCell (World.setCell (World.setCell (World.setCell (World.setCell (World.setCell w15 _ _) _ _) _ _) _ _) _ _) _ _ = w16 at S16 ⊢
            clear hW x0 x1 x2 x3 x4 x5 xf hI hJ hap S15
            go_roundw
            case rel => exact ⟨k + 1, _, d1, f1, l1, n1, LA1, LB1, A1, c1, B1, c2, _, cp, L, _, rfl, by go_num, by omega, by omega, by omega, HG1, S16⟩
            case measure => simp [intOf]; omega
      · obtain ⟨⟨x0, x1, x2, x3, x4, x5⟩, xf⟩ := S11.x
        have hres2 := hid_of (hres.out.far S11.g (by omega))
        obtain ⟨⟨r0, r1, r2, r3, r4, r5⟩, rf⟩ := hres2.out
        dsimp only at x0 x1 x2 x3 x4 x5
        have S11 := hid_of S11
        go_wp2_with fail
        try simp only [Exit.inBlock, Exit.then]
        have hle := S11.out.le
        have hxH := S11.out.xH
        have hHs := S11.out.hH
        have hgg : w.grownBy w11 (some rb) := grown_trans hg0 S11.out.g
        refine bodyPost_ret (results_sb rfl rfl rfl (hres2.out.setAll d f l n' A LA.length ca B LB.length cb)) rfl ?_
        refine ⟨d, f, l, n', LA, LB, A, ca, B, cb, P, cp, L, rfl, HG.out, by omega, ?_, ?_, ?_, ?_, S11.out.ap, ?_⟩
        · repeat refine Rd.setCell ?_ (by show rb < w.heap.size; omega) _
          exact S11.out.rd.mono (by omega)
        · repeat refine grown_setCell ?_ (by show w.heap.size ≤ w.heap.size; omega) _
          exact hgg
        · refine RngIn.mono (B := xb + 1) (S := H) ?_ (by omega) (by simp [World.setCell]; omega)
          repeat refine RngIn.setLow ?_ (by show w.heap.size < xb + 1; omega) _
          exact S11.out.a
        · refine RngIn.mono (B := xb + 1) (S := H) ?_ (by omega) (by simp [World.setCell]; omega)
          repeat refine RngIn.setLow ?_ (by show w.heap.size < xb + 1; omega) _
          exact S11.out.b
        · refine PrtIn.mono (B := xb + 1) (S := H) ?_ (by omega) (by simp [World.setCell]; omega)
          repeat refine PrtIn.setLow ?_ (by show w.heap.size < xb + 1; omega) _
          exact S11.out.p

end Go.Proofs.Ytmkmaeblnnfheaa
