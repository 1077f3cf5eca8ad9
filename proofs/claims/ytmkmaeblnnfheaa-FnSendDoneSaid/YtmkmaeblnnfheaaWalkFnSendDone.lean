/- The walk of the law FnSendDone. -/
import Derived.Test.YtmkmaeblnnfheaaLawKit
import Derived.Test.YtmkmaeblnnfheaaMg6
import Derived.Test.YtmkmaeblnnfheaaDoneC
import Derived.Test.YtmkmaeblnnfheaaDrwF
import Derived.Test.YtmkmaeblnnfheaaMg5
import Derived.Test.YtmkmaeblnnfheaaLawKit3
namespace Go.Proofs.Ytmkmaeblnnfheaa
open Go.RowKit
attribute [local irreducible] Go.wpQuiet

set_option linter.unusedVariables false in
set_option maxRecDepth 100000 in
set_option maxHeartbeats 8000000 in
theorem walkFnSendDone (w : World) (a : Option Addr) (len cap : Nat) (zs : List Int) (h : IsRow .u8 w a len cap zs) :
    Calls Try.prog 9 #[.slice a len cap] w fun e w' => e = .returned (.bool true) ∧ Below w.heap.size w w' := by
  by_cases hllen : 1048576 < len
  · go_enter Try.func9, Try.ntmps9
    go_wp2
    go_ret
    exact ⟨rfl, Below.refl _ _⟩
  have BEL : Below w.heap.size w w := Below.refl _ _
  go_enter Try.func9, Try.ntmps9
  go_wp2_with fail
  with_reducible refine (drawDone_any _ a len cap zs h).mono ?_
  rintro e w1 ⟨d, f, l, n', LA, LB, A, ca, B, cb, rfl, ⟨hd, hA, hB⟩, hI, hJ, hb⟩
  have hsz1 := hb.size
  have BEL := BEL.trans (hb.mono BEL.size)
  have I0 := hid_of (In2.of hI hJ)
  clear hI hJ hb h
  obtain ⟨b, hx⟩ : ∃ b, doneB ⟨d, f, l, n', LA, LB⟩ = b := ⟨_, rfl⟩
  have HX := hid_of hx
  clear hx
  go_upto_region 4 with (fail)
  generalize hW : World.alloc w1 _ = w2
  have hb : Below w1.heap.size w1 w2 := by rw [← hW]; exact ba (Below.refl _ _) _
  have I0 := hid_of (I0.out.grow hb)
  have BEL := BEL.trans (hb.mono BEL.size)
  have hsz2 : w1.heap.size + 1 ≤ w2.heap.size := by rw [← hW]; simp
  have X3 : Hid (Own6 w2 w1.heap.size d f l n' A LA.length ca B LB.length cb) := by rw [← hW]; exact hid_of (Own6.newT _ _)
  clear hW hb
  cases b with
  | false =>
    obtain ⟨⟨c30, c31, c32, c33, c34, c35⟩, c3f⟩ := X3.out
    go_wp2_with (first | (go_at_call 32; (with_reducible refine (done_i HX.out _ I0.out.a I0.out.b (by omega) (by omega)).mono ?_); rintro e wn ⟨rfl, hb⟩; have X3 := hid_of (X3.out.grow hb); have I0 := hid_of (I0.out.grow hb); have BEL := BEL.trans (hb.mono BEL.size); obtain ⟨⟨c30, c31, c32, c33, c34, c35⟩, c3f⟩ := X3.out; clear hb) | (go_at_call 33; (with_reducible refine (done_s HX.out _ I0.out.a I0.out.b (by omega) (by omega)).mono ?_); rintro e wn ⟨rfl, hb⟩; have X3 := hid_of (X3.out.grow hb); have I0 := hid_of (I0.out.grow hb); have BEL := BEL.trans (hb.mono BEL.size); obtain ⟨⟨c30, c31, c32, c33, c34, c35⟩, c3f⟩ := X3.out; clear hb))
    go_ret
    exact ⟨rfl, BEL⟩
  | true =>
    obtain ⟨hs, hf, -⟩ := doneB_iff.1 HX.out
    obtain ⟨hL, hnx, hmem⟩ := done_next HX.out (k := 12) (by omega)
    dsimp only at hf hL hmem
    subst hf
    have hL0 : LB.length = 0 := by rw [hL]; rfl
    have e1 : (LB.length == 0) = true := by rw [hL0]; rfl
    have e2 : ((LB.length : Int) == 0) = true := by rw [hL0]; rfl
    have VA := hid_of (rvB_iff.2 hs.a)
    dsimp only at VA
    have HM := hid_of hmem
    rw [← sendNext_valid hs (by omega) (by omega)] at hnx
    obtain ⟨⟨⟨d1, f1, l1, n1, LA1, LB1⟩, ⟨o2, d2, f2⟩, b2⟩, hx2⟩ : ∃ x, sendNext ⟨d, true, l, n', LA, LB⟩ 12 = x := ⟨_, rfl⟩
    have hlen : LA1.length ≤ 2000000 ∧ LB1.length ≤ 2000000 := by have := sendNext_len ⟨d, true, l, n', LA, LB⟩ 12; rw [hx2] at this; exact ⟨by have := this.1; dsimp only at this; omega, by have := this.2; dsimp only at this; omega⟩
    obtain ⟨hl1, hl2⟩ := hlen
    have hb2 : b2 = false := by rw [hx2] at hnx; exact congrArg (fun x => x.2.2) hnx
    subst hb2
    have HX2 := hid_of hx2
    clear hx2 hnx hs hmem hL hL0
    obtain ⟨⟨c30, c31, c32, c33, c34, c35⟩, c3f⟩ := X3.out
    go_wp2_with (first | (go_at_call 32; (with_reducible refine (done_i HX.out _ I0.out.a I0.out.b (by omega) (by omega)).mono ?_); rintro e wn ⟨rfl, hb⟩; have X3 := hid_of (X3.out.grow hb); have I0 := hid_of (I0.out.grow hb); have BEL := BEL.trans (hb.mono BEL.size); obtain ⟨⟨c30, c31, c32, c33, c34, c35⟩, c3f⟩ := X3.out; clear hb) | (go_at_call 33; (with_reducible refine (done_s HX.out _ I0.out.a I0.out.b (by omega) (by omega)).mono ?_); rintro e wn ⟨rfl, hb⟩; have X3 := hid_of (X3.out.grow hb); have I0 := hid_of (I0.out.grow hb); have BEL := BEL.trans (hb.mono BEL.size); obtain ⟨⟨c30, c31, c32, c33, c34, c35⟩, c3f⟩ := X3.out; clear hb))
    clear c30 c31 c32 c33 c34 c35 c3f
    go_loopw [6] (fun i wr => ∃ k : Nat, i = .int .i64 (k : Nat) ∧ k ≤ d.size + 1 ∧ Below wn.heap.size wn wr) (fun i _ => d.size + 1 - (intOf i).toNat)
    case atStart => exact ⟨0, rfl, by omega, Below.refl _ _⟩
    case round =>
      obtain ⟨k, rfl, hk, hb⟩ := hrel
      have X3 := hid_of (X3.out.grow hb)
      have I0 := hid_of (I0.out.grow hb)
      have BEL := BEL.trans (hb.mono BEL.size)
      have BLS := hb
      clear hb
      cases h1 : decide (k ≤ d.size) with
      | true =>
        have p0 : k ≤ d.size := of_decide_eq_true h1
        have p1 : (k : Int) ≤ (d.size : Int) := by omega
        have hk0 : (0 : Int) ≤ (k : Int) := by omega
        obtain ⟨⟨c30, c31, c32, c33, c34, c35⟩, c3f⟩ := X3.out
        go_wp2_with (go_at_call 18; (with_reducible refine (rhas_v VA.out (HM.out _ hk0 p1) _ I0.out.a (by omega)).mono ?_); rintro e wn ⟨rfl, hb⟩; have X3 := hid_of (X3.out.grow hb); have I0 := hid_of (I0.out.grow hb); have BEL := BEL.trans (hb.mono BEL.size); have BLS := BLS.trans (hb.mono BLS.size); obtain ⟨⟨c30, c31, c32, c33, c34, c35⟩, c3f⟩ := X3.out; clear hb)
        go_roundw
        case rel => exact ⟨k + 1, by go_num, by omega, BLS⟩
        case measure => simp [intOf]; omega
      | false =>
        obtain ⟨⟨c30, c31, c32, c33, c34, c35⟩, c3f⟩ := X3.out
        go_wp2_with fail
        clear c30 c31 c32 c33 c34 c35 c3f
        rename World => w3
        with_reducible refine (snext_i _ _ _ _ LA LB A ca B cb 12 _ I0.out.a I0.out.b I0.out.ea I0.out.eb (by omega) (by omega)).mono ?_
        rw [HX2.out]
        rintro e w4 ⟨⟨_, rfl, A1, c1a, B1, c1b, rfl, hI, hJ, hap⟩, hb⟩
        dsimp only at hI hJ
        have hsz4 := hb.size
        have X3 := hid_of (X3.out.grow hb)
        have I0 := hid_of (I0.out.grow hb)
        have BEL := BEL.trans (hb.mono BEL.size)
        have I1 := hid_of (In2.of hI hJ)
        clear hI hJ hap hb
        go_upto_region 14 with (fail)
        generalize hW : World.alloc (World.alloc w4 _) _ = w5
        have hb : Below w4.heap.size w4 w5 := by rw [← hW]; exact ba (ba (Below.refl _ _) _) _
        have X3 := hid_of (X3.out.grow hb)
        have I0 := hid_of (I0.out.grow hb)
        have I1 := hid_of (I1.out.grow hb)
        have BEL := BEL.trans (hb.mono BEL.size)
        have hsz5 : w4.heap.size + 2 ≤ w5.heap.size := by rw [← hW]; simp
        have X7 : Hid (Own6 w5 w4.heap.size d1 f1 l1 n1 A1 LA1.length c1a B1 LB1.length c1b) := by rw [← hW]; exact hid_of ((Own6.newT _ _).alloc _)
        have X8 : Hid (Own3 w5 (w4.heap.size + 1) o2 d2 f2) := by rw [← hW]; exact hid_of (Own3.newT2 _ _)
        clear hW hb
        obtain ⟨⟨c30, c31, c32, c33, c34, c35⟩, c3f⟩ := X3.out
        go_wp2_with fail
        go_ret
        exact ⟨rfl, BEL⟩

end Go.Proofs.Ytmkmaeblnnfheaa
